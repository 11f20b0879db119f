/- DatumCut: a value cut short wants more: the plain statement of the law. -/
import Derived.Test.YthfpmpnedaliaaaDatB
import Derived.Test.YthfpmpnedaliaaaPx7
set_option linter.unusedVariables false
set_option linter.unusedSimpArgs false
namespace Go.Proofs.Ythfpmpnedaliaaa.Pure
open Go.RowKit Go.Proofs.Ythfpmpnedaliaaa.P Go.Proofs.YthfpmpnedaliaaaW.PrintWords Go.Proofs.YthfpmpnedaliaaaW.PrintLast Go.Proofs.YthfpmpnedaliaaaW.PrintMore
theorem DatumCut : engrosslaw4_DatumCut.Pure := by
  intro kd b s cut hkd hb _ hcut
  obtain ⟨k, hk⟩ : ∃ k : Nat, 70 ≤ k := ⟨70, Nat.le_refl _⟩
  refine ⟨k, ?_⟩
  unfold engrosslaw4_DatumCut.f
  rw [begun4 (by omega)]
  simp only [Option.bind_some, if_true]
  obtain ⟨t, et, ht⟩ := val_is kd b s
  rw [et]
  simp only [Option.bind_some]
  have hf := toNat_lt hb
  generalize b.toNat = f at hf
  rw [rmay_is kd hf t]
  simp only [Option.bind_some]
  by_cases hm : mayV kd f t = true
  · rw [if_pos hm, dput_is hkd hf (by omega) (by omega) (by simp), List.nil_append]
    simp only [Option.bind_some]
    have hlen := putV_len hkd f (s := t) (by omega)
    by_cases h1 : cut < 1
    · rw [if_pos h1]
    · rw [if_neg h1]
      by_cases h2 : cut > ((putV kd f t).length : Int)
      · rw [if_pos h2]
      · rw [if_neg h2, w64 (x := ((putV kd f t).length : Int) - cut) (by omega), if_pos (by omega), if_pos (by omega)]
        have hbs := putV_bytes hkd f (s := t) (by omega)
        rw [dget_is (fun c hc => hbs c (List.mem_of_mem_take hc)) (by rw [List.length_take]; omega) (by omega), getV_cut hm hf (by omega)]
        simp only [Option.bind_some]
        rw [if_pos trivial, if_pos trivial, if_pos trivial, nil_list]
        rfl
  · rw [if_neg hm]
end Go.Proofs.Ythfpmpnedaliaaa.Pure
