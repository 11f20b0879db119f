/- DatumAll: which values may be; to bytes and back; the same: the plain statement of the law. -/
import Derived.Test.YthfpmpnedaliaaaDatB
import Derived.Test.YthfpmpnedaliaaaPx5
set_option linter.unusedVariables false
set_option linter.unusedSimpArgs false
namespace Go.Proofs.Ythfpmpnedaliaaa.Pure
open Go.RowKit Go.Proofs.Ythfpmpnedaliaaa.P Go.Proofs.YthfpmpnedaliaaaW.PrintWords Go.Proofs.YthfpmpnedaliaaaW.PrintLast Go.Proofs.YthfpmpnedaliaaaW.PrintMore
theorem DatumAll : engrosslaw4_DatumAll.Pure := by
  intro kd b s kd' b' s' rest hkd hb _ hkd' hb' _ _ _ hr
  obtain ⟨k, hk⟩ : ∃ k : Nat, 100 ≤ k := ⟨100, Nat.le_refl _⟩
  refine ⟨k, ?_⟩
  unfold engrosslaw4_DatumAll.f
  rw [begun4 (by omega)]
  simp only [Option.bind_some, if_true]
  obtain ⟨t, et, ht⟩ := val_is kd b s
  obtain ⟨t', et', ht'⟩ := val_is kd' b' s'
  rw [et, et']
  simp only [Option.bind_some]
  rw [show (10 : Int) = ((10 : Nat) : Int) from rfl, short_is]
  simp only [Option.bind_some]
  have hf := toNat_lt hb
  generalize b.toNat = f at hf
  have hf' := toNat_lt hb'
  generalize b'.toNat = f' at hf'
  have hrb : ∀ c ∈ rest.take 10, 0 ≤ c ∧ c ≤ 255 := fun c hc => wf_u8 (hr c (List.mem_of_mem_take hc))
  have hrl : (rest.take 10).length ≤ 10 := by rw [List.length_take]; omega
  generalize rest.take 10 = R at hrl hrb
  rw [may_is, rmay_is kd hf t]
  simp only [Option.bind_some]
  rw [may_is, rmay_is kd' hf' t']
  simp only [Option.bind_some]
  rw [if_neg (by simp)]
  have ebb : ∀ x : Bool, (x != x) = false := by decide
  rw [ebb]
  obtain ⟨k, rfl⟩ : ∃ m, k = m + 1 := ⟨k - 1, by omega⟩
  simp only [engrosslaw4_DatumAll.j0]
  rw [if_neg (by decide), rmay_is kd hf t]
  simp only [Option.bind_some]
  by_cases hm : mayV kd f t = true
  · rw [if_pos hm]
    have hpl := putV_len hkd f (s := t) (by omega)
    have hpb := putV_bytes hkd f (s := t) (by omega)
    rw [if_pos (by simp; omega), List.nil_append, dput_is hkd hf (by omega) (by omega) (by omega)]
    simp only [Option.bind_some]
    rw [rput_val hkd hf (by omega) (by omega)]
    simp only [Option.bind_some]
    rw [if_pos (by rw [strOfNums_size, strOfNums_size]; omega), if_pos (str_app _ _), if_pos (by omega), if_pos (by simp only [List.length_append]; omega)]
    rw [Int.toNat_natCast, List.drop_left, if_pos (by simp; omega), List.nil_append]
    rw [if_pos (by omega), dget_is (app_in hpb hrb) (by rw [List.length_append]; omega) (by omega), getV_putV hm hf]
    simp only [Option.bind_some]
    rw [if_pos trivial, w64 (x := ((R ++ putV kd f t).length : Int) - R.length) (by simp only [List.length_append]; omega), if_pos (by simp only [List.length_append]; omega)]
    rw [req_is kd hf t kd hf t]
    simp only [Option.bind_some]
    rw [if_pos (by simp [eqV]), bits_is]
    simp only [Option.bind_some]
    rw [if_pos (by simp), rmay_is kd' hf' t']
    simp only [Option.bind_some]
    by_cases hm' : mayV kd' f' t' = true
    · rw [if_pos hm', eq_is kd hf t kd' hf' t', req_is kd hf t kd' hf' t']
      simp
    · rw [if_neg hm']
  · rw [if_neg hm]
end Go.Proofs.Ythfpmpnedaliaaa.Pure
