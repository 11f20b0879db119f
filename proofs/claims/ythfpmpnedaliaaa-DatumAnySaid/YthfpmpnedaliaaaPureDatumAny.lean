/- DatumAny: any bytes say the same value to both: the plain statement of the law. -/
import Derived.Test.YthfpmpnedaliaaaDatB
import Derived.Test.YthfpmpnedaliaaaPx7
set_option linter.unusedVariables false
set_option linter.unusedSimpArgs false
namespace Go.Proofs.Ythfpmpnedaliaaa.Pure
open Go.RowKit Go.Proofs.Ythfpmpnedaliaaa.P Go.Proofs.YthfpmpnedaliaaaW.PrintWords Go.Proofs.YthfpmpnedaliaaaW.PrintLast Go.Proofs.YthfpmpnedaliaaaW.PrintMore
theorem DatumAny : engrosslaw4_DatumAny.Pure := by
  intro b _ _ hb
  obtain ⟨k, hk⟩ : ∃ k : Nat, 70 ≤ k := ⟨70, Nat.le_refl _⟩
  refine ⟨k, ?_⟩
  unfold engrosslaw4_DatumAny.f
  rw [begun4 (by omega)]
  simp only [Option.bind_some, if_true]
  rw [show (40 : Int) = ((40 : Nat) : Int) from rfl, short_is]
  simp only [Option.bind_some]
  have hl : ∀ c ∈ b.take 40, 0 ≤ c ∧ c ≤ 255 := fun c hc => wf_u8 (hb c (List.mem_of_mem_take hc))
  have hn : (b.take 40).length ≤ 40 := by rw [List.length_take]; omega
  generalize b.take 40 = l at hl hn
  rw [dget_is hl (by omega) (by omega), rget_val hl (by omega) (by omega)]
  simp only [Option.bind_some]
  rw [if_pos trivial, if_pos trivial, req_is _ (getV_lt hl) _ _ (getV_lt hl)]
  simp only [Option.bind_some]
  rw [if_pos (by simp [eqV]), bits_is]
  simp
end Go.Proofs.Ythfpmpnedaliaaa.Pure
