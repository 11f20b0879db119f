/- FloatBytes: any float goes to its bytes and back; any eight bytes are a floats, or nones: the plain statement of the law. -/
import Derived.Test.YtaphfjfalbeojaaFltB
import Derived.Test.YtaphfjfalbeojaaPx1
import Derived.Test.YtaphfjfalbeojaaPx2
import Derived.Test.YtaphfjfalbeojaaPx4
set_option linter.unusedVariables false
set_option linter.unusedSimpArgs false
namespace Go.Proofs.Ytaphfjfalbeojaa.Pure
open Go.RowKit Go.Proofs.Ytaphfjfalbeojaa.P Go.Proofs.YtaphfjfalbeojaaW.PrintWords Go.Proofs.YtaphfjfalbeojaaW.PrintLast Go.Proofs.YtaphfjfalbeojaaW.PrintMore
theorem FloatBytes : engrosslaw3_FloatBytes.Pure := by
  intro x raw hx _ _ hr
  refine ⟨60, ?_⟩
  unfold engrosslaw3_FloatBytes.f
  rw [begun3 (by omega)]
  simp only [Option.bind_some, if_true]
  rw [of3]
  simp only [Option.bind_some]
  have ha := toNat_lt hx
  generalize x.toNat = a at ha
  have pa := pl_lt ha
  rw [bytes_is ha (by omega)]
  simp only [Option.bind_some]
  rw [of_is (be_bytes 8 _) (by omega), rbytes_is ha (by omega)]
  simp only [Option.bind_some]
  have ef := fo_pl ha
  have ep : pl (fo (pl a)) = pl a := by rw [ef, pl_clean ha]
  rw [if_pos trivial, ofL_be pa, if_pos ep]
  simp only [if_true]
  rw [rclean_is ha, clean_is]
  simp only [Option.bind_some]
  rw [bits_is]
  simp only [Option.bind_some]
  rw [if_pos (by rw [decide_eq_true_eq]; exact ef), bits_is]
  simp only [Option.bind_some]
  have hb : ∀ c ∈ raw.take 12, 0 ≤ c ∧ c ≤ 255 := by
    intro c hc
    have := hr c (List.mem_of_mem_take hc)
    simpa [Lit.wf, IntKind.min, IntKind.max, IntKind.signed, IntKind.bits] using this
  rw [show (60 : Nat) = 59 + 1 from rfl]
  simp only [engrosslaw3_FloatBytes.j0]
  rw [if_neg (by simp), show (12 : Int) = ((12 : Nat) : Int) from rfl, short3]
  simp only [Option.bind_some]
  generalize raw.take 12 = l at hb
  rw [of_is hb (by omega), rof_is hb (by omega)]
  simp only [Option.bind_some]
  unfold ofL
  by_cases h8 : l.length = 8
  · rw [if_pos h8, if_pos h8]
    by_cases hp : pl (fo (unbe l)) = unbe l
    · rw [if_pos (by simp [hp]), if_pos hp, if_pos rfl, bits_is]
      simp
    · rw [if_neg (by simp [hp]), if_neg hp, if_neg (by simp), bits_is]
      simp
  · rw [if_neg h8, if_neg h8, if_neg (by simp), if_neg (by simp), bits_is]
    simp
end Go.Proofs.Ytaphfjfalbeojaa.Pure
