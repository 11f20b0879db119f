/- FloatNext: of two floats next to one another none stands between, and neither do their bytes: the plain statement of the law. -/
import Derived.Test.YtaphfjfalbeojaaFltB
import Derived.Test.YtaphfjfalbeojaaPx11
import Derived.Test.YtaphfjfalbeojaaPx2
set_option linter.unusedVariables false
set_option linter.unusedSimpArgs false
namespace Go.Proofs.Ytaphfjfalbeojaa.Pure
open Go.RowKit Go.Proofs.Ytaphfjfalbeojaa.P Go.Proofs.YtaphfjfalbeojaaW.PrintWords Go.Proofs.YtaphfjfalbeojaaW.PrintLast Go.Proofs.YtaphfjfalbeojaaW.PrintMore
theorem FloatNext : engrosslaw3_FloatNext.Pure := by
  intro x hx
  refine ⟨60, ?_⟩
  unfold engrosslaw3_FloatNext.f
  rw [begun3 (by omega)]
  simp only [Option.bind_some, if_true]
  rw [of3, of3]
  simp only [Option.bind_some]
  have hw := wf_u64 hx
  obtain ⟨a, rfl⟩ := Int.eq_ofNat_of_zero_le hw.1
  have ha : a < 18446744073709551616 := by omega
  obtain ⟨b, eb, hb⟩ : ∃ b : Nat, IntKind.u64.wrap ((a : Int) + 1) = (b : Int) ∧ b = (a + 1) % 18446744073709551616 := ⟨(a + 1) % 18446744073709551616, by rw [IntKind.wrap_u64]; rfl, rfl⟩
  have hb2 : b < 18446744073709551616 := by omega
  rw [eb, Int.toNat_natCast, Int.toNat_natCast, rnan_is ha, rnan_is hb2]
  simp only [Option.bind_some, decide_eq_true_eq]
  have yes : ∀ k, engrosslaw3_FloatNext.j0 (k + 1) (a : Int) a b true = some true := by intro k; simp only [engrosslaw3_FloatNext.j0]; rfl
  by_cases na : 9218868437227405312 < a % 9223372036854775808
  · rw [if_pos na]; exact yes 59
  rw [if_neg na]
  by_cases nb : 9218868437227405312 < b % 9223372036854775808
  · rw [if_pos nb]; exact yes 59
  rw [if_neg nb]
  by_cases hs : (a : Int) / 9223372036854775808 = (b : Int) / 9223372036854775808
  rotate_left
  · have : ((a : Int) / 9223372036854775808 != (b : Int) / 9223372036854775808) = true := by simpa using hs
    rw [this]; exact yes 59
  have e0 : ((a : Int) / 9223372036854775808 != (b : Int) / 9223372036854775808) = false := by simpa using hs
  rw [e0, show (60 : Nat) = 59 + 1 from rfl]
  simp only [engrosslaw3_FloatNext.j0]
  rw [if_neg (by simp), less_is ha hb2, less_is hb2 ha, bytes_is ha (by omega), bytes_is hb2 (by omega)]
  simp only [Option.bind_some]
  rw [be8_less (pl_lt ha) (pl_lt hb2)]
  have e1 : decide (pl a < pl b) = ((a : Int) / 9223372036854775808 == 0) := by
    rw [Bool.eq_iff_iff]
    simp only [decide_eq_true_eq, beq_iff_eq]
    unfold pl
    rw [if_neg na, if_neg nb]
    split <;> split <;> omega
  have e2 : decide (pl b < pl a) = !((a : Int) / 9223372036854775808 == 0) := by
    rw [Bool.eq_iff_iff]
    simp only [decide_eq_true_eq, Bool.not_eq_true', beq_eq_false_iff_ne, ne_eq]
    unfold pl
    rw [if_neg na, if_neg nb]
    split <;> split <;> omega
  rw [e1, e2]
  simp
end Go.Proofs.Ytaphfjfalbeojaa.Pure
