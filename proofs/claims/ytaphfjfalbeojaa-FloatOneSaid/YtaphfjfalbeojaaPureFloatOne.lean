/- FloatOne: a float's own sum is that float, all NaNs one, minus nought nought: the plain statement of the law. -/
import Derived.Test.YtaphfjfalbeojaaFltW
import Derived.Test.YtaphfjfalbeojaaPx8
set_option linter.unusedVariables false
set_option linter.unusedSimpArgs false
namespace Go.Proofs.Ytaphfjfalbeojaa.Pure
open Go.RowKit Go.Proofs.Ytaphfjfalbeojaa.P Go.Proofs.YtaphfjfalbeojaaW.PrintWords Go.Proofs.YtaphfjfalbeojaaW.PrintLast Go.Proofs.YtaphfjfalbeojaaW.PrintMore
theorem sum_one (a : Nat) : float_Sum.f [a] = some (match floatBits .add .f64 0 a with | some b => b | none => 9221120237041090560) := by
  unfold float_Sum.f
  rw [if_pos (by simp)]
  rfl
theorem FloatOne : engrosslaw3_FloatOne.Pure := by
  intro x hx
  obtain ⟨k, hk⟩ : ∃ k : Nat, 60 ≤ k := ⟨60, Nat.le_refl _⟩
  refine ⟨k, ?_⟩
  unfold engrosslaw3_FloatOne.f
  rw [begun3 (by omega)]
  simp only [Option.bind_some, if_true]
  rw [of3, of3]
  simp only [Option.bind_some]
  have ha := toNat_lt hx
  have hx0 := wf_u64 hx
  have hsum0 : float_Sum.f ([] : List Nat) = some 0 := by
    unfold float_Sum.f
    rw [if_pos (by simp)]
    rfl
  rw [sum_one, rnan_is ha, hsum0]
  simp only [Option.bind_some, bits_is]
  by_cases na : 9218868437227405312 < x.toNat % 9223372036854775808
  · rw [if_pos (decide_eq_true na), add_nan' na]
    rfl
  · rw [if_neg (by simp only [decide_eq_true_eq]; exact na)]
    by_cases hi : x.toNat % 9223372036854775808 = 9218868437227405312
    · rw [if_neg (by omega), add_inf (a := 0) (by decide) ha (by decide) hi]
      simp
    · rw [zero_add ha (by omega)]
      dsimp only
      by_cases hm : x = 9223372036854775808
      · rw [if_pos hm, if_pos (by omega)]
        rfl
      · rw [if_neg hm]
        have : (if x.toNat % 9223372036854775808 = 0 then 0 else x.toNat) = x.toNat := by
          split <;> omega
        rw [this]
        simp
end Go.Proofs.Ytaphfjfalbeojaa.Pure
