/- FloatGo: the order is the language's where no NaN is: the plain statement of the law. -/
import Derived.Test.YtaphfjfalbeojaaFltW
import Derived.Test.YtaphfjfalbeojaaPx5
set_option linter.unusedVariables false
set_option linter.unusedSimpArgs false
namespace Go.Proofs.Ytaphfjfalbeojaa.Pure
open Go.RowKit Go.Proofs.Ytaphfjfalbeojaa.P Go.Proofs.YtaphfjfalbeojaaW.PrintWords Go.Proofs.YtaphfjfalbeojaaW.PrintLast Go.Proofs.YtaphfjfalbeojaaW.PrintMore
theorem pl_pos {a : Nat} (ha2 : a < 18446744073709551616) (h : a % 9223372036854775808 ≤ 9218868437227405312) : 0 < pl a := by
  unfold pl
  rw [if_neg (by omega)]
  split <;> omega
theorem pl_nan {a : Nat} (h : 9218868437227405312 < a % 9223372036854775808) : pl a = 0 := by
  unfold pl
  rw [if_pos h]
theorem go_j0 {a b : Nat} (ha : a < 18446744073709551616) (hb : b < 18446744073709551616) (k : Nat) (na : a % 9223372036854775808 ≤ 9218868437227405312) (nb : b % 9223372036854775808 ≤ 9218868437227405312) : engrosslaw3_FloatGo.j0 (k + 1) a b false = some true := by
  simp only [engrosslaw3_FloatGo.j0]
  rw [if_neg (by decide), order_V ha hb na nb]
  rcases Int.lt_trichotomy (V a) (V b) with h | h | h
  · have hp := pl_of_V ha hb na nb h
    rw [Int.compare_eq_lt.2 h, if_pos (by decide), less_is ha hb, less_is hb ha]
    simp only [Option.bind_some]
    rw [if_pos (decide_eq_true hp), decide_eq_false (show ¬ pl b < pl a by omega)]
    rfl
  · rw [Int.compare_eq_eq.2 h, if_neg (by decide), if_neg (by decide), if_pos (by decide), same_is ha hb]
    simp only [Option.bind_some]
    by_cases hp : pl a = pl b
    · rw [if_pos (decide_eq_true hp)]
    · rw [if_neg (by simp [hp])]
      rcases V_eq ha hb h with h1 | ⟨h1, h2⟩
      · exact absurd (by rw [h1]) hp
      · rw [order_V ha (by decide) na (by decide), Int.compare_eq_eq.2 (by rw [V_zero h1]; rfl), if_pos (by decide), less_is ha hb, less_is hb ha]
        simp only [Option.bind_some]
        rcases Nat.lt_or_gt_of_ne hp with h3 | h3
        · rw [decide_eq_true h3, decide_eq_false (show ¬ pl b < pl a by omega)]; rfl
        · rw [decide_eq_true (show pl b < pl a from h3), decide_eq_false (show ¬ pl a < pl b by omega)]; rfl
  · have hp := pl_of_V hb ha nb na h
    rw [Int.compare_eq_gt.2 h, if_neg (by decide), if_pos (by decide), less_is ha hb, less_is hb ha]
    simp only [Option.bind_some]
    rw [if_pos (decide_eq_true hp), decide_eq_false (show ¬ pl a < pl b by omega)]
    rfl
theorem FloatGo : engrosslaw3_FloatGo.Pure := by
  intro x y hx hy
  obtain ⟨k, hk⟩ : ∃ k : Nat, 60 ≤ k := ⟨60, Nat.le_refl _⟩
  refine ⟨k, ?_⟩
  unfold engrosslaw3_FloatGo.f
  rw [begun3 (by omega)]
  simp only [Option.bind_some, if_true]
  rw [of3, of3]
  simp only [Option.bind_some]
  have ha := toNat_lt hx
  have hb := toNat_lt hy
  generalize x.toNat = a at ha
  generalize y.toNat = b at hb
  rw [rnan_is ha, rnan_is hb]
  simp only [Option.bind_some]
  obtain ⟨k, rfl⟩ : ∃ m, k = m + 1 := ⟨k - 1, by omega⟩
  have key : ∀ c : Bool, (9218868437227405312 < a % 9223372036854775808 ∨ 9218868437227405312 < b % 9223372036854775808) → engrosslaw3_FloatGo.j0 (k + 1) a b true = some true := by
    intro _ h
    simp only [engrosslaw3_FloatGo.j0]
    rw [if_pos trivial, less_is ha hb, rnan_is ha, rnan_is hb]
    simp only [Option.bind_some]
    by_cases na : 9218868437227405312 < a % 9223372036854775808
    · rw [if_pos (decide_eq_true na), pl_nan na]
      by_cases nb : 9218868437227405312 < b % 9223372036854775808
      · rw [pl_nan nb, decide_eq_true nb]; rfl
      · have := pl_pos hb (by omega)
        rw [decide_eq_true this, decide_eq_false nb]; rfl
    · rw [if_neg (by simp only [decide_eq_true_eq]; exact na), pl_nan (a := b) (by omega)]
      rw [decide_eq_false (by omega)]; rfl
  by_cases na : 9218868437227405312 < a % 9223372036854775808
  · rw [if_pos (decide_eq_true na)]
    exact key true (Or.inl na)
  · rw [if_neg (by simp only [decide_eq_true_eq]; exact na)]
    by_cases nb : 9218868437227405312 < b % 9223372036854775808
    · rw [decide_eq_true nb]
      exact key true (Or.inr nb)
    · rw [decide_eq_false nb]
      exact go_j0 ha hb k (by omega) (by omega)
end Go.Proofs.Ytaphfjfalbeojaa.Pure
