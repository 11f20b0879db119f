/- FloatMinus: the order of two numbers is the other way of their negatives: the plain statement of the law. -/
import Derived.Test.YtaphfjfalbeojaaFltB
import Derived.Test.YtaphfjfalbeojaaPx12
import Derived.Test.YtaphfjfalbeojaaPx2
set_option linter.unusedVariables false
set_option linter.unusedSimpArgs false
namespace Go.Proofs.Ytaphfjfalbeojaa.Pure
open Go.RowKit Go.Proofs.Ytaphfjfalbeojaa.P Go.Proofs.YtaphfjfalbeojaaW.PrintWords Go.Proofs.YtaphfjfalbeojaaW.PrintLast Go.Proofs.YtaphfjfalbeojaaW.PrintMore
theorem flip63 {a : Nat} (h : a < 18446744073709551616) : ∃ c : Nat, (Go.bits .xor .u64 (a : Int) 9223372036854775808).toNat = c ∧ c = if a < 9223372036854775808 then a + 9223372036854775808 else a - 9223372036854775808 := by
  have h1 := u64_xor_nat a 9223372036854775808 h (by decide)
  have h2 : Go.bits .xor .u64 (a : Int) 9223372036854775808 = ((a ^^^ 9223372036854775808 : Nat) : Int) := h1
  have key : ∀ b : Nat, b < 9223372036854775808 → b ^^^ 9223372036854775808 = b + 9223372036854775808 := by
    intro b hb
    have : b ^^^ 9223372036854775808 = 9223372036854775808 ||| b := by
      apply Nat.eq_of_testBit_eq
      intro i
      rw [Nat.testBit_xor, Nat.testBit_or]
      have h63 : (9223372036854775808 : Nat) = 2 ^ 63 := rfl
      rw [h63, Nat.testBit_two_pow]
      by_cases hi : 63 = i
      · subst hi
        have : b.testBit 63 = false := Nat.testBit_lt_two_pow (by omega)
        simp [this]
      · simp [hi]
    rw [this, nat_join 63 9223372036854775808 b (by decide) (by exact hb), Nat.add_comm]
  refine ⟨a ^^^ 9223372036854775808, by rw [h2]; rfl, ?_⟩
  by_cases hs : a < 9223372036854775808
  · rw [if_pos hs, key a hs]
  · rw [if_neg hs]
    have e := key (a - 9223372036854775808) (by omega)
    have e2 : a - 9223372036854775808 + 9223372036854775808 = a := by omega
    rw [e2] at e
    rw [← e, Nat.xor_assoc, Nat.xor_self, Nat.xor_zero]
    omega
theorem FloatMinus : engrosslaw3_FloatMinus.Pure := by
  intro x y hx hy
  refine ⟨60, ?_⟩
  unfold engrosslaw3_FloatMinus.f
  rw [begun3 (by omega)]
  simp only [Option.bind_some, if_true]
  rw [of3, of3]
  simp only [Option.bind_some]
  have hw := wf_u64 hx
  have hv := wf_u64 hy
  obtain ⟨a, rfl⟩ := Int.eq_ofNat_of_zero_le hw.1
  obtain ⟨b, rfl⟩ := Int.eq_ofNat_of_zero_le hv.1
  have ha : a < 18446744073709551616 := by omega
  have hb : b < 18446744073709551616 := by omega
  rw [Int.toNat_natCast, Int.toNat_natCast, rnan_is ha, rnan_is hb]
  simp only [Option.bind_some, decide_eq_true_eq]
  have yes : ∀ k, engrosslaw3_FloatMinus.j0 (k + 1) (a : Int) (b : Int) a b true = some true := by intro k; simp only [engrosslaw3_FloatMinus.j0]; rfl
  by_cases na : 9218868437227405312 < a % 9223372036854775808
  · rw [if_pos na]; exact yes 59
  rw [if_neg na]
  by_cases nb : 9218868437227405312 < b % 9223372036854775808
  · have : decide (9218868437227405312 < b % 9223372036854775808) = true := by simpa using nb
    rw [this]; exact yes 59
  have : decide (9218868437227405312 < b % 9223372036854775808) = false := by simpa using nb
  rw [this, show (60 : Nat) = 59 + 1 from rfl]
  simp only [engrosslaw3_FloatMinus.j0]
  obtain ⟨c, ec, hc⟩ := flip63 ha
  obtain ⟨d, ed, hd⟩ := flip63 hb
  have hc2 : c < 18446744073709551616 := by rw [hc]; split <;> omega
  have hd2 : d < 18446744073709551616 := by rw [hd]; split <;> omega
  have nc : ¬ 9218868437227405312 < c % 9223372036854775808 := by rw [hc]; split <;> omega
  have nd : ¬ 9218868437227405312 < d % 9223372036854775808 := by rw [hd]; split <;> omega
  rw [if_neg (by simp), of3, of3, ec, ed]
  simp only [Option.bind_some]
  rw [less_is ha hb, less_is hd2 hc2, same_is ha hb, same_is hc2 hd2]
  simp only [Option.bind_some]
  have e : pl c + pl a = 18446744073709551615 ∧ pl d + pl b = 18446744073709551615 := by
    unfold pl
    rw [if_neg na, if_neg nb, if_neg nc, if_neg nd, hc, hd]
    constructor
    · split <;> split <;> omega
    · split <;> split <;> omega
  rw [if_pos (by rw [beq_iff_eq, decide_eq_decide]; omega)]
  congr 1
  rw [beq_iff_eq, decide_eq_decide]
  omega
end Go.Proofs.Ytaphfjfalbeojaa.Pure
