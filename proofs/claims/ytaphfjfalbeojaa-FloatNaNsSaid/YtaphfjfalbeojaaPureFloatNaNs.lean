/- FloatNaNs: all NaNs are one, whatever their bits, and stand ahead of all others: the plain statement of the law. -/
import Derived.Test.YtaphfjfalbeojaaFltB
import Derived.Test.YtaphfjfalbeojaaPx1
import Derived.Test.YtaphfjfalbeojaaPx10
import Derived.Test.YtaphfjfalbeojaaPx2
set_option linter.unusedVariables false
set_option linter.unusedSimpArgs false
namespace Go.Proofs.Ytaphfjfalbeojaa.Pure
open Go.RowKit Go.Proofs.Ytaphfjfalbeojaa.P Go.Proofs.YtaphfjfalbeojaaW.PrintWords Go.Proofs.YtaphfjfalbeojaaW.PrintLast Go.Proofs.YtaphfjfalbeojaaW.PrintMore
theorem or_nan {x : Int} (h : 0 ≤ x ∧ x < 18446744073709551616) : ∃ a : Nat, (Go.bits .or .u64 x 9218868437227405313).toNat = a ∧ a < 18446744073709551616 ∧ 9218868437227405312 < a % 9223372036854775808 := by
  obtain ⟨n, rfl⟩ := Int.eq_ofNat_of_zero_le h.1
  have h1 := u64_or_nat n 9218868437227405313 (by omega) (by decide)
  have h2 : Go.bits .or .u64 (n : Int) 9218868437227405313 = ((n ||| 9218868437227405313 : Nat) : Int) := h1
  refine ⟨n ||| 9218868437227405313, by rw [h2]; rfl, Nat.or_lt_two_pow (n := 64) (by omega) (by decide), ?_⟩
  have h3 : (n ||| 9218868437227405313) % 2 ^ 63 = n % 2 ^ 63 ||| 9218868437227405313 % 2 ^ 63 := Nat.or_mod_two_pow
  have h4 : 9218868437227405313 ≤ n % 2 ^ 63 ||| 9218868437227405313 := Nat.right_le_or
  have h5 : 9218868437227405313 % 2 ^ 63 = 9218868437227405313 := by decide
  rw [h5] at h3
  have h6 : (n ||| 9218868437227405313) % 9223372036854775808 = (n ||| 9218868437227405313) % 2 ^ 63 := rfl
  omega
theorem FloatNaNs : engrosslaw3_FloatNaNs.Pure := by
  intro x y z hx hy hz
  refine ⟨60, ?_⟩
  unfold engrosslaw3_FloatNaNs.f
  rw [begun3 (by omega)]
  simp only [Option.bind_some, if_true]
  obtain ⟨a, ea, ha, na⟩ := or_nan (wf_u64 hx)
  obtain ⟨b, eb, hb, nb⟩ := or_nan (wf_u64 hy)
  rw [of3, of3, of3, ea, eb]
  simp only [Option.bind_some]
  have hc := toNat_lt hz
  generalize z.toNat = c at hc
  have pa : pl a = 0 := by unfold pl; rw [if_pos na]
  have pb : pl b = 0 := by unfold pl; rw [if_pos nb]
  rw [same_is ha hb, bytes_is ha (by omega), bytes_is hb (by omega), clean_is, clean_is, if_pos na, if_pos nb, pa, pb]
  simp only [Option.bind_some, decide_true, if_true]
  rw [bits_is]
  simp only [Option.bind_some, decide_true, Bool.not_true]
  rw [show (60 : Nat) = 59 + 1 from rfl]
  simp only [engrosslaw3_FloatNaNs.j0]
  rw [if_neg (by simp), rnan_is hc, less_is ha hc, less_is hc ha]
  simp only [Option.bind_some]
  rw [pa]
  have : (decide (9218868437227405312 < c % 9223372036854775808) == !decide (0 < pl c)) = true := by
    rw [beq_iff_eq]
    by_cases hn : 9218868437227405312 < c % 9223372036854775808
    · have : pl c = 0 := by unfold pl; rw [if_pos hn]
      rw [this]; simp [hn]
    · have : 0 < pl c := by
        unfold pl
        rw [if_neg hn]
        split <;> omega
      simp [hn, this]
  rw [if_pos this]
  simp
end Go.Proofs.Ytaphfjfalbeojaa.Pure
