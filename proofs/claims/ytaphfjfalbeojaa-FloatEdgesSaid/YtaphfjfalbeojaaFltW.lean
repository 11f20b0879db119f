/- Plain lemmas: the place in the order by worth; whole numbers as floats; sums of two. No condition. -/
import Derived.Test.YtaphfjfalbeojaaFltB
import Derived.Test.YtaphfjfalbeojaaFltV
set_option linter.unusedVariables false
set_option linter.unusedSimpArgs false
namespace Go.Proofs.Ytaphfjfalbeojaa.Pure
open Go.RowKit Go.Proofs.Ytaphfjfalbeojaa.P Go.Proofs.YtaphfjfalbeojaaW.PrintWords Go.Proofs.YtaphfjfalbeojaaW.PrintLast Go.Proofs.YtaphfjfalbeojaaW.PrintMore

/-- The least place's depth. -/
def E0 : Nat := 1074
theorem pl_of_V {a b : Nat} (ha2 : a < 18446744073709551616) (hb2 : b < 18446744073709551616) (ha : a % 9223372036854775808 ≤ 9218868437227405312) (hb : b % 9223372036854775808 ≤ 9218868437227405312) (h : V a < V b) : pl a < pl b := by
  unfold V at h
  unfold pl
  rw [if_neg (Nat.not_lt.2 ha), if_neg (Nat.not_lt.2 hb)]
  have r1 := fun e => @val_rev (a % 9223372036854775808) (b % 9223372036854775808) e
  have r2 := fun e => @val_rev (b % 9223372036854775808) (a % 9223372036854775808) e
  by_cases hs : a < 9223372036854775808
  · by_cases ht : b < 9223372036854775808
    · rw [if_pos hs, if_pos ht] at h
      rw [if_pos hs, if_pos ht]
      have := r1 (by omega)
      omega
    · rw [if_pos hs, if_neg ht] at h
      omega
  · by_cases ht : b < 9223372036854775808
    · rw [if_neg hs, if_pos ht]
      omega
    · rw [if_neg hs, if_neg ht] at h
      rw [if_neg hs, if_neg ht]
      have := r2 (by omega)
      omega
theorem V_eq {a b : Nat} (ha2 : a < 18446744073709551616) (hb2 : b < 18446744073709551616) (h : V a = V b) : a = b ∨ (a % 9223372036854775808 = 0 ∧ b % 9223372036854775808 = 0) := by
  unfold V at h
  have r1 := fun e => @val_inj (a % 9223372036854775808) (b % 9223372036854775808) e
  have z1 := fun e => @val_inj (a % 9223372036854775808) 0 e
  have z2 := fun e => @val_inj (b % 9223372036854775808) 0 e
  rw [val_zero] at z1 z2
  by_cases hs : a < 9223372036854775808
  · by_cases ht : b < 9223372036854775808
    · rw [if_pos hs, if_pos ht] at h
      have := r1 (by omega)
      omega
    · rw [if_pos hs, if_neg ht] at h
      have h1 := z1 (by omega)
      have h2 := z2 (by omega)
      omega
  · by_cases ht : b < 9223372036854775808
    · rw [if_neg hs, if_pos ht] at h
      have h1 := z1 (by omega)
      have h2 := z2 (by omega)
      omega
    · rw [if_neg hs, if_neg ht] at h
      have := r1 (by omega)
      omega
theorem V_zero {a : Nat} (h : a % 9223372036854775808 = 0) : V a = 0 := by
  unfold V
  rw [h, val_zero]
  split <;> rfl

/-! ### whole numbers -/
/-- A whole number below 2^53, as a binade's. -/
theorem norm {n : Nat} (h0 : 0 < n) (h1 : n < 9007199254740992) : ∃ K e : Nat, 4503599627370496 ≤ K ∧ K < 9007199254740992 ∧ n * 2 ^ E0 = K * 2 ^ e ∧ e ≤ 2045 := by
  have hl : n.log2 ≤ 52 := by
    have : n.log2 < 53 := by rw [Nat.log2_lt (by omega)]; exact h1
    omega
  have h2 := Nat.log2_self_le (n := n) (by omega)
  have h3 := Nat.lt_log2_self (n := n)
  obtain ⟨d, hd⟩ : ∃ d, 52 = n.log2 + d := ⟨52 - n.log2, by omega⟩
  refine ⟨n * 2 ^ d, 1022 + n.log2, ?_, ?_, ?_, by omega⟩
  · have : (4503599627370496 : Nat) = 2 ^ n.log2 * 2 ^ d := by rw [← Nat.pow_add, ← hd]
    rw [this]
    exact Nat.mul_le_mul_right _ h2
  · have : (9007199254740992 : Nat) = 2 ^ (n.log2 + 1) * 2 ^ d := by
      rw [← Nat.pow_add, show n.log2 + 1 + d = 53 by omega]
    rw [this]
    exact Nat.mul_lt_mul_of_pos_right h3 (Nat.pow_pos (by decide))
  · rw [Nat.mul_assoc, ← Nat.pow_add, show d + (1022 + n.log2) = E0 by unfold E0; omega]
theorem val_of {K e : Nat} (h1 : 4503599627370496 ≤ K) (h2 : K < 9007199254740992) : val (e * 4503599627370496 + K) = K * 2 ^ e := by
  unfold val
  rw [if_neg (by omega)]
  have e1 : (e * 4503599627370496 + K) % 4503599627370496 = K - 4503599627370496 := by omega
  have e2 : (e * 4503599627370496 + K) / 4503599627370496 - 1 = e := by omega
  rw [e1, e2, show 4503599627370496 + (K - 4503599627370496) = K by omega]
theorem V_word (s : Bool) {r : Nat} (h : r ≤ 9218868437227405312) : V (Ieee.double.word s r) = if s = true then -(val r : Int) else (val r : Int) := by
  obtain ⟨h1, h2, h3⟩ := word_mod_eq s h
  unfold V
  rw [h1]
  cases s
  · rw [if_pos (h3.2 rfl), if_neg (by decide)]
  · rw [if_neg (fun h => by have := h3.1 h; cases this), if_pos rfl]
/-- What a whole number is told as. -/
theorem ofInt_def (a : Int) : floatOfInt .f64 a = Ieee.double.nearest (decide (a < 0)) a.natAbs 0 := rfl
theorem ofInt_is {a : Int} (h1 : -9007199254740992 < a) (h2 : a < 9007199254740992) : ∃ r : Nat, floatOfInt .f64 a = Ieee.double.word (decide (a < 0)) r ∧ r < 9218868437227405312 ∧ val r = a.natAbs * 2 ^ E0 ∧ (a = 0 → r = 0) ∧ (∀ (T : Int) (D : Nat), a ≠ 0 → T.natAbs * 2 ^ D = a.natAbs * 2 ^ E0 → ∀ s, Ieee.double.nearest s T.natAbs (-1074 + (D : Int)) = Ieee.double.word s r) := by
  rw [ofInt_def]
  by_cases h0 : a = 0
  · subst h0
    exact ⟨0, rfl, by decide, by rw [val_zero]; simp, fun _ => rfl, fun _ _ h => absurd rfl h⟩
  · obtain ⟨K, e, k1, k2, k3, k4⟩ := norm (n := a.natAbs) (by omega) (by omega)
    refine ⟨e * 4503599627370496 + K, ?_, by omega, by rw [val_of k1 k2, k3], fun h => absurd h h0, ?_⟩
    · have := nearest_exact (decide (a < 0)) (mag := a.natAbs) (D := E0) k1 k2 k3 k4
      exact this
    · intro T D _ hT s
      exact nearest_exact s k1 k2 (by rw [hT, k3]) k4
theorem ofInt_V {a : Int} (h1 : -9007199254740992 < a) (h2 : a < 9007199254740992) : ∃ x : Nat, floatOfInt .f64 a = x ∧ x < 18446744073709551616 ∧ x % 9223372036854775808 < 9218868437227405312 ∧ V x = a * ((2 ^ E0 : Nat) : Int) ∧ (x % 9223372036854775808 = 0 → x = 0) ∧ (a = 0 → x = 0) ∧ (0 ≤ a → x < 9223372036854775808) := by
  obtain ⟨r, e, hr, hv, hz, _⟩ := ofInt_is h1 h2
  obtain ⟨w1, w2, w3⟩ := word_mod_eq (decide (a < 0)) (Nat.le_of_lt hr)
  refine ⟨_, e, w2, by rw [w1]; exact hr, ?_, ?_, ?_, ?_⟩
  · rw [V_word _ (Nat.le_of_lt hr), hv]
    by_cases h : a < 0
    · rw [if_pos (decide_eq_true h), Int.natCast_mul, ← Int.neg_mul]
      congr 1
      omega
    · rw [if_neg (by simp; omega), Int.natCast_mul]
      congr 1
      omega
  · intro h
    rw [w1] at h
    rw [h, val_zero] at hv
    have hp : 0 < 2 ^ E0 := Nat.pow_pos (by decide)
    have ha : a.natAbs = 0 := by
      rcases Nat.mul_eq_zero.1 hv.symm with h | h
      · exact h
      · omega
    have : a = 0 := by omega
    rw [h, this]
    rfl
  · intro h
    rw [hz h, h]
    rfl
  · intro h
    exact w3.2 (decide_eq_false (by omega))
/-- Two whole numbers, added. -/
theorem ofInt_add {a b : Int} (h1 : -4503599627370496 < a ∧ a < 4503599627370496) (h2 : -4503599627370496 < b ∧ b < 4503599627370496) : floatBits .add .f64 (floatOfInt .f64 a) (floatOfInt .f64 b) = some (floatOfInt .f64 (a + b)) := by
  obtain ⟨x, ex, x2, xn, xV, _, _, xp⟩ := ofInt_V (a := a) (by omega) (by omega)
  obtain ⟨y, ey, y2, yn, yV, _, _, yp⟩ := ofInt_V (a := b) (by omega) (by omega)
  obtain ⟨T, D, hT, hadd⟩ := add_is x2 y2 xn yn
  rw [ex, ey, hadd]
  rw [xV, yV, ← Int.add_mul] at hT
  have hp : (0 : Int) < ((2 ^ E0 : Nat) : Int) := Int.natCast_pos.2 (Nat.pow_pos (by decide))
  have hq : (0 : Int) < ((2 ^ D : Nat) : Int) := Int.natCast_pos.2 (Nat.pow_pos (by decide))
  have hab : T.natAbs * 2 ^ D = (a + b).natAbs * 2 ^ E0 := by
    have := congrArg Int.natAbs hT
    rw [Int.natAbs_mul, Int.natAbs_mul, Int.natAbs_natCast, Int.natAbs_natCast] at this
    exact this
  obtain ⟨r, e, hr, hv, hz, hn⟩ := ofInt_is (a := a + b) (by omega) (by omega)
  by_cases h0 : a + b = 0
  · rw [h0, Int.zero_mul] at hT
    have hT0 : T = 0 := by
      rcases Int.mul_eq_zero.1 hT with h | h
      · exact h
      · omega
    have hs : (decide (9223372036854775808 ≤ x) && decide (9223372036854775808 ≤ y)) = false := by
      by_cases ha : 0 ≤ a
      · have := xp ha
        rw [decide_eq_false (by omega), Bool.false_and]
      · have := yp (by omega)
        rw [decide_eq_false (show ¬ 9223372036854775808 ≤ y by omega), Bool.and_false]
    rw [if_pos hT0, hs, hT0, h0, ofInt_def]
    unfold Ieee.Format.nearest
    rw [if_pos (show Int.natAbs 0 = 0 from rfl), if_pos (show Int.natAbs 0 = 0 from rfl)]
    rfl
  · have hT0 : T ≠ 0 := by
      intro h
      rw [h, Int.zero_mul] at hT
      rcases Int.mul_eq_zero.1 hT.symm with h | h
      · exact h0 h
      · omega
    rw [if_neg hT0, hn T D h0 hab, e]
    congr 2
    rw [decide_eq_decide]
    constructor
    · intro h
      have h3 : T * ((2 ^ D : Nat) : Int) < 0 := Int.mul_neg_of_neg_of_pos h hq
      rw [hT] at h3
      by_cases h4 : 0 ≤ a + b
      · have := Int.mul_nonneg h4 (Int.le_of_lt hp)
        omega
      · omega
    · intro h
      have h3 : (a + b) * ((2 ^ E0 : Nat) : Int) < 0 := Int.mul_neg_of_neg_of_pos h hp
      rw [← hT] at h3
      by_cases h4 : 0 ≤ T
      · have := Int.mul_nonneg h4 (Int.le_of_lt hq)
        omega
      · omega
end Go.Proofs.Ytaphfjfalbeojaa.Pure
