/- Plain lemmas on what floats of 64 bits are worth: in units of 2^-1074. No condition. -/
import Derived.Test.YtaphfjfalbeojaaFlt0
set_option linter.unusedVariables false
set_option linter.unusedSimpArgs false
namespace Go.Proofs.Ytaphfjfalbeojaa.P
open Go.RowKit Go.Proofs.YtaphfjfalbeojaaW.PrintWords

theorem lp : Ieee.double.leastPlace = -1074 := by decide
/-- What a rung is worth. -/
def val (r : Nat) : Nat := if r < 4503599627370496 then r else (4503599627370496 + r % 4503599627370496) * 2 ^ (r / 4503599627370496 - 1)
/-- What a word is worth. -/
def V (a : Nat) : Int := if a < 9223372036854775808 then (val (a % 9223372036854775808) : Int) else -(val (a % 9223372036854775808) : Int)
theorem val_lt {r s : Nat} (h : r < s) : val r < val s := by
  unfold val
  by_cases h1 : r < 4503599627370496
  · rw [if_pos h1]
    by_cases h2 : s < 4503599627370496
    · rw [if_pos h2]; exact h
    · rw [if_neg h2]
      have h3 : (4503599627370496 + s % 4503599627370496) * 1 ≤ (4503599627370496 + s % 4503599627370496) * 2 ^ (s / 4503599627370496 - 1) := Nat.mul_le_mul_left _ Nat.one_le_two_pow
      omega
  · have h2 : ¬ s < 4503599627370496 := by omega
    rw [if_neg h1, if_neg h2]
    have hq : r / 4503599627370496 ≤ s / 4503599627370496 := Nat.div_le_div_right (by omega)
    have hm : r % 4503599627370496 < 4503599627370496 := Nat.mod_lt _ (by decide)
    have hr1 : 1 ≤ r / 4503599627370496 := by omega
    rcases Nat.lt_or_eq_of_le hq with hlt | heq
    · obtain ⟨d, hd⟩ : ∃ d, s / 4503599627370496 - 1 = (r / 4503599627370496 - 1) + 1 + d := ⟨s / 4503599627370496 - 1 - ((r / 4503599627370496 - 1) + 1), by omega⟩
      rw [hd, Nat.pow_add, Nat.pow_succ]
      have hp : 1 ≤ 2 ^ d := Nat.one_le_two_pow
      have hp2 : 1 ≤ 2 ^ (r / 4503599627370496 - 1) := Nat.one_le_two_pow
      generalize 2 ^ (r / 4503599627370496 - 1) = p at hp2
      generalize 2 ^ d = q at hp
      generalize r % 4503599627370496 = x at hm
      have e1 : (4503599627370496 + x) * p < 4503599627370496 * 2 * p := Nat.mul_lt_mul_of_pos_right (by omega) (by omega)
      have e2 : 4503599627370496 * 2 * p * 1 ≤ 4503599627370496 * 2 * p * q := Nat.mul_le_mul_left _ hp
      have e3 : 4503599627370496 * (p * 2 * q) ≤ (4503599627370496 + s % 4503599627370496) * (p * 2 * q) := Nat.mul_le_mul_right _ (by omega)
      have e4 : 4503599627370496 * 2 * p * q = 4503599627370496 * (p * 2 * q) := by
        rw [Nat.mul_assoc, Nat.mul_assoc, ← Nat.mul_assoc 2 p q, Nat.mul_comm 2 p]
      omega
    · rw [heq]
      have e : r % 4503599627370496 < s % 4503599627370496 := by omega
      exact Nat.mul_lt_mul_of_pos_right (by omega) (Nat.pow_pos (by decide))
theorem val_le {r s : Nat} (h : r ≤ s) : val r ≤ val s := by
  rcases Nat.lt_or_eq_of_le h with h | h
  · exact Nat.le_of_lt (val_lt h)
  · rw [h]; exact Nat.le_refl _
theorem val_inj {r s : Nat} (h : val r = val s) : r = s := by
  rcases Nat.lt_trichotomy r s with h1 | h1 | h1
  · have := val_lt h1; omega
  · exact h1
  · have := val_lt h1; omega
theorem val_rev {r s : Nat} (h : val r < val s) : r < s := by
  rcases Nat.lt_trichotomy r s with h1 | h1 | h1
  · exact h1
  · rw [h1] at h; omega
  · have := val_lt h1; omega
theorem val_zero : val 0 = 0 := rfl
theorem val_bin (q : Nat) (hq : 1 ≤ q) : val (q * 4503599627370496) = 2 ^ (51 + q) := by
  unfold val
  rw [if_neg (by omega), Nat.mul_mod_left, Nat.mul_div_cancel _ (by decide), Nat.add_zero]
  have : (4503599627370496 : Nat) = 2 ^ 52 := by decide
  rw [this, ← Nat.pow_add]
  congr 1
  omega
/-- A number's word, read. -/
theorem read_is {a : Nat} (h2 : a < 18446744073709551616) (h : a % 9223372036854775808 < 9218868437227405312) :
    ∃ (m e : Nat), Ieee.double.read a = .number (decide (9223372036854775808 ≤ a)) m (-1074 + (e : Int)) ∧ m * 2 ^ e = val (a % 9223372036854775808) := by
  have hs : (a / 9223372036854775808 % 2 == 1) = decide (9223372036854775808 ≤ a) := by
    rw [Bool.eq_iff_iff]
    simp only [beq_iff_eq, decide_eq_true_eq]
    omega
  unfold Ieee.Format.read val
  rw [sw, ir, bd, lp]
  dsimp only
  rw [hs]
  by_cases h1 : a % 9223372036854775808 < 4503599627370496
  · rw [if_pos h1, if_pos h1]
    exact ⟨_, 0, rfl, by simp⟩
  · rw [if_neg h1, if_neg h1, if_pos h]
    exact ⟨_, _, rfl, rfl⟩
theorem read_inf {a : Nat} (h2 : a < 18446744073709551616) (h : a % 9223372036854775808 = 9218868437227405312) : Ieee.double.read a = .infinity (decide (9223372036854775808 ≤ a)) := by
  have hs : (a / 9223372036854775808 % 2 == 1) = decide (9223372036854775808 ≤ a) := by
    rw [Bool.eq_iff_iff]
    simp only [beq_iff_eq, decide_eq_true_eq]
    omega
  unfold Ieee.Format.read
  rw [sw, ir, bd, lp]
  dsimp only
  rw [hs, if_neg (by omega), if_neg (by omega), if_pos h]
theorem signed_up (s : Bool) (m i d : Nat) : Ieee.signed s m (i + d) = Ieee.signed s m i * ((2 ^ d : Nat) : Int) := by
  unfold Ieee.signed
  rw [Nat.shiftLeft_eq, Nat.shiftLeft_eq, Nat.pow_add, ← Nat.mul_assoc]
  cases s
  · rw [if_neg (by decide), if_neg (by decide), Int.natCast_mul]
  · rw [if_pos rfl, if_pos rfl, Int.natCast_mul, Int.neg_mul]
theorem signed_V {a : Nat} {m e : Nat} (h2 : a < 18446744073709551616) (hv : m * 2 ^ e = val (a % 9223372036854775808)) : Ieee.signed (decide (9223372036854775808 ≤ a)) m e = V a := by
  unfold Ieee.signed V
  rw [Nat.shiftLeft_eq, hv]
  by_cases h : a < 9223372036854775808
  · rw [if_pos h, decide_eq_false (by omega), if_neg (by decide)]
  · rw [if_neg h, decide_eq_true (by omega), if_pos rfl]
theorem compare_mul {x y : Int} {c : Nat} (hc : 0 < c) : compare (x * (c : Int)) (y * (c : Int)) = compare x y := by
  have hc' : (0 : Int) < c := by omega
  rcases Int.lt_trichotomy x y with h | h | h
  · have h2 : x * (c : Int) < y * (c : Int) := Int.mul_lt_mul_of_pos_right h hc'
    rw [Int.compare_eq_lt.2 h, Int.compare_eq_lt.2 h2]
  · rw [h, Int.compare_eq_eq.2 rfl, Int.compare_eq_eq.2 rfl]
  · have h2 : y * (c : Int) < x * (c : Int) := Int.mul_lt_mul_of_pos_right h hc'
    rw [Int.compare_eq_gt.2 h, Int.compare_eq_gt.2 h2]
theorem V_lt_inf {a : Nat} (h : a % 9223372036854775808 < 9218868437227405312) : V a < (val 9218868437227405312 : Int) ∧ -(val 9218868437227405312 : Int) < V a := by
  have h1 := val_lt h
  unfold V
  generalize val 9218868437227405312 = I at h1
  split <;> omega
theorem V_inf {a : Nat} (h : a % 9223372036854775808 = 9218868437227405312) : V a = if a < 9223372036854775808 then (val 9218868437227405312 : Int) else -(val 9218868437227405312 : Int) := by
  unfold V
  rw [h]
/-- The order of two words that are no NaNs is that of their worths. -/
theorem order_V {a b : Nat} (ha2 : a < 18446744073709551616) (hb2 : b < 18446744073709551616) (ha : a % 9223372036854775808 ≤ 9218868437227405312) (hb : b % 9223372036854775808 ≤ 9218868437227405312) :
    FloatKind.f64.format.order a b = some (compare (V a) (V b)) := by
  show (Ieee.double.read a).order (Ieee.double.read b) = _
  have hI : 0 < val 9218868437227405312 := by have := val_lt (show 0 < 9218868437227405312 by decide); omega
  rcases Nat.lt_or_eq_of_le ha with ha' | ha'
  · obtain ⟨m, e, hr, hv⟩ := read_is ha2 ha'
    rcases Nat.lt_or_eq_of_le hb with hb' | hb'
    · obtain ⟨n, f, hr', hv'⟩ := read_is hb2 hb'
      rw [hr, hr']
      unfold Ieee.Datum.order
      dsimp only
      congr 1
      rw [← signed_V ha2 hv, ← signed_V hb2 hv']
      rcases Nat.le_total e f with hef | hef
      · have hm : min (-1074 + (e : Int)) (-1074 + (f : Int)) = -1074 + (e : Int) := by omega
        rw [hm]
        have e1 : (-1074 + (e : Int) - (-1074 + (e : Int))).toNat = 0 := by omega
        have e2 : (-1074 + (f : Int) - (-1074 + (e : Int))).toNat = f - e := by omega
        rw [e1, e2]
        have s1 := signed_up (decide (9223372036854775808 ≤ a)) m 0 e
        have s2 := signed_up (decide (9223372036854775808 ≤ b)) n (f - e) e
        rw [Nat.zero_add] at s1
        rw [Nat.sub_add_cancel hef] at s2
        rw [s1, s2, compare_mul (Nat.pow_pos (by decide))]
      · have hm : min (-1074 + (e : Int)) (-1074 + (f : Int)) = -1074 + (f : Int) := by omega
        rw [hm]
        have e1 : (-1074 + (f : Int) - (-1074 + (f : Int))).toNat = 0 := by omega
        have e2 : (-1074 + (e : Int) - (-1074 + (f : Int))).toNat = e - f := by omega
        rw [e1, e2]
        have s1 := signed_up (decide (9223372036854775808 ≤ b)) n 0 f
        have s2 := signed_up (decide (9223372036854775808 ≤ a)) m (e - f) f
        rw [Nat.zero_add] at s1
        rw [Nat.sub_add_cancel hef] at s2
        rw [s1, s2, compare_mul (Nat.pow_pos (by decide))]
    · rw [hr, read_inf hb2 hb', V_inf hb']
      have hl := V_lt_inf ha'
      unfold Ieee.Datum.order
      dsimp only
      by_cases hs : b < 9223372036854775808
      · rw [if_pos hs, decide_eq_false (by omega), if_neg (by decide), Int.compare_eq_lt.2 hl.1]
      · rw [if_neg hs, decide_eq_true (by omega), if_pos rfl, Int.compare_eq_gt.2 hl.2]
  · rcases Nat.lt_or_eq_of_le hb with hb' | hb'
    · obtain ⟨n, f, hr', hv'⟩ := read_is hb2 hb'
      rw [hr', read_inf ha2 ha', V_inf ha']
      have hl := V_lt_inf hb'
      unfold Ieee.Datum.order
      dsimp only
      by_cases hs : a < 9223372036854775808
      · rw [if_pos hs, decide_eq_false (by omega), if_neg (by decide), Int.compare_eq_gt.2 hl.1]
      · rw [if_neg hs, decide_eq_true (by omega), if_pos rfl, Int.compare_eq_lt.2 hl.2]
    · rw [read_inf ha2 ha', read_inf hb2 hb', V_inf ha', V_inf hb']
      unfold Ieee.Datum.order
      dsimp only
      generalize val 9218868437227405312 = I at hI
      by_cases hs : a < 9223372036854775808
      · by_cases ht : b < 9223372036854775808
        · rw [if_pos hs, if_pos ht, decide_eq_false (show ¬ 9223372036854775808 ≤ a by omega), decide_eq_false (show ¬ 9223372036854775808 ≤ b by omega), Int.compare_eq_eq.2 rfl]; rfl
        · rw [if_pos hs, if_neg ht, decide_eq_false (show ¬ 9223372036854775808 ≤ a by omega), decide_eq_true (show 9223372036854775808 ≤ b by omega), Int.compare_eq_gt.2 (by omega)]; rfl
      · by_cases ht : b < 9223372036854775808
        · rw [if_neg hs, if_pos ht, decide_eq_true (show 9223372036854775808 ≤ a by omega), decide_eq_false (show ¬ 9223372036854775808 ≤ b by omega), Int.compare_eq_lt.2 (by omega)]; rfl
        · rw [if_neg hs, if_neg ht, decide_eq_true (show 9223372036854775808 ≤ a by omega), decide_eq_true (show 9223372036854775808 ≤ b by omega), Int.compare_eq_eq.2 rfl]; rfl

/-! ### writing -/
theorem log2_mul {m D : Nat} (hm : m ≠ 0) : (m * 2 ^ D).log2 = m.log2 + D := by
  have h1 := Nat.log2_self_le hm
  have h2 := Nat.lt_log2_self (n := m)
  have hp : 0 < 2 ^ D := Nat.pow_pos (by decide)
  have h0 : m * 2 ^ D ≠ 0 := Nat.mul_ne_zero hm (by omega)
  apply Nat.le_antisymm
  · have : (m * 2 ^ D).log2 < m.log2 + D + 1 := by
      rw [Nat.log2_lt h0]
      have e : m.log2 + D + 1 = (m.log2 + 1) + D := by omega
      rw [e, Nat.pow_add]
      exact Nat.mul_lt_mul_of_pos_right h2 hp
    omega
  · rw [Nat.le_log2 h0, Nat.pow_add]
    exact Nat.mul_le_mul_right _ h1
theorem cut_zero (s : Bool) (n : Nat) : Ieee.Toward.even.cut s n 0 = n := by
  unfold Ieee.Toward.cut
  simp [Nat.mod_one]
theorem cut_exact (s : Bool) (K d : Nat) (hK : K ≠ 0) : Ieee.Toward.even.cut s (K * 2 ^ d) d = K := by
  unfold Ieee.Toward.cut
  have hl := log2_mul (D := d) hK
  have hmin : min d ((K * 2 ^ d).log2 + 2) = d := by omega
  have hp : 0 < 2 ^ d := Nat.pow_pos (by decide)
  dsimp only
  rw [hmin, Nat.shiftLeft_eq, Nat.one_mul, Nat.mul_div_cancel _ hp, Nat.mul_mod_left]
  have h1 : (decide (2 ^ d < 2 * 0) || (2 ^ d == 2 * 0) && (K % 2 == 1)) = false := by
    rw [decide_eq_false (by omega)]
    have : (2 ^ d == 2 * 0) = false := by
      rw [beq_eq_false_iff_ne]
      omega
    rw [this]
    rfl
  rw [h1]
  rfl
theorem log2_bin {K : Nat} (h1 : 4503599627370496 ≤ K) (h2 : K < 9007199254740992) : K.log2 = 52 := by
  have h0 : K ≠ 0 := by omega
  apply Nat.le_antisymm
  · have : K.log2 < 53 := by rw [Nat.log2_lt h0]; exact h2
    omega
  · rw [Nat.le_log2 h0]; exact h1
/-- A number that the format has is written as itself. -/
theorem nearest_exact (s : Bool) {mag D K e : Nat} (h1 : 4503599627370496 ≤ K) (h2 : K < 9007199254740992) (h : mag * 2 ^ D = K * 2 ^ e) (he : e ≤ 2045) : Ieee.double.nearest s mag (-1074 + (D : Int)) = Ieee.double.word s (e * 4503599627370496 + K) := by
  have hpe : 0 < 2 ^ e := Nat.pow_pos (by decide)
  have hpD : 0 < 2 ^ D := Nat.pow_pos (by decide)
  have hm : mag ≠ 0 := by
    intro h0
    rw [h0, Nat.zero_mul] at h
    have : K * 2 ^ e ≠ 0 := Nat.mul_ne_zero (by omega) (by omega)
    omega
  have hlog : mag.log2 + D = 52 + e := by
    rw [← log2_mul hm, h, log2_mul (by omega), log2_bin h1 h2]
  unfold Ieee.Format.nearest
  rw [if_neg hm, lp, ir, bd]
  have hlast : max (-1074 + (D : Int) + (mag.log2 : Int) - ((Ieee.double.fractionBits : Nat) : Int)) (-1074) = -1074 + (e : Int) := by
    have : ((Ieee.double.fractionBits : Nat) : Int) = 52 := rfl
    rw [this]
    omega
  dsimp only
  rw [hlast]
  have e1 : (-1074 + (e : Int) - -1074).toNat = e := by omega
  rw [e1]
  have hkept : Ieee.Toward.even.cut s (mag <<< (-1074 + (D : Int) - (-1074 + (e : Int))).toNat) (-1074 + (e : Int) - (-1074 + (D : Int))).toNat = K := by
    rcases Nat.le_total e D with hle | hle
    · have e2 : (-1074 + (D : Int) - (-1074 + (e : Int))).toNat = D - e := by omega
      have e3 : (-1074 + (e : Int) - (-1074 + (D : Int))).toNat = 0 := by omega
      rw [e2, e3, cut_zero, Nat.shiftLeft_eq]
      apply Nat.eq_of_mul_eq_mul_right hpe
      rw [Nat.mul_assoc, ← Nat.pow_add, Nat.sub_add_cancel hle, h]
    · have e2 : (-1074 + (D : Int) - (-1074 + (e : Int))).toNat = 0 := by omega
      have e3 : (-1074 + (e : Int) - (-1074 + (D : Int))).toNat = e - D := by omega
      have hmag : mag = K * 2 ^ (e - D) := by
        apply Nat.eq_of_mul_eq_mul_right hpD
        rw [Nat.mul_assoc, ← Nat.pow_add, Nat.sub_add_cancel hle, h]
      rw [e2, e3, Nat.shiftLeft_eq, Nat.pow_zero, Nat.mul_one, hmag]
      exact cut_exact s K _ (by omega)
  rw [hkept, Nat.min_eq_left (by omega)]
theorem nearest_val (s : Bool) {r : Nat} (h0 : 0 < r) (h : r < 9218868437227405312) : Ieee.double.nearest s (val r) (-1074) = Ieee.double.word s r := by
  by_cases h1 : r < 4503599627370496
  · have hv : val r = r := by unfold val; rw [if_pos h1]
    rw [hv]
    unfold Ieee.Format.nearest
    rw [if_neg (by omega), lp, ir, bd]
    have hl : r.log2 < 52 := by rw [Nat.log2_lt (by omega)]; exact h1
    have hlast : max (-1074 + (r.log2 : Int) - ((Ieee.double.fractionBits : Nat) : Int)) (-1074) = -1074 := by
      have : ((Ieee.double.fractionBits : Nat) : Int) = 52 := rfl
      rw [this]
      omega
    dsimp only
    rw [hlast]
    have e1 : ((-1074 : Int) - -1074).toNat = 0 := by decide
    rw [e1, cut_zero, Nat.shiftLeft_eq, Nat.pow_zero, Nat.mul_one, Nat.zero_mul, Nat.zero_add, Nat.min_eq_left (by omega)]
  · have hv : val r = (4503599627370496 + r % 4503599627370496) * 2 ^ (r / 4503599627370496 - 1) := by unfold val; rw [if_neg h1]
    have := nearest_exact s (mag := val r) (D := 0) (K := 4503599627370496 + r % 4503599627370496) (e := r / 4503599627370496 - 1) (by omega) (by omega) (by rw [hv, Nat.pow_zero, Nat.mul_one]) (by omega)
    rw [show (-1074 : Int) + ((0 : Nat) : Int) = -1074 from rfl] at this
    rw [this]
    congr 1
    omega
/-- A bound for what is written. -/
theorem nearest_le (s : Bool) (mag D k : Nat) (hk : 53 ≤ k) (h : mag * 2 ^ D < 2 ^ k) : ∃ r, Ieee.double.nearest s mag (-1074 + (D : Int)) = Ieee.double.word s r ∧ r ≤ 9218868437227405312 ∧ r ≤ (k - 51) * 4503599627370496 := by
  unfold Ieee.Format.nearest
  by_cases hm : mag = 0
  · rw [if_pos hm]
    exact ⟨0, rfl, by omega, by omega⟩
  · rw [if_neg hm, lp, ir, bd]
    dsimp only
    refine ⟨_, rfl, Nat.min_le_right _ _, Nat.le_trans (Nat.min_le_left _ _) ?_⟩
    have hlog : mag.log2 + D < k := by
      rw [← log2_mul hm, Nat.log2_lt (Nat.mul_ne_zero hm (by have := Nat.pow_pos (n := D) (show 0 < 2 by decide); omega))]
      exact h
    have hfb : ((Ieee.double.fractionBits : Nat) : Int) = 52 := rfl
    rw [hfb]
    obtain ⟨e, he, he1, he2⟩ : ∃ e : Nat, max (-1074 + (D : Int) + (mag.log2 : Int) - 52) (-1074) = -1074 + (e : Int) ∧ e ≤ k - 53 ∧ mag.log2 + D ≤ e + 52 :=
      ⟨(max (-1074 + (D : Int) + (mag.log2 : Int) - 52) (-1074) + 1074).toNat, by omega, by omega, by omega⟩
    rw [he]
    have e1 : (-1074 + (e : Int) - -1074).toNat = e := by omega
    rw [e1]
    have hkept : Ieee.Toward.even.cut s (mag <<< (-1074 + (D : Int) - (-1074 + (e : Int))).toNat) (-1074 + (e : Int) - (-1074 + (D : Int))).toNat ≤ 9007199254740992 := by
      have hlt := Nat.lt_log2_self (n := mag)
      have p53 : (2 : Nat) ^ 53 = 9007199254740992 := by decide
      rcases Nat.le_total e D with hle | hle
      · have e2 : (-1074 + (D : Int) - (-1074 + (e : Int))).toNat = D - e := by omega
        have e3 : (-1074 + (e : Int) - (-1074 + (D : Int))).toNat = 0 := by omega
        rw [e2, e3, cut_zero, Nat.shiftLeft_eq]
        have h3 : mag * 2 ^ (D - e) < 2 ^ (mag.log2 + 1) * 2 ^ (D - e) := Nat.mul_lt_mul_of_pos_right hlt (Nat.pow_pos (by decide))
        rw [← Nat.pow_add] at h3
        have h4 : 2 ^ (mag.log2 + 1 + (D - e)) ≤ 2 ^ 53 := Nat.pow_le_pow_right (by decide) (by omega)
        omega
      · have e2 : (-1074 + (D : Int) - (-1074 + (e : Int))).toNat = 0 := by omega
        have e3 : (-1074 + (e : Int) - (-1074 + (D : Int))).toNat = e - D := by omega
        rw [e2, e3, Nat.shiftLeft_eq, Nat.pow_zero, Nat.mul_one]
        unfold Ieee.Toward.cut
        dsimp only
        rw [Nat.shiftLeft_eq, Nat.one_mul]
        have hlow : mag / 2 ^ (min (e - D) (mag.log2 + 2)) < 2 ^ 53 := by
          rw [Nat.div_lt_iff_lt_mul (Nat.pow_pos (by decide)), ← Nat.pow_add]
          exact Nat.lt_of_lt_of_le hlt (Nat.pow_le_pow_right (by decide) (by omega))
        have hb : ∀ b : Bool, b.toNat ≤ 1 := by decide
        have := hb (decide (2 ^ min (e - D) (mag.log2 + 2) < 2 * (mag % 2 ^ min (e - D) (mag.log2 + 2))) || (2 ^ min (e - D) (mag.log2 + 2) == 2 * (mag % 2 ^ min (e - D) (mag.log2 + 2))) && (mag / 2 ^ min (e - D) (mag.log2 + 2) % 2 == 1))
        omega
    have h5 : e * 4503599627370496 ≤ (k - 53) * 4503599627370496 := Nat.mul_le_mul_right _ he1
    generalize Ieee.Toward.even.cut s (mag <<< (-1074 + (D : Int) - (-1074 + (e : Int))).toNat) (-1074 + (e : Int) - (-1074 + (D : Int))).toNat = c at hkept ⊢
    have h6 : k - 51 = (k - 53) + 2 := by omega
    rw [h6, Nat.add_mul]
    exact Nat.add_le_add h5 (Nat.le_trans hkept (by decide))

/-! ### adding -/
theorem word_mod_eq (s : Bool) {r : Nat} (h : r ≤ 9218868437227405312) : Ieee.double.word s r % 9223372036854775808 = r ∧ Ieee.double.word s r < 18446744073709551616 ∧ (Ieee.double.word s r < 9223372036854775808 ↔ s = false) := by
  unfold Ieee.Format.word
  rw [sw]
  cases s
  · rw [if_neg (by decide)]
    exact ⟨by omega, by omega, by simp; omega⟩
  · rw [if_pos rfl]
    exact ⟨by omega, by omega, by simp⟩
theorem word_of {a : Nat} (h2 : a < 18446744073709551616) : Ieee.double.word (decide (9223372036854775808 ≤ a)) (a % 9223372036854775808) = a := by
  unfold Ieee.Format.word
  rw [sw]
  by_cases h : 9223372036854775808 ≤ a
  · rw [decide_eq_true h, if_pos rfl]; omega
  · rw [decide_eq_false h, if_neg (by decide)]; omega
/-- The exact sum of two numbers, and what is written of it. -/
theorem add_is {a b : Nat} (ha2 : a < 18446744073709551616) (hb2 : b < 18446744073709551616) (ha : a % 9223372036854775808 < 9218868437227405312) (hb : b % 9223372036854775808 < 9218868437227405312) :
    ∃ (T : Int) (D : Nat), T * ((2 ^ D : Nat) : Int) = V a + V b ∧ floatBits .add .f64 a b = some (Ieee.double.nearest (if T = 0 then decide (9223372036854775808 ≤ a) && decide (9223372036854775808 ≤ b) else decide (T < 0)) T.natAbs (-1074 + (D : Int))) := by
  obtain ⟨m, e, hr, hv⟩ := read_is ha2 ha
  obtain ⟨n, f, hr', hv'⟩ := read_is hb2 hb
  have key : ∀ D, D ≤ e → D ≤ f → min (-1074 + (e : Int)) (-1074 + (f : Int)) = -1074 + (D : Int) → ∃ (T : Int) (D : Nat), T * ((2 ^ D : Nat) : Int) = V a + V b ∧ floatBits .add .f64 a b = some (Ieee.double.nearest (if T = 0 then decide (9223372036854775808 ≤ a) && decide (9223372036854775808 ≤ b) else decide (T < 0)) T.natAbs (-1074 + (D : Int))) := by
    intro D h1 h2 hm
    refine ⟨Ieee.signed (decide (9223372036854775808 ≤ a)) m (e - D) + Ieee.signed (decide (9223372036854775808 ≤ b)) n (f - D), D, ?_, ?_⟩
    · rw [Int.add_mul, ← signed_up, ← signed_up, Nat.sub_add_cancel h1, Nat.sub_add_cancel h2, signed_V ha2 hv, signed_V hb2 hv']
    · show ((Ieee.double.read a).sum (Ieee.double.read b)).map Ieee.double.write = _
      rw [hr, hr']
      unfold Ieee.Datum.sum
      dsimp only
      rw [hm]
      have e1 : (-1074 + (e : Int) - (-1074 + (D : Int))).toNat = e - D := by omega
      have e2 : (-1074 + (f : Int) - (-1074 + (D : Int))).toNat = f - D := by omega
      rw [e1, e2]
      simp only [Option.map_some, Ieee.Format.write]
  rcases Nat.le_total e f with h | h
  · exact key e (Nat.le_refl _) h (by omega)
  · exact key f h (Nat.le_refl _) (by omega)
theorem V_neg_iff {a : Nat} (h : a % 9223372036854775808 ≠ 0) : V a < 0 ↔ 9223372036854775808 ≤ a := by
  have h1 := val_lt (show 0 < a % 9223372036854775808 by omega)
  rw [val_zero] at h1
  unfold V
  split <;> omega
theorem V_abs (a : Nat) : (V a).natAbs = val (a % 9223372036854775808) := by
  unfold V
  split <;> omega
/-- Nought and a number. -/
theorem zero_add {a : Nat} (ha2 : a < 18446744073709551616) (ha : a % 9223372036854775808 < 9218868437227405312) : floatBits .add .f64 0 a = some (if a % 9223372036854775808 = 0 then 0 else a) := by
  obtain ⟨m, e, hr, hv⟩ := read_is ha2 ha
  obtain ⟨T, D, hT, hadd⟩ := add_is (a := 0) (by decide) ha2 (by decide) ha
  have hr0 : Ieee.double.read 0 = .number false 0 (-1074) := by decide
  show ((Ieee.double.read 0).sum (Ieee.double.read a)).map Ieee.double.write = _
  rw [hr0, hr]
  unfold Ieee.Datum.sum
  dsimp only
  have hm : min (-1074 : Int) (-1074 + (e : Int)) = -1074 := by omega
  rw [hm]
  have e1 : ((-1074 : Int) - -1074).toNat = 0 := by decide
  have e2 : (-1074 + (e : Int) - -1074).toNat = e := by omega
  have s0 : Ieee.signed false 0 0 = 0 := by decide
  rw [e1, e2, s0, Int.zero_add, signed_V ha2 hv]
  simp only [Option.map_some, Ieee.Format.write, Bool.false_and]
  rw [V_abs]
  by_cases h0 : a % 9223372036854775808 = 0
  · rw [if_pos h0, h0, val_zero]
    have hV : V a = 0 := by
      have := V_abs a
      rw [h0, val_zero] at this
      omega
    rw [hV, if_pos rfl]
    rfl
  · rw [if_neg h0, nearest_val _ (by omega) ha]
    have hV : V a ≠ 0 := by
      have h1 := val_lt (show 0 < a % 9223372036854775808 by omega)
      rw [val_zero] at h1
      have := V_abs a
      omega
    rw [if_neg hV]
    have : decide (V a < 0) = decide (9223372036854775808 ≤ a) := by
      rw [decide_eq_decide]
      exact V_neg_iff h0
    rw [this, word_of ha2]
theorem add_inf {a b : Nat} (ha2 : a < 18446744073709551616) (hb2 : b < 18446744073709551616) (ha : a % 9223372036854775808 < 9218868437227405312) (hb : b % 9223372036854775808 = 9218868437227405312) : floatBits .add .f64 a b = some b := by
  obtain ⟨m, e, hr, hv⟩ := read_is ha2 ha
  show ((Ieee.double.read a).sum (Ieee.double.read b)).map Ieee.double.write = _
  rw [hr, read_inf hb2 hb]
  unfold Ieee.Datum.sum
  simp only [Option.map_some, Ieee.Format.write]
  rw [ir, ← hb, word_of hb2]
end Go.Proofs.Ytaphfjfalbeojaa.P
