/- What the functions of datum, key and the reference's answer: which values may be, which are the same, which keys may be, which are in a span; a text is cut. Condition: floats are told by 64 bits. -/
import Derived.Test.YtppbdngfiphliaaBe8
import Derived.Test.YtppbdngfiphliaaFlt0
import Derived.Test.YtppbdngfiphliaaOrd
import Derived.Test.YtppbdngfiphliaaPx11
import Derived.Test.YtppbdngfiphliaaPx13
import Derived.Test.YtppbdngfiphliaaPx2
import Derived.Test.YtppbdngfiphliaaPx4
import Derived.Test.YtppbdngfiphliaaPx9
set_option linter.unusedVariables false
set_option linter.unusedSimpArgs false
namespace Go.Proofs.Ytppbdngfiphliaa.Pure
open Go.RowKit Go.Proofs.Ytppbdngfiphliaa.P Go.Proofs.YtppbdngfiphliaaW.PrintWords Go.Proofs.YtppbdngfiphliaaW.PrintLast Go.Proofs.YtppbdngfiphliaaW.PrintMore
theorem clean_is (a : Nat) : float_Clean.f a = some (if 9218868437227405312 < a % 9223372036854775808 then 9221120237041090560 else a) := by
  unfold float_Clean.f math_IsNaN.f
  rw [self_ne]
  simp only [Option.bind_some, decide_eq_true_eq]
  split <;> rfl

theorem expo (a : Nat) : a &&& 9218868437227405312 = a % 9223372036854775808 / 4503599627370496 * 4503599627370496 := nat_midmask 63 52 a (by decide)
theorem rnan_is {a : Nat} (h : a < 18446744073709551616) : engrossref1_NaN.f a = some (decide (9218868437227405312 < a % 9223372036854775808)) := by
  unfold engrossref1_NaN.f
  have e1 : Go.bits .and .u64 (a : Int) 9218868437227405312 = ((a % 9223372036854775808 / 4503599627370496 * 4503599627370496 : Nat) : Int) := by
    have := u64_and_nat a 9218868437227405312 h (by decide)
    rw [expo] at this
    exact this
  have e2 : Go.bits .and .u64 (a : Int) 4503599627370495 = ((a % 4503599627370496 : Nat) : Int) := by
    have := u64_and_nat a 4503599627370495 h (by decide)
    rw [nat_mask52] at this
    exact this
  rw [e1, e2]
  clear e1 e2
  by_cases h1 : ((a % 9223372036854775808 / 4503599627370496 * 4503599627370496 : Nat) : Int) = 9218868437227405312
  · rw [if_pos h1]
    congr 1
    rw [Bool.eq_iff_iff]
    simp only [bne_iff_ne, ne_eq, decide_eq_true_eq]
    omega
  · rw [if_neg h1]
    congr 1
    rw [Bool.eq_iff_iff]
    simp only [Bool.false_eq_true, false_iff, decide_eq_true_eq]
    omega
theorem rclean_is {a : Nat} (h : a < 18446744073709551616) : engrossref1_Clean.f a = some (if 9218868437227405312 < a % 9223372036854775808 then 9221120237041090560 else a) := by
  unfold engrossref1_Clean.f
  rw [rnan_is h]
  simp only [Option.bind_some, decide_eq_true_eq]
  split <;> rfl
theorem w64' {x : Int} (h : -9223372036854775808 ≤ x ∧ x ≤ 9223372036854775807) : wrap64 x = x := by unfold wrap64; omega
theorem not64' {a : Nat} (h1 : a < 18446744073709551616) : Go.bits .xor .u64 18446744073709551615 (a : Int) = ((18446744073709551615 - a : Nat) : Int) := by
  have := u64_xor_nat 18446744073709551615 a (by decide) h1
  have e2 : 18446744073709551615 ^^^ a = 18446744073709551615 - a := by
    rw [Nat.xor_comm]
    have e3 : (18446744073709551615 : Nat) = 2 ^ 64 - 1 := rfl
    rw [e3]
    apply Nat.eq_of_testBit_eq
    intro i
    rw [Nat.testBit_xor, Nat.testBit_two_pow_sub_one]
    have hs : 2 ^ 64 - 1 - a = 2 ^ 64 - (a + 1) := by omega
    rw [hs, Nat.testBit_two_pow_sub_succ (by omega)]
    by_cases h : i < 64
    · simp [h]
    · have : a.testBit i = false := Nat.testBit_lt_two_pow (Nat.lt_of_lt_of_le (show a < 2 ^ 64 by omega) (Nat.pow_le_pow_right (by omega) (by omega)))
      simp [h, this]
  rw [e2] at this
  exact this
theorem and63 {a : Nat} (h : a < 18446744073709551616) : Go.bits .and .u64 (a : Int) 9223372036854775808 = if a < 9223372036854775808 then 0 else 9223372036854775808 := by
  have := u64_and_nat a 9223372036854775808 h (by decide)
  rw [nat_hi64_63] at this
  have e : Go.bits .and .u64 (a : Int) 9223372036854775808 = ((a % 18446744073709551616 / 9223372036854775808 * 9223372036854775808 : Nat) : Int) := this
  rw [e]
  split <;> omega
theorem or63 {a : Nat} (h : a < 9223372036854775808) : Go.bits .or .u64 (a : Int) 9223372036854775808 = ((a + 9223372036854775808 : Nat) : Int) := by
  have := u64_or_nat a 9223372036854775808 (by omega) (by decide)
  have e : a ||| 9223372036854775808 = a + 9223372036854775808 := by
    rw [Nat.or_comm, nat_join 63 9223372036854775808 a (by decide) (by exact h), Nat.add_comm]
  rw [e] at this
  exact this

/-- A float's place in the order: 0: a NaN. -/
def pl (a : Nat) : Nat := if 9218868437227405312 < a % 9223372036854775808 then 0 else if a < 9223372036854775808 then a + 9223372036854775808 else 18446744073709551615 - a
theorem pl_lt {a : Nat} (h : a < 18446744073709551616) : pl a < 18446744073709551616 := by
  unfold pl
  split
  · omega
  · split <;> omega
theorem place_is {a : Nat} (h : a < 18446744073709551616) : float_place.f a = some ((pl a : Nat) : Int) := by
  unfold float_place.f math_IsNaN.f pl
  rw [self_ne]
  simp only [Option.bind_some, decide_eq_true_eq]
  by_cases hn : 9218868437227405312 < a % 9223372036854775808
  · rw [if_pos hn, if_pos hn]; rfl
  · rw [if_neg hn, if_neg hn, and63 h]
    by_cases hs : a < 9223372036854775808
    · rw [if_pos hs, if_pos rfl, if_pos hs, or63 hs]
    · rw [if_neg hs, if_neg (by decide), if_neg hs, not64' h]
theorem rplace_is {a : Nat} (h : a < 18446744073709551616) : engrossref1_Place.f a = some ((pl a : Int) - 9223372036854775808) := by
  unfold engrossref1_Place.f pl
  rw [rnan_is h]
  simp only [Option.bind_some, decide_eq_true_eq]
  by_cases hn : 9218868437227405312 < a % 9223372036854775808
  · rw [if_pos hn, if_pos hn]; rfl
  · rw [if_neg hn, if_neg hn]
    have e2 : Go.bits .and .u64 (a : Int) 9223372036854775807 = ((a % 9223372036854775808 : Nat) : Int) := by
      have := u64_and_nat a 9223372036854775807 h (by decide)
      rw [nat_mask63] at this
      exact this
    by_cases hs : a < 9223372036854775808
    · rw [if_neg (by omega), if_pos hs]
      exact congrArg some (by unfold wrap64; omega)
    · rw [if_pos (by omega), if_neg hs, e2]
      exact congrArg some (by unfold wrap64; omega)

theorem bits_is (a b : Nat) : engrossref1_Bits.f a b = some (decide (a = b)) := by
  unfold engrossref1_Bits.f engrossref1_bits.f
  simp only [Option.bind_some, Option.some.injEq]
  rw [Bool.eq_iff_iff]
  simp only [beq_iff_eq, decide_eq_true_eq]
  omega
/-- All NaNs one. -/
def cl (f : Nat) : Nat := if 9218868437227405312 < f % 9223372036854775808 then 9221120237041090560 else f
/-- May a value be? -/
def mayV (kd : Int) (f : Nat) (s : ByteArray) : Bool :=
  if kd = 0 then decide (f = 0) && decide (s.toList = []) else if kd = 1 then decide (s.toList = []) && decide (cl f = f) else if kd = 2 then decide (f = 0) && decide (s.size ≤ 20) else false
theorem may_is (kd : Int) (f : Nat) (s : ByteArray) : datum_May.f kd f s = some (mayV kd f s) := by
  unfold datum_May.f mayV datum_zero.f
  simp only [Option.bind_some]
  by_cases h0 : kd = 0
  · rw [if_pos h0, if_pos h0]
    by_cases hf : f = 0
    · subst hf
      rw [if_pos (by rfl)]
      congr 1
      rw [Bool.eq_iff_iff]
      simp
    · rw [if_neg (by simp; omega)]
      simp [hf]
  · rw [if_neg h0, if_neg h0]
    by_cases h1 : kd = 1
    · rw [if_pos h1, if_pos h1]
      by_cases hs : s.toList = []
      · rw [if_pos hs, clean_is]
        simp only [Option.bind_some]
        congr 1
        rw [Bool.eq_iff_iff]
        unfold cl
        simp only [hs, decide_true, Bool.true_and, beq_iff_eq, decide_eq_true_eq]
        omega
      · rw [if_neg hs]
        simp [hs]
    · rw [if_neg h1, if_neg h1]
      by_cases h2 : kd = 2
      · rw [if_pos h2, if_pos h2]
        by_cases hf : f = 0
        · subst hf
          rw [if_pos (by rfl)]
          congr 1
          rw [Bool.eq_iff_iff]
          simp
          omega
        · rw [if_neg (by simp; omega)]
          simp [hf]
      · rw [if_neg h2, if_neg h2]
theorem rmay_is (kd : Int) {f : Nat} (hf : f < 18446744073709551616) (s : ByteArray) : engrossref1_MayVal.f kd f s = some (mayV kd f s) := by
  unfold engrossref1_MayVal.f mayV engrossref1_bits.f
  simp only [Option.bind_some]
  by_cases h0 : kd = 0
  · rw [if_pos h0, if_pos h0]
    by_cases hf : f = 0
    · subst hf
      rw [if_pos (by rfl)]
      congr 1
      rw [Bool.eq_iff_iff]
      simp
    · rw [if_neg (by omega)]
      simp [hf]
  · rw [if_neg h0, if_neg h0]
    by_cases h1 : kd = 1
    · rw [if_pos h1, if_pos h1]
      by_cases hs : s.toList = []
      · rw [if_pos hs, rclean_is hf]
        simp only [Option.bind_some]
        rw [bits_is]
        simp only [Option.bind_some]
        congr 1
        unfold cl
        simp [hs]
      · rw [if_neg hs]
        simp [hs]
    · rw [if_neg h1, if_neg h1]
      by_cases h2 : kd = 2
      · rw [if_pos h2, if_pos h2]
        by_cases hf : f = 0
        · subst hf
          rw [if_pos (by rfl)]
          congr 1
          rw [Bool.eq_iff_iff]
          simp
          omega
        · rw [if_neg (by omega)]
          simp [hf]
      · rw [if_neg h2, if_neg h2]
/-- Are two values the same? -/
def eqV (kd : Int) (f : Nat) (s : ByteArray) (kd' : Int) (f' : Nat) (s' : ByteArray) : Bool := decide (kd = kd') && decide (s.toList = s'.toList) && decide (pl f = pl f')
theorem eq_is (kd : Int) {f : Nat} (hf : f < 18446744073709551616) (s : ByteArray) (kd' : Int) {f' : Nat} (hf' : f' < 18446744073709551616) (s' : ByteArray) : datum_Eq.f kd f s kd' f' s' = some (eqV kd f s kd' f' s') := by
  unfold datum_Eq.f eqV float_Same.f
  by_cases h0 : kd = kd'
  · rw [if_pos h0]
    by_cases hs : s.toList = s'.toList
    · rw [if_pos hs, place_is hf, place_is hf']
      simp only [Option.bind_some]
      congr 1
      rw [Bool.eq_iff_iff]
      simp only [h0, hs, decide_true, Bool.true_and, beq_iff_eq, decide_eq_true_eq]
      omega
    · rw [if_neg hs]
      simp [hs]
  · rw [if_neg h0]
    simp [h0]
theorem req_is (kd : Int) {f : Nat} (hf : f < 18446744073709551616) (s : ByteArray) (kd' : Int) {f' : Nat} (hf' : f' < 18446744073709551616) (s' : ByteArray) : engrossref1_EqVal.f kd f s kd' f' s' = some (eqV kd f s kd' f' s') := by
  unfold engrossref1_EqVal.f eqV
  by_cases h0 : kd = kd'
  · rw [if_pos h0]
    by_cases hs : s.toList = s'.toList
    · rw [if_pos hs, rplace_is hf, rplace_is hf']
      simp only [Option.bind_some]
      congr 1
      rw [Bool.eq_iff_iff]
      simp only [h0, hs, decide_true, Bool.true_and, beq_iff_eq, decide_eq_true_eq]
      omega
    · rw [if_neg hs]
      simp [hs]
  · rw [if_neg h0]
    simp [h0]
def mayK (s : ByteArray) : Bool := decide (1 ≤ s.size) && decide (s.size ≤ 16)
theorem list_nil_iff (s : ByteArray) : s.toList = ([] : List UInt8) ↔ s.size = 0 := by
  rw [Go.ByteArray.toList_eq]
  constructor
  · intro h
    have := congrArg List.length h
    rw [Array.length_toList] at this
    exact this
  · intro h
    refine List.eq_nil_of_length_eq_zero ?_
    rw [Array.length_toList]
    exact h
theorem maykey_is (s : ByteArray) : key_May.f s = some (mayK s) := by
  unfold key_May.f mayK
  by_cases h : s.toList = ([] : List UInt8)
  · rw [if_pos h]
    have := (list_nil_iff s).1 h
    simp [this]
  · rw [if_neg h]
    have h0 : ¬ s.size = 0 := fun e => h ((list_nil_iff s).2 e)
    congr 1
    rw [Bool.eq_iff_iff]
    simp only [decide_eq_true_eq, Bool.and_eq_true]
    omega
theorem rmaykey_is (s : ByteArray) : engrossref1_MayKey.f s = some (mayK s) := by
  unfold engrossref1_MayKey.f mayK
  by_cases h : (s.size : Int) ≥ 1
  · rw [if_pos h]
    congr 1
    rw [Bool.eq_iff_iff]
    simp only [decide_eq_true_eq, Bool.and_eq_true]
    omega
  · rw [if_neg h]
    congr 1
    rw [Bool.eq_iff_iff]
    simp only [decide_eq_true_eq, Bool.and_eq_true, Bool.false_eq_true, false_iff]
    omega

theorem in_key (s a b : ByteArray) : key_In.f s a b = some (!(Op.bytesLess s.toList a.toList) && (decide (b.toList = []) || Op.bytesLess s.toList b.toList)) := by
  unfold key_In.f
  cases Op.bytesLess s.toList a.toList
  · rw [if_neg (by simp)]
    by_cases h : b.toList = []
    · rw [if_pos h]; simp [h]
    · rw [if_neg h]; simp [h]
  · rw [if_pos rfl]; rfl
theorem cut_is (s : ByteArray) {n : Nat} : ∃ t, engrosslaw1_Cut.f s (n : Int) = some t ∧ t.size ≤ n ∧ (s.size ≤ n → t = s) := by
  unfold engrosslaw1_Cut.f
  by_cases h : (s.size : Int) > n
  · rw [if_pos h, if_pos (by omega), if_pos (by omega)]
    refine ⟨_, rfl, ?_, fun h => by omega⟩
    rw [ByteArray.size_extract]
    simp
    omega
  · rw [if_neg h]
    exact ⟨s, rfl, by omega, fun _ => rfl⟩
end Go.Proofs.Ytppbdngfiphliaa.Pure
