/- Plain lemmas on numbers as bytes: seven bits a byte, the lowest first; no program in sight. No condition. -/
import Derived.Test.YtijnfnlahhgpgaaDoorXWords
import Derived.Laws.BitsAllLaws
set_option linter.unusedVariables false
set_option linter.unusedSimpArgs false
namespace Go.Proofs.YtijnfnlahhgpgaaDoor.Pure
open Go.RowKit Go.Proofs.YtijnfnlahhgpgaaDoorW.PrintWords Go.Proofs.YtijnfnlahhgpgaaDoorW.PrintLast

/-- A number's place among the naturals: 0, -1, 1, -2, .. -/
def zz (n : Int) : Nat := if n < 0 then (-2 * n - 1).toNat else (2 * n).toNat
/-- Back. -/
def unz (u : Nat) : Int := if u % 2 = 1 then -((u / 2 : Nat) : Int) - 1 else ((u / 2 : Nat) : Int)
theorem unz_zz (n : Int) : unz (zz n) = n := by
  unfold unz zz
  split <;> split <;> omega
theorem zz_lt {n : Int} (h : (Lit.int .i64 n).wf = true) : zz n < 18446744073709551616 := by
  have h1 : -9223372036854775808 ≤ n ∧ n ≤ 9223372036854775807 := by simpa [Lit.wf, IntKind.min, IntKind.max, IntKind.signed, IntKind.bits] using h
  unfold zz
  split <;> omega
theorem zz_nat (m : Nat) : zz (m : Int) = 2 * m := by
  unfold zz
  split <;> omega

/-- The bytes of a natural number. -/
def enc (u : Nat) : List Int := if h : u < 128 then [(u : Int)] else ((u % 128 + 128 : Nat) : Int) :: enc (u / 128)
termination_by u
theorem enc_lo {u : Nat} (h : u < 128) : enc u = [(u : Int)] := by rw [enc, dif_pos h]
theorem enc_hi {u : Nat} (h : ¬ u < 128) : enc u = ((u % 128 + 128 : Nat) : Int) :: enc (u / 128) := by rw [enc, dif_neg h]
theorem enc_len (d : Nat) : ∀ u, u < 128 ^ (d + 1) → (enc u).length ≤ d + 1 ∧ 1 ≤ (enc u).length := by
  induction d with
  | zero => intro u h; rw [enc_lo (by simpa using h)]; simp
  | succ d ih =>
    intro u h
    by_cases hu : u < 128
    · rw [enc_lo hu]; simp
    · rw [enc_hi hu]
      have := ih (u / 128) (by rw [Nat.div_lt_iff_lt_mul (by omega)]; rw [Nat.pow_succ] at h; exact h)
      simp only [List.length_cons]
      omega
theorem enc_bytes (d : Nat) : ∀ u, u < 128 ^ (d + 1) → ∀ c ∈ enc u, 0 ≤ c ∧ c ≤ 255 := by
  induction d with
  | zero =>
    intro u h c hc
    rw [enc_lo (by simpa using h)] at hc
    simp at hc h
    omega
  | succ d ih =>
    intro u h c hc
    by_cases hu : u < 128
    · rw [enc_lo hu] at hc
      simp at hc
      omega
    · rw [enc_hi hu] at hc
      rcases List.mem_cons.1 hc with hc | hc
      · omega
      · exact ih (u / 128) (by rw [Nat.div_lt_iff_lt_mul (by omega)]; rw [Nat.pow_succ] at h; exact h) c hc
theorem lt64 {u : Nat} (h : u < 18446744073709551616) : u < 128 ^ (9 + 1) := Nat.lt_trans h (by decide)

/-- What the first bytes say: a number, how many bytes, what went wrong (1: no number's, 2: more is wanted). -/
def getL : Nat → Nat → List Int → Int × Int × Int
  | _, _, [] => (0, 0, 2)
  | i, u, c :: cs =>
    if i = 9 ∧ c > 1 then (0, 0, 1)
    else if c > 127 then getL (i + 1) (u + (c % 128).toNat * 128 ^ i) cs
    else if i > 0 ∧ c = 0 then (0, 0, 1)
    else (unz (u + (c % 128).toNat * 128 ^ i), (i : Int) + 1, 0)

theorem pow_le {i : Nat} (h : 128 * 128 ^ i < 18446744073709551616) : i ≤ 8 := by
  rcases Nat.lt_or_ge 8 i with h9 | h9
  · have h1 : (128 : Nat) ^ 9 ≤ 128 ^ i := Nat.pow_le_pow_right (by omega) h9
    have h2 : (128 : Nat) ^ 9 = 9223372036854775808 := by decide
    omega
  · exact h9

theorem getL_enc (d : Nat) : ∀ (v i u : Nat) (rest : List Int), v < 128 ^ (d + 1) → v * 128 ^ i < 18446744073709551616 → (0 < i → 0 < v) →
    getL i u (enc v ++ rest) = (unz (u + v * 128 ^ i), (i : Int) + (enc v).length, 0) := by
  induction d with
  | zero =>
    intro v i u rest hv hb hp
    have hv : v < 128 := by simpa using hv
    rw [enc_lo hv]
    simp only [List.cons_append, List.nil_append, getL]
    have e : ((v : Int) % 128).toNat = v := by omega
    have h9 : ¬ (i = 9 ∧ (v : Int) > 1) := by
      rintro ⟨rfl, h⟩
      have h2 : (128 : Nat) ^ 9 = 9223372036854775808 := by decide
      rw [h2] at hb
      omega
    rw [if_neg h9, if_neg (by omega), if_neg (by omega), e]
    simp
  | succ d ih =>
    intro v i u rest hv hb hp
    by_cases hlt : v < 128
    · rw [enc_lo hlt]
      simp only [List.cons_append, List.nil_append, getL]
      have e : ((v : Int) % 128).toNat = v := by omega
      have h9 : ¬ (i = 9 ∧ (v : Int) > 1) := by
        rintro ⟨rfl, h⟩
        have h2 : (128 : Nat) ^ 9 = 9223372036854775808 := by decide
        rw [h2] at hb
        omega
      rw [if_neg h9, if_neg (by omega), if_neg (by omega), e]
      simp
    · rw [enc_hi hlt]
      simp only [List.cons_append, getL]
      have hi : i ≤ 8 := pow_le (Nat.lt_of_le_of_lt (Nat.mul_le_mul_right _ (by omega)) hb)
      rw [if_neg (by omega), if_pos (by omega)]
      have e : (((v % 128 + 128 : Nat) : Int) % 128).toNat = v % 128 := by omega
      rw [e]
      have hsplit : v * 128 ^ i = v % 128 * 128 ^ i + v / 128 * 128 ^ (i + 1) := by
        rw [Nat.pow_succ]
        have : v = v % 128 + v / 128 * 128 := by omega
        conv => lhs; rw [this]
        rw [Nat.add_mul, Nat.mul_assoc, Nat.mul_comm 128 (128 ^ i)]
      rw [ih (v / 128) (i + 1) (u + v % 128 * 128 ^ i) rest (by rw [Nat.div_lt_iff_lt_mul (by omega)]; rw [Nat.pow_succ] at hv; exact hv) (by omega) (by omega)]
      rw [Nat.add_assoc, ← hsplit]
      simp only [List.length_cons, Prod.mk.injEq, and_true, true_and]
      omega

theorem getL_cut (d : Nat) : ∀ (v i u m : Nat), v < 128 ^ (d + 1) → v * 128 ^ i < 18446744073709551616 → m < (enc v).length →
    getL i u ((enc v).take m) = (0, 0, 2) := by
  induction d with
  | zero =>
    intro v i u m hv hb hm
    have hv : v < 128 := by simpa using hv
    rw [enc_lo hv] at hm ⊢
    obtain rfl : m = 0 := by simpa using hm
    simp [getL]
  | succ d ih =>
    intro v i u m hv hb hm
    by_cases hlt : v < 128
    · rw [enc_lo hlt] at hm ⊢
      obtain rfl : m = 0 := by simpa using hm
      simp [getL]
    · rw [enc_hi hlt] at hm ⊢
      cases m with
      | zero => simp [getL]
      | succ m =>
        simp only [List.take_succ_cons, getL]
        have hi : i ≤ 8 := pow_le (Nat.lt_of_le_of_lt (Nat.mul_le_mul_right _ (by omega)) hb)
        rw [if_neg (by omega), if_pos (by omega)]
        have e : (((v % 128 + 128 : Nat) : Int) % 128).toNat = v % 128 := by omega
        rw [e]
        have hsplit : v * 128 ^ i = v % 128 * 128 ^ i + v / 128 * 128 ^ (i + 1) := by
          rw [Nat.pow_succ]
          have : v = v % 128 + v / 128 * 128 := by omega
          conv => lhs; rw [this]
          rw [Nat.add_mul, Nat.mul_assoc, Nat.mul_comm 128 (128 ^ i)]
        exact ih (v / 128) (i + 1) _ m (by rw [Nat.div_lt_iff_lt_mul (by omega)]; rw [Nat.pow_succ] at hv; exact hv) (by omega) (by simpa using hm)

/-- A number's bytes, and back. -/
def putN (n : Int) : List Int := enc (zz n)
def getN (l : List Int) : Int × Int × Int := getL 0 0 l
theorem putN_len {n : Int} (h : (Lit.int .i64 n).wf = true) : (putN n).length ≤ 10 ∧ 1 ≤ (putN n).length := enc_len 9 _ (lt64 (zz_lt h))
theorem putN_bytes {n : Int} (h : (Lit.int .i64 n).wf = true) : ∀ c ∈ putN n, 0 ≤ c ∧ c ≤ 255 := enc_bytes 9 _ (lt64 (zz_lt h))
theorem getN_putN {n : Int} (h : (Lit.int .i64 n).wf = true) (rest : List Int) : getN (putN n ++ rest) = (n, ((putN n).length : Int), 0) := by
  unfold getN putN
  rw [getL_enc 9 _ 0 0 rest (lt64 (zz_lt h)) (by simpa using zz_lt h) (by omega)]
  simp [unz_zz]
theorem getN_cut {n : Int} (h : (Lit.int .i64 n).wf = true) {m : Nat} (hm : m < (putN n).length) : getN ((putN n).take m) = (0, 0, 2) :=
  getL_cut 9 _ 0 0 m (lt64 (zz_lt h)) (by simpa using zz_lt h) hm
/-- What getL answers lies within what it read. -/
theorem getL_in (l : List Int) : ∀ (i u : Nat), (getL i u l).2.2 = 0 → (i : Int) + 1 ≤ (getL i u l).2.1 ∧ (getL i u l).2.1 ≤ (i : Int) + l.length := by
  induction l with
  | nil => intro i u h; simp [getL] at h
  | cons c cs ih =>
    intro i u h
    simp only [getL] at h ⊢
    split
    · rename_i h9; rw [if_pos h9] at h; simp at h
    · rename_i h9
      rw [if_neg h9] at h
      split
      · rename_i h1
        rw [if_pos h1] at h
        have := ih _ _ h
        simp only [List.length_cons]
        omega
      · rename_i h1
        rw [if_neg h1] at h
        split
        · rename_i h2; rw [if_pos h2] at h; simp at h
        · simp only [List.length_cons]; omega
theorem getN_in {l : List Int} (h : (getN l).2.2 = 0) : 1 ≤ (getN l).2.1 ∧ (getN l).2.1 ≤ l.length := by
  have := getL_in l 0 0 h
  unfold getN
  omega

/-- A text's bytes, and back. -/
def putS (s : ByteArray) : List Int := putN (s.size : Int) ++ bytesOf s
def getS (l : List Int) : ByteArray × Int × Int :=
  if (getN l).2.2 ≠ 0 then ((⟨#[]⟩ : ByteArray), 0, (getN l).2.2)
  else if (getN l).1 < 0 ∨ (getN l).1 > 65536 then ((⟨#[]⟩ : ByteArray), 0, 1)
  else if (getN l).1 > (l.length : Int) - (getN l).2.1 then ((⟨#[]⟩ : ByteArray), 0, 2)
  else (strOfNums ((l.take ((getN l).2.1 + (getN l).1).toNat).drop (getN l).2.1.toNat), (getN l).2.1 + (getN l).1, 0)
theorem size_wf {s : ByteArray} (h : s.size ≤ 65536) : (Lit.int .i64 (s.size : Int)).wf = true := by
  simp [Lit.wf, IntKind.min, IntKind.max, IntKind.signed, IntKind.bits]; omega
theorem bytesOf_len (s : ByteArray) : (bytesOf s).length = s.size := bytesOf_length s
theorem str_bytes (s : ByteArray) : strOfNums (bytesOf s) = s := by
  apply ByteArray.ext
  apply Array.ext'
  rw [strOfNums_data]
  unfold bytesOf
  rw [List.map_map]
  conv => rhs; rw [← List.map_id s.data.toList]
  apply List.map_congr_left
  intro b _
  simp
theorem bytes_str {l : List Int} (h : ∀ c ∈ l, 0 ≤ c ∧ c ≤ 255) : bytesOf (strOfNums l) = l := by
  unfold bytesOf
  rw [strOfNums_data, List.map_map]
  conv => rhs; rw [← List.map_id l]
  apply List.map_congr_left
  intro c hc
  have := h c hc
  simp only [Function.comp_apply, id]
  rw [UInt8.toNat_ofNat']
  omega
theorem getS_putS {s : ByteArray} (h : s.size ≤ 65536) (rest : List Int) : getS (putS s ++ rest) = (s, ((putS s).length : Int), 0) := by
  have hg := getN_putN (size_wf h) (bytesOf s ++ rest)
  unfold getS putS
  rw [List.append_assoc, hg]
  simp only [ne_eq, not_true_eq_false, if_false]
  have hl := bytesOf_len s
  rw [if_neg (by omega), if_neg (by simp only [List.length_append]; omega)]
  have e1 : (((putN (s.size : Int)).length : Int) + (s.size : Int)).toNat = (putN (s.size : Int)).length + (bytesOf s).length := by omega
  have e2 : (((putN (s.size : Int)).length : Int)).toNat = (putN (s.size : Int)).length := by omega
  rw [e1, e2, List.take_length_add_append, List.drop_left, List.take_left, str_bytes]
  simp only [List.length_append, Prod.mk.injEq, true_and, and_true]
  omega
theorem getS_cut {s : ByteArray} (h : s.size ≤ 65536) {m : Nat} (hm : m < (putS s).length) : getS ((putS s).take m) = ((⟨#[]⟩ : ByteArray), 0, 2) := by
  unfold putS at hm ⊢
  have hl := bytesOf_len s
  rcases Nat.lt_or_ge m (putN (s.size : Int)).length with h1 | h1
  · rw [List.take_append_of_le_length (by omega)]
    unfold getS
    rw [getN_cut (size_wf h) h1]
    simp
  · obtain ⟨j, rfl⟩ : ∃ j, m = (putN (s.size : Int)).length + j := ⟨m - (putN (s.size : Int)).length, by omega⟩
    rw [List.take_length_add_append]
    unfold getS
    rw [getN_putN (size_wf h)]
    simp only [ne_eq, not_true_eq_false, if_false]
    rw [if_neg (by omega), if_pos (by simp only [List.length_append, List.length_take] at hm ⊢; omega)]
end Go.Proofs.YtijnfnlahhgpgaaDoor.Pure
