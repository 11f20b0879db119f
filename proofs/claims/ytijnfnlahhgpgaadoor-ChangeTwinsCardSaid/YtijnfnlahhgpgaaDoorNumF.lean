/- What the program's functions num.Put, Get, PutText, GetText and the reference's Put, PutText answer, as plain lists. Condition: the rows stay below 2^47 bytes. -/
import Derived.Test.YtijnfnlahhgpgaaDoorNum0
import Derived.Test.YtijnfnlahhgpgaaDoorPx1
import Derived.Test.YtijnfnlahhgpgaaDoorPx2
import Derived.Test.YtijnfnlahhgpgaaDoorPx3
set_option linter.unusedVariables false
set_option linter.unusedSimpArgs false
namespace Go.Proofs.YtijnfnlahhgpgaaDoor.Pure
open Go.RowKit Go.Proofs.YtijnfnlahhgpgaaDoor.P Go.Proofs.YtijnfnlahhgpgaaDoorW.PrintWords Go.Proofs.YtijnfnlahhgpgaaDoorW.PrintLast Go.Proofs.YtijnfnlahhgpgaaDoorW.PrintMore

theorem or128 {a : Int} (h0 : 0 ≤ a) (h1 : a < 256) : Go.bits .or .u8 a 128 = a % 128 + 128 := by
  rw [u8_or a 128 h0 h1 (by omega) (by omega)]
  have : ∀ b : Nat, b < 256 → b ||| 128 = b % 128 + 128 := by decide +kernel
  have e := this a.toNat (by omega)
  have e2 : (128 : Int).toNat = 128 := rfl
  rw [e2, e]
  omega
theorem and127 {a : Int} (h0 : 0 ≤ a) (h1 : a < 256) : Go.bits .and .u8 a 127 = a % 128 := by
  rw [u8_and a 127 h0 h1 (by omega) (by omega)]
  have e2 : (127 : Int).toNat = 127 := rfl
  rw [e2, nat_mask7]
  omega
theorem not64 {a : Int} (h0 : 0 ≤ a) (h1 : a < 18446744073709551616) : Go.bits .xor .u64 18446744073709551615 a = 18446744073709551615 - a := by
  rw [u64_xor _ a (by omega) (by omega) h0 h1]
  have e2 : (18446744073709551615 : Int).toNat = 2 ^ 64 - 1 := rfl
  rw [e2, Nat.xor_comm]
  have : a.toNat ^^^ (2 ^ 64 - 1) = 2 ^ 64 - 1 - a.toNat := by
    apply Nat.eq_of_testBit_eq
    intro i
    rw [Nat.testBit_xor, Nat.testBit_two_pow_sub_one]
    have hs : 2 ^ 64 - 1 - a.toNat = 2 ^ 64 - (a.toNat + 1) := by omega
    rw [hs, Nat.testBit_two_pow_sub_succ (by omega)]
    by_cases h : i < 64
    · simp [h]
    · have : a.toNat.testBit i = false := Nat.testBit_lt_two_pow (Nat.lt_of_lt_of_le (show a.toNat < 2 ^ 64 by omega) (Nat.pow_le_pow_right (by omega) (by omega)))
      simp [h, this]
  rw [this]
  omega
theorem zz_word {n : Int} (h : (Lit.int .i64 n).wf = true) :
    (n < 0 → Go.bits .xor .u64 18446744073709551615 (IntKind.u64.wrap ((IntKind.u64.wrap n) * 2)) = (zz n : Int)) ∧ (¬ n < 0 → IntKind.u64.wrap ((IntKind.u64.wrap n) * 2) = (zz n : Int)) := by
  have h1 : -9223372036854775808 ≤ n ∧ n ≤ 9223372036854775807 := by simpa [Lit.wf, IntKind.min, IntKind.max, IntKind.signed, IntKind.bits] using h
  refine ⟨fun hn => ?_, fun hn => ?_⟩
  · rw [not64 (by rw [IntKind.wrap_u64]; omega) (by rw [IntKind.wrap_u64]; omega), IntKind.wrap_u64, IntKind.wrap_u64]
    unfold zz
    rw [if_pos hn]
    omega
  · rw [IntKind.wrap_u64, IntKind.wrap_u64]
    unfold zz
    rw [if_neg hn]
    omega

theorem w64 {x : Int} (h : -9223372036854775808 ≤ x ∧ x ≤ 9223372036854775807) : wrap64 x = x := by unfold wrap64; omega
theorem put_l0 (d : Nat) : ∀ (k : Nat) (b : List Int) (u : Nat), u < 128 ^ (d + 1) → d < k → b.length + d + 1 ≤ 140737488355328 → num_Put.l0 k b (u : Int) = some (b ++ enc u) := by
  induction d with
  | zero =>
    intro k b u hu hk hb
    obtain ⟨k, rfl⟩ : ∃ m, k = m + 1 := ⟨k - 1, by omega⟩
    have hu : u < 128 := by simpa using hu
    simp only [num_Put.l0]
    rw [if_neg (by omega), if_pos (by omega), enc_lo hu]
    have e : (u : Int) % 256 = u := by omega
    rw [e]
  | succ d ih =>
    intro k b u hu hk hb
    obtain ⟨k, rfl⟩ : ∃ m, k = m + 1 := ⟨k - 1, by omega⟩
    simp only [num_Put.l0]
    by_cases hlt : u < 128
    · rw [if_neg (by omega), if_pos (by omega), enc_lo hlt]
      have e : (u : Int) % 256 = u := by omega
      rw [e]
    · rw [if_pos (by omega), if_pos (by omega), or128 (by omega) (by omega)]
      have e : ((u : Int) / 128) = ((u / 128 : Nat) : Int) := by omega
      rw [e, ih k _ (u / 128) (by rw [Nat.div_lt_iff_lt_mul (by omega)]; rw [Nat.pow_succ] at hu; exact hu) (by omega) (by simp only [List.length_append, List.length_cons, List.length_nil]; omega), enc_hi hlt, List.append_assoc]
      have e2 : (u : Int) % 256 % 128 + 128 = ((u % 128 + 128 : Nat) : Int) := by omega
      rw [e2]
      rfl
theorem put_is {n : Int} (h : (Lit.int .i64 n).wf = true) {k : Nat} (hk : 12 ≤ k) {b : List Int} (hb : b.length + 10 ≤ 140737488355328) : num_Put.f k b n = some (b ++ putN n) := by
  obtain ⟨h1, h2⟩ := zz_word h
  obtain ⟨k, rfl⟩ : ∃ m, k = m + 1 := ⟨k - 1, by omega⟩
  unfold num_Put.f putN
  by_cases hn : n < 0
  · rw [if_pos hn, h1 hn]
    simp only [num_Put.j0]
    exact put_l0 9 k b (zz n) (lt64 (zz_lt h)) (by omega) (by omega)
  · rw [if_neg hn, h2 hn]
    simp only [num_Put.j0]
    exact put_l0 9 k b (zz n) (lt64 (zz_lt h)) (by omega) (by omega)
theorem puttext_is {s : ByteArray} (h : s.size ≤ 65536) {k : Nat} (hk : 12 ≤ k) {b : List Int} (hb : b.length + 65546 ≤ 140737488355327) : num_PutText.f k b s = some (b ++ putS s) := by
  unfold num_PutText.f
  have hl := (putN_len (size_wf h)).1
  rw [put_is (size_wf h) hk (by omega)]
  simp only [Option.bind_some]
  rw [if_pos (by simp only [List.length_append]; omega)]
  unfold putS
  rw [List.append_assoc]

theorem and1 {U : Nat} (h : U < 18446744073709551616) : Go.bits .and .u64 (U : Int) 1 = ((U % 2 : Nat) : Int) := by
  have := u64_and_nat U 1 h (by omega)
  rw [nat_mask1] at this
  exact this
theorem notI64 {v : Nat} (hv : v < 9223372036854775808) : Go.bits .xor .i64 (-1) (v : Int) = -(v : Int) - 1 := by
  unfold Go.bits
  rw [IntKind.wrap_i64]
  have e5 : (BitVec.ofInt (IntKind.bits .i64) (-1) ^^^ BitVec.ofInt (IntKind.bits .i64) (v : Int)).toNat = 18446744073709551615 - v := by
    show (BitVec.ofInt 64 (-1) ^^^ BitVec.ofInt 64 (v : Int)).toNat = 18446744073709551615 - v
    have e6 : BitVec.ofInt 64 (-1) = BitVec.allOnes 64 := by decide
    have e7 : (BitVec.ofInt 64 (v : Int)).toNat = v := by
      rw [BitVec.toNat_ofInt]
      omega
    rw [e6, BitVec.allOnes_xor, BitVec.toNat_not, e7]
  simp only [e5]
  omega
theorem get_j2 {U i : Nat} {c : Int} (hU : U < 18446744073709551616) (hi : i ≤ 9) {k : Nat} (y : Bool) (hy : y = true ↔ (i > 0 ∧ c = 0)) :
    num_Get.j2 (k + 1) (U : Int) (i : Int) y = some (if i > 0 ∧ c = 0 then (0, 0, 1) else (unz U, (i : Int) + 1, 0)) := by
  simp only [num_Get.j2]
  by_cases h0 : i > 0 ∧ c = 0
  · rw [if_pos (hy.2 h0), if_pos h0]
  · rw [if_neg (fun h => h0 (hy.1 h)), if_neg h0, and1 hU]
    rw [w64 (x := (U : Int) / 2) (by omega), w64 (x := (i : Int) + 1) (by omega), show (U : Int) / 2 = ((U / 2 : Nat) : Int) from rfl]
    unfold unz
    by_cases hodd : U % 2 = 1
    · rw [if_pos (by omega), if_pos hodd, notI64 (by omega)]
    · rw [if_neg (by omega), if_neg hodd]
theorem pow9 : (128 : Nat) ^ 9 = 9223372036854775808 := by decide
theorem pow8 {i : Nat} (h8 : i ≤ 8) : (128 : Nat) ^ i ≤ 72057594037927936 := by
  have : (128 : Nat) ^ 8 = 72057594037927936 := by decide
  rw [← this]
  exact Nat.pow_le_pow_right (by omega) h8
theorem get_sum {i u : Nat} {c : Int} (hb : 0 ≤ c ∧ c ≤ 255) (hi : i ≤ 9) (hu : u < 128 ^ i) (h : ¬ (i = 9 ∧ c > 1)) :
    (c % 128).toNat * 128 ^ i < 18446744073709551616 ∧ u + (c % 128).toNat * 128 ^ i < 18446744073709551616 ∧ 128 ^ i < 18446744073709551616 := by
  rcases Nat.lt_or_ge 8 i with h8 | h8
  · have : i = 9 := by omega
    subst this
    rw [pow9] at hu ⊢
    have : c ≤ 1 := by omega
    omega
  · have := pow8 h8
    have h2 : (c % 128).toNat * 128 ^ i ≤ 127 * 72057594037927936 := Nat.mul_le_mul (by omega) this
    omega
theorem get_word {i u : Nat} {c : Int} (hb : 0 ≤ c ∧ c ≤ 255) (hi : i ≤ 9) (hu : u < 128 ^ i) (h : ¬ (i = 9 ∧ c > 1)) :
    Go.bits .or .u64 (u : Int) (shl .u64 (IntKind.u64.wrap (Go.bits .and .u8 c 127)) (7 * (i : Int))) = ((u + (c % 128).toNat * 128 ^ i : Nat) : Int) := by
  obtain ⟨h1, h2, h3⟩ := get_sum hb hi hu h
  have hs : shl .u64 (IntKind.u64.wrap (Go.bits .and .u8 c 127)) (7 * (i : Int)) = (((c % 128).toNat * 128 ^ i : Nat) : Int) := by
    unfold shl
    rw [and127 hb.1 (by omega), IntKind.wrap_u64, IntKind.wrap_u64]
    have e1 : min (7 * (i : Int)).toNat (IntKind.bits .u64) = 7 * i := by
      simp only [IntKind.bits]
      omega
    rw [e1]
    have e2 : (2 : Int) ^ (7 * i) = ((128 ^ i : Nat) : Int) := by
      rw [Int.pow_mul]
      push_cast
      rfl
    rw [e2]
    have e3 : c % 128 % 18446744073709551616 = (((c % 128).toNat : Nat) : Int) := by omega
    rw [e3, ← Int.natCast_mul]
    generalize (c % 128).toNat * 128 ^ i = q at h1
    omega
  rw [hs, u64_or_nat _ _ (by omega) h1]
  have e : u ||| (c % 128).toNat * 128 ^ i = u + (c % 128).toNat * 128 ^ i := by
    rw [Nat.or_comm, nat_join (7 * i) _ _ (by rw [Nat.pow_mul]; exact Nat.mul_mod_left _ _) (by rw [Nat.pow_mul]; exact hu), Nat.add_comm]
  rw [e]
theorem get_l0 (l : List Int) (hl : ∀ c ∈ l, 0 ≤ c ∧ c ≤ 255) (hn : l.length ≤ 140737488355328) (d : Nat) : ∀ (k i u : Nat) (cs : List Int), l.drop i = cs → i ≤ l.length → 10 - i ≤ d → i ≤ 9 ∨ cs = [] → 2 * d + 2 < k → u < 128 ^ i →
    num_Get.l0 k (u : Int) l (l.length : Int) (i : Int) = some (getL i u cs) := by
  induction d with
  | zero =>
    intro k i u cs hd hi hdi h9 hk hu
    obtain ⟨k, rfl⟩ : ∃ m, k = m + 1 := ⟨k - 1, by omega⟩
    rcases h9 with h9 | h9
    · omega
    · have : i = l.length := by
        rw [h9] at hd
        have := congrArg List.length hd
        simp at this
        omega
      simp only [num_Get.l0]
      rw [if_neg (by omega), h9]
      simp [getL]
  | succ d ih =>
    intro k i u cs hd hi hdi h9 hk hu
    obtain ⟨k, rfl⟩ : ∃ m, k = m + 1 := ⟨k - 1, by omega⟩
    cases cs with
    | nil =>
      have : i = l.length := by
        have := congrArg List.length hd
        simp at this
        omega
      simp only [num_Get.l0]
      rw [if_neg (by omega)]
      simp [getL]
    | cons c cs =>
      have h9 : i ≤ 9 := by
        rcases h9 with h9 | h9
        · exact h9
        · cases h9
      have hlt : i < l.length := by
        have := congrArg List.length hd
        simp at this
        omega
      have hcd : l[i] = c ∧ l.drop (i + 1) = cs := by
        have := List.getElem_cons_drop hlt
        rw [hd] at this
        exact List.cons.inj this
      have hr : rd l (i : Int) = c := by
        unfold rd
        rw [← hcd.1]
        simp [List.getD, hlt]
      have hb := hl c (by rw [← hcd.1]; exact List.getElem_mem hlt)
      obtain ⟨k, rfl⟩ : ∃ m, k = m + 1 := ⟨k - 1, by omega⟩
      have hk2 : 2 * d + 2 < k := by omega
      simp only [num_Get.l0]
      rw [if_pos (by omega), if_pos (by omega), if_pos (by omega), hr]
      have key : ∀ x : Bool, (x = true ↔ (i = 9 ∧ c > 1)) → num_Get.j1 (k + 1) (u : Int) (i : Int) c l (l.length : Int) (i : Int) x = some (getL i u (c :: cs)) := by
        intro x hx
        simp only [num_Get.j1, getL]
        by_cases h91 : i = 9 ∧ c > 1
        · rw [if_pos (hx.2 h91), if_pos h91]
        · obtain ⟨_, hsum, _⟩ := get_sum hb h9 hu h91
          rw [if_neg (fun h => h91 (hx.1 h)), if_neg h91, w64 (x := 7 * (i : Int)) (by omega), if_pos (by omega), get_word hb h9 hu h91]
          by_cases h127 : c > 127
          · rw [if_pos h127, if_pos h127, w64 (x := (i : Int) + 1) (by omega), show (i : Int) + 1 = ((i + 1 : Nat) : Int) from rfl]
            have hi8 : i ≤ 8 := by
              rcases Nat.lt_or_ge 8 i with h8 | h8
              · exfalso; apply h91; omega
              · exact h8
            refine ih k (i + 1) _ cs hcd.2 (by omega) (by omega) (.inl (by omega)) hk2 ?_
            rw [Nat.pow_succ]
            have h3 : (c % 128).toNat * 128 ^ i ≤ 127 * 128 ^ i := Nat.mul_le_mul_right _ (by omega)
            omega
          · rw [if_neg h127, if_neg h127]
            obtain ⟨k, rfl⟩ : ∃ m, k = m + 1 := ⟨k - 1, by omega⟩
            have hc1 : ((c == 0) = true) ↔ c = 0 := by simp
            by_cases h0 : (i : Int) > 0
            · rw [if_pos h0]
              exact get_j2 (c := c) hsum h9 (c == 0) (by rw [hc1]; omega)
            · rw [if_neg h0]
              exact get_j2 (c := c) hsum h9 false (by simp only [Bool.false_eq_true, false_iff]; omega)
      by_cases hi9 : (i : Int) = 9
      · rw [if_pos hi9]
        exact key _ (by simp only [decide_eq_true_eq]; omega)
      · rw [if_neg hi9]
        exact key _ (by simp only [Bool.false_eq_true, false_iff]; omega)
theorem get_is {l : List Int} (hl : ∀ c ∈ l, 0 ≤ c ∧ c ≤ 255) (hn : l.length ≤ 140737488355328) {k : Nat} (hk : 24 ≤ k) : num_Get.f k l = some (getN l) := by
  unfold num_Get.f getN
  exact get_l0 l hl hn 10 k 0 0 l rfl (by omega) (by omega) (.inl (by omega)) (by omega) (by decide)

theorem gettext_is {l : List Int} (hl : ∀ c ∈ l, 0 ≤ c ∧ c ≤ 255) (hn : l.length ≤ 140737488355328) {k : Nat} (hk : 24 ≤ k) : num_GetText.f k l = some (getS l) := by
  obtain ⟨k, rfl⟩ : ∃ m, k = m + 1 := ⟨k - 1, by omega⟩
  unfold num_GetText.f getS
  rw [get_is hl hn hk]
  simp only [Option.bind_some]
  by_cases h0 : (getN l).2.2 = 0
  · have hin := getN_in h0
    rw [if_pos h0, if_neg (show ¬ (getN l).2.2 ≠ 0 by simp [h0])]
    by_cases hneg : (getN l).1 < 0
    · rw [if_pos hneg, if_pos (.inl hneg)]
      simp only [num_GetText.j0]
      rw [if_pos trivial]
    · rw [if_neg hneg]
      simp only [num_GetText.j0, decide_eq_true_eq]
      by_cases hbig : (getN l).1 > 65536
      · rw [if_pos hbig, if_pos (.inr hbig)]
      · rw [if_neg hbig, if_neg (show ¬ ((getN l).1 < 0 ∨ (getN l).1 > 65536) by omega), w64 (x := (l.length : Int) - (getN l).2.1) (by omega), w64 (x := (getN l).2.1 + (getN l).1) (by omega)]
        by_cases hm : (getN l).1 > (l.length : Int) - (getN l).2.1
        · rw [if_pos hm, if_pos hm]
        · rw [if_neg hm, if_neg hm, if_pos (by omega), if_pos (by omega), if_pos (by omega)]
  · rw [if_neg h0, if_pos (show (getN l).2.2 ≠ 0 from h0)]
end Go.Proofs.YtijnfnlahhgpgaaDoor.Pure
