/- What the laws' helpers of stage 1 (begun, Short, Cut) and the reference's Put, PutText answer. Condition: the rows stay below 2^47 bytes. -/
import Derived.Test.YtijnfnlahhgpgaaDoorNumF
import Derived.Test.YtijnfnlahhgpgaaDoorPx5
import Derived.Test.YtijnfnlahhgpgaaDoorPx6
set_option linter.unusedVariables false
set_option linter.unusedSimpArgs false
namespace Go.Proofs.YtijnfnlahhgpgaaDoor.Pure
open Go.RowKit Go.Proofs.YtijnfnlahhgpgaaDoor.P Go.Proofs.YtijnfnlahhgpgaaDoorW.PrintWords Go.Proofs.YtijnfnlahhgpgaaDoorW.PrintLast Go.Proofs.YtijnfnlahhgpgaaDoorW.PrintMore

theorem short_is (l : List Int) {n : Nat} : engrosslaw1_Short.f l (n : Int) = some (l.take n) := by
  unfold engrosslaw1_Short.f
  by_cases h : (l.length : Int) > n
  · rw [if_pos h, if_pos (by omega), if_pos (by omega)]
    simp
  · rw [if_neg h, List.take_of_length_le (by omega)]
theorem rput_l0 (d : Nat) : ∀ (k : Nat) (b : List Int) (u : Nat), u < 128 ^ (d + 1) → u < 18446744073709551616 → d < k → b.length + d + 1 ≤ 140737488355328 → engrossref1_Put.l0 k (u : Int) b = some (b ++ enc u) := by
  induction d with
  | zero =>
    intro k b u hu hw hk hb
    obtain ⟨k, rfl⟩ : ∃ m, k = m + 1 := ⟨k - 1, by omega⟩
    have hu : u < 128 := by simpa using hu
    simp only [engrossref1_Put.l0]
    rw [if_neg (by omega), if_pos (by omega), enc_lo hu]
    have e : (u : Int) % 256 = u := by omega
    rw [e]
  | succ d ih =>
    intro k b u hu hw hk hb
    obtain ⟨k, rfl⟩ : ∃ m, k = m + 1 := ⟨k - 1, by omega⟩
    simp only [engrossref1_Put.l0]
    by_cases hlt : u < 128
    · rw [if_neg (by omega), if_pos (by omega), enc_lo hlt]
      have e : (u : Int) % 256 = u := by omega
      rw [e]
    · rw [if_pos (by omega), if_pos (by omega)]
      have e1 : IntKind.u64.wrap (Int.tdiv (u : Int) 128) = ((u / 128 : Nat) : Int) := by
        rw [IntWalk.u64_quo _ _ (by omega)]
        omega
      have e2 : (IntKind.u64.wrap (Int.tmod (u : Int) 128 + 128)) % 256 = ((u % 128 + 128 : Nat) : Int) := by
        rw [Int.tmod_eq_emod_of_nonneg (by omega), IntKind.wrap_u64]
        omega
      rw [e1, e2, ih k _ (u / 128) (by rw [Nat.div_lt_iff_lt_mul (by omega)]; rw [Nat.pow_succ] at hu; exact hu) (by omega) (by omega) (by simp only [List.length_append, List.length_cons, List.length_nil]; omega), enc_hi hlt, List.append_assoc]
      rfl
theorem rput_is {n : Int} (h : (Lit.int .i64 n).wf = true) {k : Nat} (hk : 12 ≤ k) : engrossref1_Put.f k n = some (putN n) := by
  obtain ⟨h1, h2⟩ := zz_word h
  obtain ⟨k, rfl⟩ : ∃ m, k = m + 1 := ⟨k - 1, by omega⟩
  unfold engrossref1_Put.f putN
  by_cases hn : n < 0
  · rw [if_pos hn, h1 hn]
    simp only [engrossref1_Put.j0]
    exact rput_l0 9 k [] (zz n) (lt64 (zz_lt h)) (zz_lt h) (by omega) (by simp)
  · rw [if_neg hn, h2 hn]
    simp only [engrossref1_Put.j0]
    exact rput_l0 9 k [] (zz n) (lt64 (zz_lt h)) (zz_lt h) (by omega) (by simp)
theorem rputtext_is {s : ByteArray} (h : s.size ≤ 65536) {k : Nat} (hk : 12 ≤ k) : engrossref1_PutText.f k s = some (putS s) := by
  unfold engrossref1_PutText.f
  have hl := (putN_len (size_wf h)).1
  rw [rput_is (size_wf h) hk]
  simp only [Option.bind_some]
  rw [if_pos (by omega)]
  rfl
theorem wf_u8 {x : Int} (h : (Lit.int .u8 x).wf = true) : 0 ≤ x ∧ x ≤ 255 := by
  simpa [Lit.wf, IntKind.min, IntKind.max, IntKind.signed, IntKind.bits] using h
theorem bytesOf_in (s : ByteArray) : ∀ c ∈ bytesOf s, 0 ≤ c ∧ c ≤ 255 := by
  intro c hc
  unfold bytesOf at hc
  obtain ⟨b, _, rfl⟩ := List.mem_map.1 hc
  have := b.toNat_lt
  omega
theorem putS_bytes {s : ByteArray} (h : s.size ≤ 65536) : ∀ c ∈ putS s, 0 ≤ c ∧ c ≤ 255 := by
  intro c hc
  rcases List.mem_append.1 hc with hc | hc
  · exact putN_bytes (size_wf h) c hc
  · exact bytesOf_in s c hc
theorem putS_len {s : ByteArray} (h : s.size ≤ 65536) : (putS s).length ≤ s.size + 10 ∧ 1 ≤ (putS s).length := by
  have := putN_len (size_wf h)
  have h2 := bytesOf_len s
  unfold putS
  rw [List.length_append]
  omega
end Go.Proofs.YtijnfnlahhgpgaaDoor.Pure
