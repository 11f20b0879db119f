/- NumSize: a number takes as many bytes as it needs, seven bits each: the plain statement of the law, for every number of 64 bits. -/
import Derived.Test.YtdgeenmpmjdbfaaNumB
import Derived.Test.YtdgeenmpmjdbfaaPx4
set_option linter.unusedVariables false
set_option linter.unusedSimpArgs false
namespace Go.Proofs.Ytdgeenmpmjdbfaa.Pure
open Go.RowKit Go.Proofs.Ytdgeenmpmjdbfaa.P Go.Proofs.YtdgeenmpmjdbfaaW.PrintWords Go.Proofs.YtdgeenmpmjdbfaaW.PrintLast Go.Proofs.YtdgeenmpmjdbfaaW.PrintMore

theorem size_l0 {n : Int} (h : (Lit.int .i64 n).wf = true) (d : Nat) : ∀ (k u : Nat) (x : Int), u < 128 ^ (d + 1) → d + 60 < k → 0 ≤ x → x ≤ 100 → x + (enc u).length = (putN n).length + 1 →
    engrosslaw1_NumSize.l0 k n (u : Int) x = some true := by
  have fin : ∀ k : Nat, 40 ≤ k → ((num_Put.f k ([] : List Int) n).bind fun t209 => ((num_Get.f k t209).bind fun bt212 => (if (t209.length : Int) = ((putN n).length : Int) then (if bt212.2.1 = ((putN n).length : Int) then (some (bt212.2.2 == 0)) else (some false)) else (some false)))) = some true := by
    intro k hk
    have hl := putN_len h
    rw [put_is h (by omega) (by simp)]
    simp only [Option.bind_some, List.nil_append]
    rw [get_is (putN_bytes h) (by omega) (by omega)]
    simp only [Option.bind_some]
    have hg := getN_putN h []
    rw [List.append_nil] at hg
    rw [hg]
    simp
  induction d with
  | zero =>
    intro k u x hu hk h0 h1 he
    obtain ⟨k, rfl⟩ : ∃ m, k = m + 1 := ⟨k - 1, by omega⟩
    have hu : u < 128 := by simpa using hu
    rw [enc_lo hu] at he
    simp only [List.length_cons, List.length_nil] at he
    obtain rfl : x = ((putN n).length : Int) := by omega
    simp only [engrosslaw1_NumSize.l0]
    rw [if_neg (by omega)]
    exact fin k (by omega)
  | succ d ih =>
    intro k u x hu hk h0 h1 he
    obtain ⟨k, rfl⟩ : ∃ m, k = m + 1 := ⟨k - 1, by omega⟩
    simp only [engrosslaw1_NumSize.l0]
    have hl := putN_len h
    by_cases hlt : u < 128
    · rw [enc_lo hlt] at he
      simp only [List.length_cons, List.length_nil] at he
      obtain rfl : x = ((putN n).length : Int) := by omega
      rw [if_neg (by omega)]
      exact fin k (by omega)
    · rw [if_pos (by omega)]
      rw [enc_hi hlt] at he
      simp only [List.length_cons] at he
      have hpos := (enc_len d (u / 128) (by rw [Nat.div_lt_iff_lt_mul (by omega)]; rw [Nat.pow_succ] at hu; exact hu)).2
      rw [w64 (x := x + 1) (by omega), show (u : Int) / 128 = ((u / 128 : Nat) : Int) from rfl]
      exact ih k (u / 128) (x + 1) (by rw [Nat.div_lt_iff_lt_mul (by omega)]; rw [Nat.pow_succ] at hu; exact hu) (by omega) (by omega) (by omega) (by omega)

theorem NumSize : engrosslaw1_NumSize.Pure := by
  intro n h
  obtain ⟨h1, h2⟩ := zz_word h
  refine ⟨200, ?_⟩
  unfold engrosslaw1_NumSize.f
  rw [begun1 (by omega)]
  simp only [Option.bind_some, if_true]
  have key : engrosslaw1_NumSize.j0 200 n (zz n : Int) = some true := by
    rw [show (200 : Nat) = 199 + 1 from rfl]
    simp only [engrosslaw1_NumSize.j0]
    exact size_l0 h 9 199 (zz n) 1 (lt64 (zz_lt h)) (by omega) (by omega) (by omega) (by unfold putN; omega)
  by_cases hn : n < 0
  · rw [if_pos hn, h1 hn]; exact key
  · rw [if_neg hn, h2 hn]; exact key
end Go.Proofs.Ytdgeenmpmjdbfaa.Pure
