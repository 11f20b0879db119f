/- DatumTexts: texts as values: the plain statement of the law. -/
import Derived.Test.YthfpmpnedaliaaaDatB
import Derived.Test.YthfpmpnedaliaaaPx9
set_option linter.unusedVariables false
set_option linter.unusedSimpArgs false
namespace Go.Proofs.Ythfpmpnedaliaaa.Pure
open Go.RowKit Go.Proofs.Ythfpmpnedaliaaa.P Go.Proofs.YthfpmpnedaliaaaW.PrintWords Go.Proofs.YthfpmpnedaliaaaW.PrintLast Go.Proofs.YthfpmpnedaliaaaW.PrintMore
theorem texts_l0 (n : Nat) (hn : n ≤ 40) (x : Int) (d : Nat) : ∀ (k i : Nat) (l : List Int), i + d = n → d + 70 < k → l.length = n → engrosslaw4_DatumTexts.l0 k (n : Int) x l (n : Int) (i : Int) = some true := by
  induction d with
  | zero =>
    intro k i l hi hk hl
    obtain ⟨k, rfl⟩ : ∃ m, k = m + 1 := ⟨k - 1, by omega⟩
    simp only [engrosslaw4_DatumTexts.l0]
    have hsz : (strOfNums l).size = n := by rw [strOfNums_size, hl]
    generalize strOfNums l = s at hsz
    have em : mayV 2 0 s = decide (n ≤ 20) := by unfold mayV; rw [if_neg (by decide), if_neg (by decide), if_pos rfl, hsz]; simp
    rw [if_neg (by omega), may_is, em]
    simp only [Option.bind_some]
    by_cases h20 : n ≤ 20
    · rw [if_neg (by simp; omega), if_neg (by omega), dput_is (by decide) (by omega) (by omega) (by omega) (by simp), List.nil_append]
      simp only [Option.bind_some]
      have hm : mayV 2 0 s = true := by rw [em, decide_eq_true h20]
      have hlen := putV_len (kd := 2) (by decide) 0 (s := s) (by omega)
      rw [dget_is (putV_bytes (by decide) 0 (by omega)) (by omega) (by omega)]
      have hg := getV_putV hm (by omega) []
      rw [List.append_nil] at hg
      rw [hg]
      simp only [Option.bind_some]
      have ez : zz ((s.size : Nat) : Int) < 128 := by rw [zz_nat]; omega
      have e2 : putN 2 = [4] := by unfold putN; rw [show zz 2 = 4 from rfl, enc_lo (by omega)]; rfl
      have hL : (putV 2 0 s).length = n + 2 := by
        unfold putV tailV
        rw [if_neg (by decide), if_pos rfl, e2]
        unfold putS putN
        rw [enc_lo ez]
        simp only [List.length_append, List.length_cons, List.length_nil, bytesOf_len, hsz]
        omega
      rw [if_pos trivial, if_pos trivial, hL, w64 (x := (n : Int) + 2) (by omega)]
      simp
    · rw [if_neg (by simp; omega), if_pos (by omega)]
  | succ d ih =>
    intro k i l hi hk hl
    obtain ⟨k, rfl⟩ : ∃ m, k = m + 1 := ⟨k - 1, by omega⟩
    simp only [engrosslaw4_DatumTexts.l0]
    rw [if_pos (by omega), if_pos (by omega), if_pos (by omega), w64 (x := (i : Int) + 1) (by omega), show (i : Int) + 1 = ((i + 1 : Nat) : Int) from rfl]
    exact ih k (i + 1) _ (by omega) (by omega) (by rw [List.length_set]; exact hl)
theorem DatumTexts : engrosslaw4_DatumTexts.Pure := by
  intro n x hn hx
  obtain ⟨k, hk⟩ : ∃ k : Nat, 150 ≤ k := ⟨150, Nat.le_refl _⟩
  refine ⟨k, ?_⟩
  unfold engrosslaw4_DatumTexts.f
  rw [begun4 (by omega)]
  simp only [Option.bind_some, if_true]
  obtain ⟨k, rfl⟩ : ∃ m, k = m + 1 := ⟨k - 1, by omega⟩
  simp only [engrosslaw4_DatumTexts.j0]
  by_cases h1 : n < 0
  · rw [if_pos h1, if_pos trivial]
  · rw [if_neg h1]
    by_cases h2 : n > 40
    · rw [if_pos (by rw [decide_eq_true_eq]; exact h2)]
    · rw [if_neg (by rw [decide_eq_true_eq]; exact h2), if_pos (by omega), if_pos (by omega)]
      simp only [Option.bind_some, List.length_replicate]
      obtain ⟨m, rfl⟩ : ∃ m : Nat, n = m := ⟨n.toNat, by omega⟩
      rw [Int.toNat_natCast]
      exact texts_l0 m (by omega) x m k 0 _ (by omega) (by omega) (by rw [List.length_replicate])
end Go.Proofs.Ythfpmpnedaliaaa.Pure
