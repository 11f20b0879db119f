/- KeyLens: a text of n letters may be a key if n is 1 to 16: the plain statement of the law. -/
import Derived.Test.YtoeiogailnfbkaaKeyB
import Derived.Test.YtoeiogailnfbkaaPx5
set_option linter.unusedVariables false
set_option linter.unusedSimpArgs false
namespace Go.Proofs.Ytoeiogailnfbkaa.Pure
open Go.RowKit Go.Proofs.Ytoeiogailnfbkaa.P Go.Proofs.YtoeiogailnfbkaaW.PrintWords Go.Proofs.YtoeiogailnfbkaaW.PrintLast Go.Proofs.YtoeiogailnfbkaaW.PrintMore
theorem lens_l0 (n : Nat) (hn : n ≤ 40) (x : Int) (d : Nat) : ∀ (k i : Nat) (l : List Int), i + d = n → d < k → l.length = n → engrosslaw5_KeyLens.l0 k (n : Int) x l (n : Int) (i : Int) = some true := by
  induction d with
  | zero =>
    intro k i l hi hk hl
    obtain ⟨k, rfl⟩ : ∃ m, k = m + 1 := ⟨k - 1, by omega⟩
    simp only [engrosslaw5_KeyLens.l0]
    rw [if_neg (by omega), may_key, strOfNums_size, hl]
    simp only [Option.bind_some]
    by_cases h1 : (n : Int) ≥ 1
    · rw [if_pos h1]
      congr 1
      rw [beq_iff_eq, Bool.eq_iff_iff]
      simp
      omega
    · rw [if_neg h1]
      obtain rfl : n = 0 := by omega
      rfl
  | succ d ih =>
    intro k i l hi hk hl
    obtain ⟨k, rfl⟩ : ∃ m, k = m + 1 := ⟨k - 1, by omega⟩
    simp only [engrosslaw5_KeyLens.l0]
    rw [if_pos (by omega), if_pos (by omega), if_pos (by omega), w64' (x := (i : Int) + 1) (by omega), show (i : Int) + 1 = ((i + 1 : Nat) : Int) from rfl]
    exact ih k (i + 1) _ (by omega) (by omega) (by rw [List.length_set]; exact hl)
theorem KeyLens : engrosslaw5_KeyLens.Pure := by
  intro n x hn hx
  refine ⟨60, ?_⟩
  unfold engrosslaw5_KeyLens.f
  rw [begun5 (by omega)]
  simp only [Option.bind_some, if_true]
  rw [show (60 : Nat) = 59 + 1 from rfl]
  simp only [engrosslaw5_KeyLens.j0]
  by_cases h1 : n < 0
  · rw [if_pos h1, if_pos trivial]
  · rw [if_neg h1]
    by_cases h2 : n > 40
    · rw [if_pos (by rw [decide_eq_true_eq]; exact h2)]
    · rw [if_neg (by rw [decide_eq_true_eq]; exact h2), if_pos (by omega), if_pos (by omega)]
      simp only [Option.bind_some, List.length_replicate]
      obtain ⟨m, rfl⟩ : ∃ m : Nat, n = m := ⟨n.toNat, by omega⟩
      rw [Int.toNat_natCast]
      exact lens_l0 m (by omega) x m 59 0 _ (by omega) (by omega) (by rw [List.length_replicate])
end Go.Proofs.Ytoeiogailnfbkaa.Pure
