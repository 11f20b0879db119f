/- KeyMid: the shortest text above a and at most b: the plain statement of the law. -/
import Derived.Test.YtoeiogailnfbkaaKeyB
import Derived.Test.YtoeiogailnfbkaaPx4
import Derived.Test.YtoeiogailnfbkaaPx5
set_option linter.unusedVariables false
set_option linter.unusedSimpArgs false
namespace Go.Proofs.Ytoeiogailnfbkaa.Pure
open Go.RowKit Go.Proofs.Ytoeiogailnfbkaa.P Go.Proofs.YtoeiogailnfbkaaW.PrintWords Go.Proofs.YtoeiogailnfbkaaW.PrintLast Go.Proofs.YtoeiogailnfbkaaW.PrintMore
theorem rmid_l0 {a b : ByteArray} (hb : b.size ≤ 20) (h : Op.bytesLess a.toList b.toList = true) {m : Nat} (hm : m ≤ b.size) (ho : ov a b m) (hl : ∀ j, j < m → ¬ ov a b j) (d : Nat) : ∀ k i : Nat, i + d = m → 2 * d + 2 ≤ k → engrossref1_Mid.l0 k a b (i : Int) = some (b.extract 0 m) := by
  induction d with
  | zero =>
    intro k i hi hk
    obtain ⟨k, rfl⟩ : ∃ m, k = m + 2 := ⟨k - 2, by omega⟩
    obtain rfl : i = m := by omega
    simp only [engrossref1_Mid.l0, engrossref1_Mid.j1]
    rw [if_pos h, if_pos (by rw [decide_eq_true_eq]; omega), if_pos (by omega), if_pos (by omega), Int.toNat_natCast, if_pos (show Op.bytesLess a.toList (b.extract 0 i).toList = true from ho)]
  | succ d ih =>
    intro k i hi hk
    obtain ⟨k, rfl⟩ : ∃ m, k = m + 2 := ⟨k - 2, by omega⟩
    simp only [engrossref1_Mid.l0, engrossref1_Mid.j1]
    rw [if_pos h, if_pos (by rw [decide_eq_true_eq]; omega), if_pos (by omega), if_pos (by omega), Int.toNat_natCast, if_neg (show ¬ Op.bytesLess a.toList (b.extract 0 i).toList = true from hl i (by omega)), w64' (x := (i : Int) + 1) (by omega), show (i : Int) + 1 = ((i + 1 : Nat) : Int) from rfl]
    exact ih k (i + 1) (by omega) (by omega)
theorem rmid_no {a b : ByteArray} (h : ¬ Op.bytesLess a.toList b.toList = true) {k : Nat} : engrossref1_Mid.l0 (k + 2) a b 1 = some (⟨#[]⟩ : ByteArray) := by
  simp only [engrossref1_Mid.l0, engrossref1_Mid.j1]
  rw [if_neg h, if_neg (by decide)]
theorem rmid_f {a b : ByteArray} {k : Nat} : engrossref1_Mid.f k a b = engrossref1_Mid.l0 k a b 1 := rfl
theorem less_nil (l : List UInt8) : Op.bytesLess l [] = false := by cases l <;> rfl
theorem ov_pos {a b : ByteArray} {m : Nat} (ho : ov a b m) : 1 ≤ m := by
  rcases Nat.eq_zero_or_pos m with h0 | h0
  · subst h0
    unfold ov at ho
    rw [ext_list, List.drop_zero, List.take_zero, less_nil] at ho
    cases ho
  · exact h0
theorem rmid_is {a b : ByteArray} (hb : b.size ≤ 20) (h : Op.bytesLess a.toList b.toList = true) {m : Nat} (hm : m ≤ b.size) (ho : ov a b m) (hl : ∀ j, j < m → ¬ ov a b j) {k : Nat} (hk : 60 ≤ k) : engrossref1_Mid.f k a b = some (b.extract 0 m) := by
  have := ov_pos ho
  rw [rmid_f]
  exact rmid_l0 hb h hm ho hl (m - 1) k 1 (by omega) (by omega)
theorem KeyMid : engrosslaw5_KeyMid.Pure := by
  intro a0 b0 _ _
  obtain ⟨k, hk⟩ : ∃ k : Nat, 60 ≤ k := ⟨60, Nat.le_refl _⟩
  refine ⟨k, ?_⟩
  unfold engrosslaw5_KeyMid.f
  rw [begun5 (by omega)]
  simp only [Option.bind_some, if_true]
  obtain ⟨a, ea, ha⟩ := cut_is a0 (n := 20)
  obtain ⟨b, eb, hb⟩ := cut_is b0 (n := 20)
  rw [show (20 : Int) = ((20 : Nat) : Int) from rfl, ea, eb]
  simp only [Option.bind_some]
  by_cases h : Op.bytesLess a.toList b.toList = true
  · obtain ⟨m, hm, ho, hl, e⟩ := mid_lt hb h (k := k) (by omega)
    have h1 : 1 ≤ m := ov_pos ho
    rw [e]
    have er : engrossref1_Mid.f k a b = some (b.extract 0 m) := rmid_is hb h hm ho hl (by omega)
    rw [er]
    simp only [Option.bind_some]
    have hsz : (b.extract 0 m).size = m := by rw [ByteArray.size_extract]; omega
    have hle : Op.bytesLess b.toList (b.extract 0 m).toList = false := by
      rw [ext_list, List.drop_zero]; exact less_take _ _
    rw [if_pos trivial, if_pos h, if_pos (show Op.bytesLess a.toList (b.extract 0 m).toList = true from ho), if_neg (by rw [hle]; decide), if_pos (by omega), if_pos (by omega), Int.toNat_natCast, hsz]
    simp
  · rw [mid_ge hb h (by omega)]
    have er : engrossref1_Mid.f k a b = some (⟨#[]⟩ : ByteArray) := by
      obtain ⟨k, rfl⟩ : ∃ m, k = m + 2 := ⟨k - 2, by omega⟩
      rw [rmid_f]
      exact rmid_no h
    rw [er]
    simp only [Option.bind_some]
    rw [if_pos trivial, if_neg h]
end Go.Proofs.Ytoeiogailnfbkaa.Pure
