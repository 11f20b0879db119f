/- The order of texts. No condition. -/
import Derived.Test.YtppbdngfiphliaaXWords
set_option linter.unusedVariables false
set_option linter.unusedSimpArgs false
namespace Go.Proofs.Ytppbdngfiphliaa.Pure
open Go.RowKit Go.Proofs.YtppbdngfiphliaaW.PrintWords Go.Proofs.YtppbdngfiphliaaW.PrintLast Go.Proofs.YtppbdngfiphliaaW.PrintMore
theorem less_irr (l : List UInt8) : Op.bytesLess l l = false := by
  induction l with
  | nil => rfl
  | cons a l ih => simp [Op.bytesLess, ih]
theorem less_cons (a b : UInt8) (l m : List UInt8) : Op.bytesLess (a :: l) (b :: m) = true ↔ a < b ∨ a = b ∧ Op.bytesLess l m = true := by
  simp [Op.bytesLess]
theorem less_tri (l : List UInt8) : ∀ m, Op.bytesLess l m = true ∨ l = m ∨ Op.bytesLess m l = true := by
  induction l with
  | nil => intro m; cases m with
    | nil => exact .inr (.inl rfl)
    | cons b m => exact .inl rfl
  | cons a l ih =>
    intro m
    cases m with
    | nil => exact .inr (.inr rfl)
    | cons b m =>
      rw [less_cons, less_cons]
      have : a < b ∨ a = b ∨ b < a := by
        rw [UInt8.lt_iff_toNat_lt, UInt8.lt_iff_toNat_lt, ← UInt8.toNat_inj]
        omega
      rcases this with h | h | h
      · exact .inl (.inl h)
      · subst h
        rcases ih m with h | h | h
        · exact .inl (.inr ⟨rfl, h⟩)
        · exact .inr (.inl (by rw [h]))
        · exact .inr (.inr (.inr ⟨rfl, h⟩))
      · exact .inr (.inr (.inl h))
theorem less_trans (l : List UInt8) : ∀ m n, Op.bytesLess l m = true → Op.bytesLess m n = true → Op.bytesLess l n = true := by
  induction l with
  | nil => intro m n h1 h2; cases n with
    | nil => cases m <;> cases h2
    | cons c n => rfl
  | cons a l ih =>
    intro m n h1 h2
    cases m with
    | nil => cases h1
    | cons b m =>
      cases n with
      | nil => cases h2
      | cons c n =>
        rw [less_cons] at h1 h2 ⊢
        rcases h1 with h1 | ⟨rfl, h1⟩
        · rcases h2 with h2 | ⟨rfl, h2⟩
          · left; rw [UInt8.lt_iff_toNat_lt] at h1 h2 ⊢; omega
          · exact .inl h1
        · rcases h2 with h2 | ⟨rfl, h2⟩
          · exact .inl h2
          · exact .inr ⟨rfl, ih _ _ h1 h2⟩
theorem less_asym {l m : List UInt8} (h : Op.bytesLess l m = true) : Op.bytesLess m l = false := by
  cases e : Op.bytesLess m l with
  | false => rfl
  | true => have := less_trans _ _ _ h e; rw [less_irr] at this; cases this
theorem le_trans' {l m n : List UInt8} (h1 : Op.bytesLess m l = false) (h2 : Op.bytesLess n m = false) : Op.bytesLess n l = false := by
  rcases less_tri l m with h | h | h
  · rcases less_tri m n with g | g | g
    · exact less_asym (less_trans _ _ _ h g)
    · subst g; exact less_asym h
    · rw [g] at h2; cases h2
  · subst h; exact h2
  · rw [h] at h1; cases h1
theorem le_lt {l m n : List UInt8} (h1 : Op.bytesLess m l = false) (h2 : Op.bytesLess m n = true) : Op.bytesLess l n = true := by
  rcases less_tri l m with h | h | h
  · exact less_trans _ _ _ h h2
  · subst h; exact h2
  · rw [h] at h1; cases h1
theorem lt_le {l m n : List UInt8} (h1 : Op.bytesLess l m = true) (h2 : Op.bytesLess n m = false) : Op.bytesLess l n = true := by
  rcases less_tri m n with h | h | h
  · exact less_trans _ _ _ h1 h
  · subst h; exact h1
  · rw [h] at h2; cases h2
end Go.Proofs.Ytppbdngfiphliaa.Pure
