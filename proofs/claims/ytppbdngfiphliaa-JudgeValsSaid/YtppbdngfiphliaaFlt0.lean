/- Plain lemmas on floats by their bits: NaNs, what a sum's bits are, sums of lists. No condition. -/
import Derived.Test.YtppbdngfiphliaaXE
set_option linter.unusedVariables false
set_option linter.unusedSimpArgs false
namespace Go.Proofs.Ytppbdngfiphliaa.P
open Go.RowKit Go.Proofs.YtppbdngfiphliaaW.PrintWords

theorem sw : Ieee.double.signWeight = 9223372036854775808 := by decide
theorem ir : Ieee.double.infRung = 9218868437227405312 := by decide
theorem bd : Ieee.double.binade = 4503599627370496 := by decide
theorem read_nan {a : Nat} (h : 9218868437227405312 < a % 9223372036854775808) : ∃ s f, Ieee.double.read a = .nan s f := by
  unfold Ieee.Format.read
  rw [sw, ir, bd]
  dsimp only
  rw [if_neg (by omega), if_neg (by omega), if_neg (by omega)]
  exact ⟨_, _, rfl⟩
theorem read_num {a : Nat} (h : a % 9223372036854775808 ≤ 9218868437227405312) : ∀ s f, Ieee.double.read a ≠ .nan s f := by
  intro s f
  unfold Ieee.Format.read
  rw [sw, ir, bd]
  dsimp only
  by_cases h1 : a % 9223372036854775808 < 4503599627370496
  · rw [if_pos h1]; simp
  · rw [if_neg h1]
    by_cases h2 : a % 9223372036854775808 < 9218868437227405312
    · rw [if_pos h2]; simp
    · rw [if_neg h2, if_pos (by omega)]; simp
theorem word_mod (neg : Bool) {r : Nat} (h : r ≤ 9218868437227405312) : Ieee.double.word neg r % 9223372036854775808 ≤ 9218868437227405312 ∧ Ieee.double.word neg r < 18446744073709551616 := by
  unfold Ieee.Format.word
  rw [sw]
  split <;> omega
theorem write_num {d : Ieee.Datum} (h : ∀ s f, d ≠ .nan s f) : Ieee.double.write d % 9223372036854775808 ≤ 9218868437227405312 ∧ Ieee.double.write d < 18446744073709551616 := by
  cases d with
  | number s m e =>
    unfold Ieee.Format.write Ieee.Format.nearest
    dsimp only
    rw [ir]
    split
    · exact word_mod s (by omega)
    · exact word_mod s (Nat.min_le_right _ _)
  | infinity s =>
    unfold Ieee.Format.write
    dsimp only
    rw [ir]
    exact word_mod s (by omega)
  | nan s f => exact absurd rfl (h s f)
theorem sum_num {x y d : Ieee.Datum} (h : Ieee.Datum.sum x y = some d) : ∀ s f, d ≠ .nan s f := by
  intro s f e
  subst e
  cases x <;> cases y <;> simp [Ieee.Datum.sum] at h
theorem add_num {x y r : Nat} (h : floatBits .add .f64 x y = some r) : r % 9223372036854775808 ≤ 9218868437227405312 ∧ r < 18446744073709551616 := by
  have h1 : ((Ieee.double.read x).sum (Ieee.double.read y)).map Ieee.double.write = some r := h
  obtain ⟨d, hd, rfl⟩ := Option.map_eq_some_iff.1 h1
  exact write_num (sum_num hd)
theorem add_nan {x y : Nat} (h : 9218868437227405312 < x % 9223372036854775808) : floatBits .add .f64 x y = none := by
  obtain ⟨s, f, e⟩ := read_nan h
  show ((Ieee.double.read x).sum (Ieee.double.read y)).map Ieee.double.write = none
  rw [e]
  cases Ieee.double.read y <;> rfl
theorem add_nan' {x y : Nat} (h : 9218868437227405312 < y % 9223372036854775808) : floatBits .add .f64 x y = none := by
  obtain ⟨s, f, e⟩ := read_nan h
  show ((Ieee.double.read x).sum (Ieee.double.read y)).map Ieee.double.write = none
  rw [e]
  cases Ieee.double.read x <;> rfl
theorem order_nan {x y : Nat} (h : 9218868437227405312 < x % 9223372036854775808) : FloatKind.f64.format.order x y = none := by
  obtain ⟨s, f, e⟩ := read_nan h
  show (Ieee.double.read x).order (Ieee.double.read y) = none
  rw [e]
  cases Ieee.double.read y <;> rfl
theorem order_self {x : Nat} (h : x % 9223372036854775808 ≤ 9218868437227405312) : FloatKind.f64.format.order x x = some .eq := by
  have hr := read_num h
  show (Ieee.double.read x).order (Ieee.double.read x) = some .eq
  cases e : Ieee.double.read x with
  | number s m i => simp [Ieee.Datum.order]
  | infinity s => simp [Ieee.Datum.order]
  | nan s f => exact absurd e (hr s f)
theorem self_ne (x : Nat) : (FloatKind.f64.format.order x x != some .eq) = decide (9218868437227405312 < x % 9223372036854775808) := by
  by_cases h : 9218868437227405312 < x % 9223372036854775808
  · rw [order_nan h, decide_eq_true h]; rfl
  · rw [order_self (by omega), decide_eq_false h]; rfl

/-- A sum so far: none: it is a NaN. -/
def addO : Option Nat → Nat → Option Nat
  | some a, f => floatBits .add .f64 a f
  | none, _ => none
def sumO (l : List Nat) : Option Nat := l.foldl addO (some 0)
/-- A list's sum, all NaNs one. -/
def sumF (l : List Nat) : Nat := match sumO l with | some b => b | none => 9221120237041090560
theorem sumO_snoc (l : List Nat) (f : Nat) : sumO (l ++ [f]) = addO (sumO l) f := by
  unfold sumO
  rw [List.foldl_append]
  rfl
theorem fold_none (l : List Nat) : l.foldl addO none = none := by
  induction l with
  | nil => rfl
  | cons f l ih => exact ih
theorem fold_num (l : List Nat) : ∀ {a b : Nat}, (a % 9223372036854775808 ≤ 9218868437227405312 ∧ a < 18446744073709551616) → l.foldl addO (some a) = some b → b % 9223372036854775808 ≤ 9218868437227405312 ∧ b < 18446744073709551616 := by
  induction l with
  | nil => intro a b ha h; cases h; exact ha
  | cons f l ih =>
    intro a b ha h
    rw [List.foldl_cons] at h
    cases e : addO (some a) f with
    | none => rw [e, fold_none] at h; cases h
    | some c => rw [e] at h; exact ih (add_num e) h
theorem sumO_num {l : List Nat} {b : Nat} (h : sumO l = some b) : b % 9223372036854775808 ≤ 9218868437227405312 ∧ b < 18446744073709551616 :=
  fold_num l (by omega) h
/-- What the machine holds of a sum so far. -/
def AccOk (l : List Nat) (acc : Nat) : Prop := match sumO l with | some b => acc = b | none => isNaNb acc
theorem accOk_nil : AccOk [] 0 := rfl
theorem accOk_step {l : List Nat} {acc f r : Nat} (h : AccOk l acc) (hr : match floatBits .add .f64 acc f with | some b => r = b | none => isNaNb r) : AccOk (l ++ [f]) r := by
  unfold AccOk at h ⊢
  rw [sumO_snoc]
  cases e : sumO l with
  | some b =>
    rw [e] at h
    dsimp only at h
    subst h
    exact hr
  | none =>
    rw [e] at h
    rw [add_nan h.2] at hr
    exact hr
theorem accOk_end {l : List Nat} {acc : Nat} (h : AccOk l acc) : (if 9218868437227405312 < acc % 9223372036854775808 then 9221120237041090560 else acc) = sumF l := by
  unfold AccOk at h
  unfold sumF
  cases e : sumO l with
  | some b =>
    rw [e] at h
    dsimp only at h ⊢
    subst h
    rw [if_neg (by have := (sumO_num e).1; omega)]
  | none =>
    rw [e] at h
    rw [if_pos h.2]
end Go.Proofs.Ytppbdngfiphliaa.P
