/- ChangeMany: all pages may be changed at once: the plain statement of the law. -/
import Derived.Test.YtijnfnlahhgpgaaDoorChgB
import Derived.Test.YtijnfnlahhgpgaaDoorPx9
set_option linter.unusedVariables false
set_option linter.unusedSimpArgs false
namespace Go.Proofs.YtijnfnlahhgpgaaDoor.Pure
open Go.RowKit Go.Proofs.YtijnfnlahhgpgaaDoor.P Go.Proofs.YtijnfnlahhgpgaaDoorW.PrintWords Go.Proofs.YtijnfnlahhgpgaaDoorW.PrintLast Go.Proofs.YtijnfnlahhgpgaaDoorW.PrintMore
def manyL (p : List Int) : Int → Nat → List S38
 | _, 0 => []
 | a, n + 1 => ⟨a, p⟩ :: manyL p (a + 1) n
theorem manyL_len (p : List Int) : ∀ (n : Nat) (a : Int), (manyL p a n).length = n := by
  intro n
  induction n with
  | zero => intro a; rfl
  | succ n ih => intro a; simp [manyL, ih]
theorem manyL_app (p : List Int) : ∀ (n : Nat) (a : Int), manyL p a n ++ [(⟨a + n, p⟩ : S38)] = manyL p a (n + 1) := by
  intro n
  induction n with
  | zero => intro a; simp [manyL]
  | succ n ih =>
    intro a
    rw [manyL, List.cons_append, show a + ((n + 1 : Nat) : Int) = (a + 1) + (n : Int) by omega, ih (a + 1)]
    rfl
theorem manyL_IB {p : List Int} (hp : IB p) : ∀ (n : Nat) (a : Int), ∀ x ∈ manyL p a n, IB x.f1 := by
  intro n
  induction n with
  | zero => intro a x hx; cases hx
  | succ n ih =>
    intro a x hx
    rw [manyL] at hx
    rcases List.mem_cons.1 hx with rfl | hx
    · exact hp
    · exact ih _ x hx
theorem manyL_good {p : List Int} (hp : p.length = 256) : ∀ (n : Nat) (a : Int) (q : Option Int), 0 ≤ a → ltI q a = true → goodI q (manyL p a n) = decide (n = 0 ∨ a + n ≤ 96) := by
  intro n
  induction n with
  | zero => intro a q _ _; simp [manyL, goodI]
  | succ n ih =>
    intro a q ha hq
    simp only [manyL, goodI, okI, hq, Bool.true_and]
    rw [ih (a + 1) (some a) (by omega) (by simp only [ltI, decide_eq_true_eq]; omega), decide_eq_true ha, decide_eq_true hp, Bool.true_and, Bool.and_true, Bool.eq_iff_iff]
    simp only [Bool.and_eq_true, decide_eq_true_eq]
    omega
theorem manyL_may {p : List Int} (hp : p.length = 256) (n : Nat) {a : Int} (ha : 0 ≤ a) : mayI (manyL p a n) = decide (1 ≤ n ∧ a + n ≤ 96) := by
  unfold mayI
  rw [manyL_good hp n a none ha rfl, manyL_len, Bool.eq_iff_iff]
  simp only [Bool.and_eq_true, decide_eq_true_eq]
  omega
theorem many_l0 (a : Int) (ha : 0 ≤ a ∧ a ≤ 10) (n : Nat) (hn : n ≤ 100) (b : List Int) (hb : b.length < 1000) (r : Option Bool) (m : Nat) (hr : ∀ k, m ≤ k → engrosslaw16_ChangeMany.l0 (k + 1) (n : Int) a b (manyL (pageOf b) a n) (n : Int) = r) (d : Nat) : ∀ (k i : Nat), i + d = n → d + m < k →
    engrosslaw16_ChangeMany.l0 k (n : Int) a b (manyL (pageOf b) a i) (i : Int) = r := by
  induction d with
  | zero =>
    intro k i hi hk
    obtain ⟨k, rfl⟩ : ∃ m, k = m + 1 := ⟨k - 1, by omega⟩
    obtain rfl : i = n := by omega
    exact hr k (by omega)
  | succ d ih =>
    intro k i hi hk
    obtain ⟨k, rfl⟩ : ∃ m, k = m + 1 := ⟨k - 1, by omega⟩
    simp only [engrosslaw16_ChangeMany.l0]
    rw [if_pos (by omega), of_is hb]
    simp only [Option.bind_some]
    rw [if_pos (by rw [manyL_len]; omega), w64 (x := a + (i : Int)) (by omega), manyL_app, w64 (x := (i : Int) + 1) (by omega), show (i : Int) + 1 = ((i + 1 : Nat) : Int) from rfl]
    exact ih k (i + 1) (by omega) (by omega)
theorem ChangeMany : engrosslaw16_ChangeMany.Pure := by
  intro x a b hx ha' h1 h2 h3
  obtain ⟨k, hk⟩ : ∃ k : Nat, 4000 ≤ k := ⟨4000, Nat.le_refl _⟩
  refine ⟨k, ?_⟩
  unfold engrosslaw16_ChangeMany.f
  rw [begun16 (by omega)]
  simp only [Option.bind_some]
  rw [if_pos trivial]
  obtain ⟨k, rfl⟩ : ∃ m, k = m + 1 := ⟨k - 1, by omega⟩
  simp only [engrosslaw16_ChangeMany.j0]
  by_cases h4 : x < 0
  · rw [if_pos h4, if_pos trivial]
  rw [if_neg h4]
  by_cases h5 : x > 100
  · rw [if_pos h5, if_pos trivial]
  rw [if_neg h5]
  by_cases h6 : a < 0
  · rw [if_pos h6, if_pos trivial]
  rw [if_neg h6]
  by_cases h7 : a > 10
  · rw [if_pos h7, if_pos trivial]
  rw [if_neg h7]
  by_cases h8 : (b.length : Int) > 256
  · rw [decide_eq_true h8, if_pos rfl]
  rw [decide_eq_false h8, if_neg (by decide)]
  obtain ⟨n, rfl⟩ : ∃ n : Nat, x = (n : Int) := ⟨x.toNat, by omega⟩
  have hib : IB b := fun c hc => wf_u8 (h3 c hc)
  have hb := manyL_IB (IB_page hib) n a
  have hlen := manyL_len (pageOf b) n a
  have hm := manyL_may (p := pageOf b) (pageOf_len b) n (a := a) (by omega)
  refine many_l0 a (by omega) n (by omega) b (by omega) (some true) 3000 (fun k hk => ?_) n k 0 (by omega) (by omega)
  simp only [engrosslaw16_ChangeMany.l0]
  rw [if_neg (by omega)]
  have e1 : (if (n : Int) ≥ 1 then engrosslaw16_ChangeMany.j2 k (manyL (pageOf b) a n) (decide (wrap64 (a + (n : Int)) ≤ 96)) else engrosslaw16_ChangeMany.j2 k (manyL (pageOf b) a n) false) = engrosslaw16_ChangeMany.j2 k (manyL (pageOf b) a n) (mayI (manyL (pageOf b) a n)) := by
    rw [hm]
    by_cases h : (n : Int) ≥ 1
    · rw [if_pos h, w64 (by omega)]
      congr 1
      rw [Bool.eq_iff_iff]
      simp only [decide_eq_true_eq]
      omega
    · rw [if_neg h, decide_eq_false (by omega)]
  rw [e1]
  obtain ⟨k, rfl⟩ : ∃ m, k = m + 2 := ⟨k - 2, by omega⟩
  simp only [engrosslaw16_ChangeMany.j2]
  rw [encode_is (by omega) hb (by omega)]
  simp only [Option.bind_some]
  rw [may_is (by omega) (by omega)]
  simp only [Option.bind_some]
  rw [if_neg (by simp)]
  cases hq : mayI (manyL (pageOf b) a n)
  · have he : encF (manyL (pageOf b) a n) = [] := by unfold encF; rw [if_neg (by rw [hq]; decide)]
    rw [he]
    simp only [engrosslaw16_ChangeMany.j3]
    rw [if_neg (by decide), decode_is (fun c hc => by cases hc) (by simp) (by omega)]
    rfl
  · have he : encF (manyL (pageOf b) a n) = bytesI (manyL (pageOf b) a n) := by unfold encF; rw [if_pos hq]
    have hl := bytesI_len hq
    rw [he]
    simp only [engrosslaw16_ChangeMany.j3]
    rw [decide_eq_true (show ((bytesI (manyL (pageOf b) a n)).length : Int) > 0 by omega), if_neg (by decide), decode_is (bytesI_IB hq) (by omega) (by omega), dec_enc hq hb]
    simp only [Option.bind_some]
    rw [if_pos trivial, if_pos trivial, req_is (by omega) (by omega), eqI_self]
    rfl
end Go.Proofs.YtijnfnlahhgpgaaDoor.Pure
