/- What May, Encode, Eq of package change and the reference's MayImages, Images, EqImages answer, as plain lists. Condition: at most 1000 images, bytes from 0 to 255. -/
import Derived.Test.YtijnfnlahhgpgaaDoorNumR
import Derived.Test.YtijnfnlahhgpgaaDoorXP
import Derived.Test.YtijnfnlahhgpgaaDoorXK
import Derived.Test.YtijnfnlahhgpgaaDoorPx1
import Derived.Test.YtijnfnlahhgpgaaDoorPx2
import Derived.Test.YtijnfnlahhgpgaaDoorPx5
import Derived.Test.YtijnfnlahhgpgaaDoorPx7
set_option linter.unusedVariables false
set_option linter.unusedSimpArgs false
namespace Go.Proofs.YtijnfnlahhgpgaaDoor.Pure
open Go.RowKit Go.Proofs.YtijnfnlahhgpgaaDoor.P Go.Proofs.YtijnfnlahhgpgaaDoorW.PrintWords Go.Proofs.YtijnfnlahhgpgaaDoorW.PrintLast Go.Proofs.YtijnfnlahhgpgaaDoorW.PrintMore

theorem drop_step {α : Type} {l : List α} {c : α} {cs : List α} {i : Nat} (h : l.drop i = c :: cs) : ∃ hlt : i < l.length, l[i] = c ∧ l.drop (i + 1) = cs := by
  have hlt : i < l.length := by
    have := congrArg List.length h
    simp at this
    omega
  have := List.getElem_cons_drop hlt
  rw [h] at this
  exact ⟨hlt, List.cons.inj this⟩
theorem drop_nil {α : Type} {l : List α} {i : Nat} (h : l.drop i = []) : l.length ≤ i := List.drop_eq_nil_iff.1 h
/-- What stands ahead of a place. -/
def prevO {α : Type} (l : List α) (i : Nat) : Option α := if i = 0 then none else l[i - 1]?
theorem prevO_zero {α : Type} (l : List α) : prevO l 0 = none := rfl
theorem prevO_succ {α : Type} {l : List α} {c : α} {cs : List α} {i : Nat} (h : l.drop i = c :: cs) : prevO l (i + 1) = some c := by
  obtain ⟨hlt, h1, _⟩ := drop_step h
  unfold prevO
  rw [if_neg (by omega), Nat.add_sub_cancel, List.getElem?_eq_getElem hlt, h1]
theorem prevO_pos {α : Type} {l : List α} {i : Nat} (h0 : 0 < i) (h1 : i ≤ l.length) : ∃ hlt : i - 1 < l.length, prevO l i = some (l[i - 1]'hlt) := by
  refine ⟨by omega, ?_⟩
  unfold prevO
  rw [if_neg (by omega), List.getElem?_eq_getElem (by omega)]
theorem rd38 {l : List S38} {i : Nat} (h : i < l.length) : rd_T38 l (i : Int) = l[i] := by
  unfold rd_T38
  simp [List.getD, h]
/-- Bytes. -/
def IB (l : List Int) : Prop := ∀ c ∈ l, 0 ≤ c ∧ c ≤ 255
theorem IB_left {a b : List Int} (h : IB (a ++ b)) : IB a := fun c hc => h c (List.mem_append_left _ hc)
theorem IB_app {a b : List Int} (h1 : IB a) (h2 : IB b) : IB (a ++ b) := fun c hc => by
  rcases List.mem_append.1 hc with hc | hc
  · exact h1 c hc
  · exact h2 c hc
theorem IB_drop {l : List Int} (h : IB l) (n : Nat) : IB (l.drop n) := fun c hc => h c (List.mem_of_mem_drop hc)
theorem IB_take {l : List Int} (h : IB l) (n : Nat) : IB (l.take n) := fun c hc => h c (List.mem_of_mem_take hc)
theorem IB_zeros (n : Nat) : IB (List.replicate n 0) := fun c hc => by
  obtain rfl := List.eq_of_mem_replicate hc
  omega
theorem IB_page {l : List Int} (h : IB l) : IB (pageOf l) := IB_app (IB_take h _) (IB_zeros _)
theorem str_inj {a b : List Int} (ha : IB a) (hb : IB b) : (strOfNums a).toList = (strOfNums b).toList ↔ a = b := by
  constructor
  · intro h
    have h2 : strOfNums a = strOfNums b := by
      rw [Go.ByteArray.toList_eq, Go.ByteArray.toList_eq] at h
      exact ByteArray.ext (Array.toList_inj.1 h)
    rw [← bytes_str ha, ← bytes_str hb, h2]
  · intro h; rw [h]

/-! ### the noughts at a row's end -/
def trimZ (l : List Int) : List Int := (l.reverse.dropWhile fun c => c == 0).reverse
theorem trimZ_nil : trimZ [] = [] := rfl
theorem trimZ_nought (l : List Int) : trimZ (l ++ [0]) = trimZ l := by
  unfold trimZ
  rw [List.reverse_append, List.reverse_singleton, List.singleton_append, List.dropWhile_cons_of_pos (by decide)]
theorem trimZ_last (l : List Int) {c : Int} (h : c ≠ 0) : trimZ (l ++ [c]) = l ++ [c] := by
  unfold trimZ
  rw [List.reverse_append, List.reverse_singleton, List.singleton_append, List.dropWhile_cons_of_neg (by simpa using h), List.reverse_cons, List.reverse_reverse]
theorem trimZ_le (n : Nat) : ∀ l : List Int, l.length = n → (trimZ l).length ≤ l.length ∧ l = trimZ l ++ List.replicate (l.length - (trimZ l).length) 0 := by
  induction n with
  | zero =>
    intro l hl
    obtain rfl := List.length_eq_zero_iff.1 hl
    exact ⟨Nat.le_refl _, rfl⟩
  | succ n ih =>
    intro l hl
    obtain ⟨m, c, rfl⟩ : ∃ m c, l = m ++ [c] := by
      rcases List.eq_nil_or_concat l with h | ⟨m, c, h⟩
      · rw [h] at hl; cases hl
      · exact ⟨m, c, by rw [h, List.concat_eq_append]⟩
    have hm : m.length = n := by simpa using hl
    obtain ⟨h1, h2⟩ := ih m hm
    by_cases h : c = 0
    · subst h
      rw [trimZ_nought]
      refine ⟨by simp; omega, ?_⟩
      have e : (m ++ [(0 : Int)]).length - (trimZ m).length = (m.length - (trimZ m).length) + 1 := by simp; omega
      rw [e, List.replicate_succ', ← List.append_assoc, ← h2]
    · rw [trimZ_last _ h]
      exact ⟨Nat.le_refl _, by simp⟩
theorem trimZ_IB {l : List Int} (h : IB l) : IB (trimZ l) := by
  have := (trimZ_le _ l rfl).2
  rw [this] at h
  exact IB_left h
theorem trimZ_page {l : List Int} (h : l.length = 256) : pageOf (trimZ l) = l := by
  obtain ⟨h1, h2⟩ := trimZ_le _ l rfl
  unfold pageOf
  rw [List.take_of_length_le (by omega)]
  rw [h] at h2
  exact h2.symm
theorem concat_cases {l : List Int} {n : Nat} (hl : l.length = n + 1) : ∃ m c, l = m ++ [c] ∧ m.length = n := by
  rcases List.eq_nil_or_concat l with h | ⟨m, c, h⟩
  · rw [h] at hl; cases hl
  · refine ⟨m, c, by rw [h, List.concat_eq_append], ?_⟩
    rw [h] at hl
    simpa using hl
theorem rd_last (m : List Int) (c : Int) : rd (m ++ [c]) (m.length : Int) = c := by
  unfold rd
  simp [List.getD]
theorem trimL_is (n : Nat) : ∀ (k : Nat) (l : List Int), l.length = n → n < k → trimL k l = some (trimZ l) := by
  induction n with
  | zero =>
    intro k l hl hk
    obtain ⟨k, rfl⟩ : ∃ m, k = m + 1 := ⟨k - 1, by omega⟩
    obtain rfl := List.length_eq_zero_iff.1 hl
    rfl
  | succ n ih =>
    intro k l hl hk
    obtain ⟨k, rfl⟩ : ∃ m, k = m + 1 := ⟨k - 1, by omega⟩
    obtain ⟨m, c, rfl, hm⟩ := concat_cases hl
    have e : ((m ++ [c]).length : Int) - 1 = (m.length : Int) := by simp
    simp only [trimL]
    rw [e, if_pos (by omega), rd_last, Int.toNat_natCast, List.take_left]
    by_cases h : c = 0
    · subst h
      rw [if_pos rfl, ih k m hm (by omega), trimZ_nought]
    · rw [if_neg h, trimZ_last _ h]
theorem bt_str {l : List Int} (h : IB l) (i : Nat) : bt (strOfNums l) (i : Int) = rd l (i : Int) := by
  unfold bt rd
  rw [Int.toNat_natCast]
  by_cases hi : i < l.length
  · rw [dif_pos (by rw [strOfNums_size]; exact hi)]
    have hc := h (l[i]) (List.getElem_mem hi)
    have e : (strOfNums l)[i]'(by rw [strOfNums_size]; exact hi) = UInt8.ofNat (l[i]).toNat := by
      show (strOfNums l).data[i]'_ = _
      unfold strOfNums
      simp
    rw [e, UInt8.toNat_ofNat']
    simp only [List.getD, List.getElem?_eq_getElem hi, Option.getD_some]
    omega
  · rw [dif_neg (by rw [strOfNums_size]; exact hi)]
    simp [List.getD, hi]
theorem str_cut (m : List Int) (c : Int) : (strOfNums (m ++ [c])).extract 0 m.length = strOfNums m := by
  apply ByteArray.ext
  apply Array.ext'
  rw [ByteArray.data_extract, Array.toList_extract, strOfNums_data, strOfNums_data]
  simp
theorem trimB_is (n : Nat) : ∀ (k : Nat) (l : List Int), l.length = n → n < k → n ≤ 1000000 → IB l → strings_trimRightByte.l0 k (strOfNums l) 0 = some (strOfNums (trimZ l)) := by
  induction n with
  | zero =>
    intro k l hl hk hn hb
    obtain ⟨k, rfl⟩ : ∃ m, k = m + 1 := ⟨k - 1, by omega⟩
    obtain rfl := List.length_eq_zero_iff.1 hl
    rfl
  | succ n ih =>
    intro k l hl hk hn hb
    obtain ⟨k, rfl⟩ : ∃ m, k = m + 1 := ⟨k - 1, by omega⟩
    obtain ⟨m, c, rfl, hm⟩ := concat_cases hl
    have e : wrap64 (((strOfNums (m ++ [c])).size : Int) - 1) = (m.length : Int) := by rw [strOfNums_size, w64 (by simp; omega)]; simp
    simp only [strings_trimRightByte.l0]
    rw [e, if_pos (by rw [strOfNums_size, List.length_append, List.length_singleton]; omega), if_pos (by omega), if_pos (by rw [strOfNums_size, List.length_append, List.length_singleton]; omega), bt_str hb, rd_last, Int.toNat_natCast, str_cut]
    by_cases h : c = 0
    · subst h
      rw [if_pos rfl, if_pos (by rw [strOfNums_size]; simp; omega), ih k m hm (by omega) (by omega) (IB_left hb), trimZ_nought]
    · rw [if_neg h, trimZ_last _ h]
theorem set0 : (⟨#[0]⟩ : ByteArray).toList = [0] := by rw [Go.ByteArray.toList_eq]
theorem empty_list {l : List Int} (h : (strOfNums l).toList = []) : l = [] := by
  rw [Go.ByteArray.toList_eq, strOfNums_data] at h
  exact List.map_eq_nil_iff.1 h
theorem trimR_is {l : List Int} (hb : IB l) (hl : l.length ≤ 1000000) {k : Nat} (hk : l.length < k) : strings_TrimRight.f k (strOfNums l) (⟨#[0]⟩ : ByteArray) = some (strOfNums (trimZ l)) := by
  unfold strings_TrimRight.f
  rw [if_pos set0]
  by_cases h : (strOfNums l).toList = []
  · rw [if_pos h]
    obtain rfl := empty_list h
    rfl
  · rw [if_neg h]
    unfold strings_trimRightByte.f
    exact trimB_is _ k l rfl hk hl hb

/-! ### which may be -/
def ltI (p : Option Int) (n : Int) : Bool := match p with | none => true | some q => decide (q < n)
def okI (x : S38) : Bool := decide (0 ≤ x.f0) && (decide (x.f0 < 96) && decide (x.f1.length = 256))
def goodI : Option Int → List S38 → Bool
 | _, [] => true
 | p, x :: xs => okI x && (ltI p x.f0 && goodI (some x.f0) xs)
def mayI (l : List S38) : Bool := goodI none l && decide (0 < l.length)
theorem may_l0 (l : List S38) (hl : l.length ≤ 1000) (cs : List S38) : ∀ (k i : Nat), l.drop i = cs → cs.length < k →
    change_May.l0 k l l (l.length : Int) (i : Int) = some (goodI ((prevO l i).map S38.f0) cs && decide (0 < l.length)) := by
  induction cs with
  | nil =>
    intro k i hd hk
    obtain ⟨k, rfl⟩ : ∃ m, k = m + 1 := ⟨k - 1, by omega⟩
    have hi := drop_nil hd
    simp only [change_May.l0]
    rw [if_neg (by omega)]
    simp [goodI]
  | cons c cs ih =>
    intro k i hd hk
    obtain ⟨k, rfl⟩ : ∃ m, k = m + 1 := ⟨k - 1, by omega⟩
    obtain ⟨hlt, hc, hd2⟩ := drop_step hd
    simp only [List.length_cons] at hk
    have hih := ih k (i + 1) hd2 (by omega)
    rw [prevO_succ hd] at hih
    simp only [change_May.l0]
    rw [if_pos (by omega), if_pos (by omega), if_pos (by omega), rd38 hlt, hc, w64 (x := (i : Int) + 1) (by omega), show (i : Int) + 1 = ((i + 1 : Nat) : Int) from rfl]
    simp only [goodI, okI]
    by_cases h0 : c.f0 < 0
    · rw [if_pos h0, decide_eq_false (show ¬ 0 ≤ c.f0 by omega)]; simp
    rw [if_neg h0, decide_eq_true (show 0 ≤ c.f0 by omega)]
    by_cases h1 : c.f0 ≥ 96
    · rw [if_pos h1, decide_eq_false (show ¬ c.f0 < 96 by omega)]; simp
    rw [if_neg h1, decide_eq_true (show c.f0 < 96 by omega)]
    by_cases h2 : (c.f1.length : Int) = 256
    · rw [if_pos h2, decide_eq_true (show c.f1.length = 256 by omega)]
      by_cases hi0 : 0 < i
      · obtain ⟨hlt', hp⟩ := prevO_pos (l := l) hi0 (by omega)
        rw [if_pos (by omega), w64 (x := (i : Int) - 1) (by omega), show (i : Int) - 1 = ((i - 1 : Nat) : Int) by omega, if_pos (by omega), if_pos (by omega), rd38 hlt', hp]
        simp only [Option.map_some, ltI]
        by_cases hb : l[i - 1].f0 ≥ c.f0
        · rw [if_pos hb, decide_eq_false (show ¬ l[i - 1].f0 < c.f0 by omega)]; simp
        · rw [if_neg hb, hih, decide_eq_true (show l[i - 1].f0 < c.f0 by omega)]; simp
      · have hi0 : i = 0 := by omega
        subst hi0
        rw [if_neg (by omega), hih, prevO_zero]
        simp [ltI]
    · rw [if_neg h2, decide_eq_false (show ¬ c.f1.length = 256 by omega)]; simp
theorem may_is {l : List S38} (hl : l.length ≤ 1000) {k : Nat} (hk : 1000 < k) : change_May.f k l = some (mayI l) := by
  unfold change_May.f mayI
  rw [show (0 : Int) = ((0 : Nat) : Int) from rfl, may_l0 l hl l k 0 rfl (by omega)]
  rfl
theorem good_len : ∀ {l : List S38} {p : Option Int}, goodI p l = true → (match p with | none => l.length ≤ 96 | some q => 0 ≤ q → q < 96 → (l.length : Int) ≤ 95 - q) := by
  intro l
  induction l with
  | nil => intro p _; cases p with
    | none => simp
    | some q => intro _ _; simp; omega
  | cons x xs ih =>
    intro p h
    simp only [goodI, okI, Bool.and_eq_true, decide_eq_true_eq] at h
    obtain ⟨⟨h1, h2, h3⟩, h4, h5⟩ := h
    have := ih h5
    simp only at this
    have h6 := this h1 h2
    cases p with
    | none => simp only [List.length_cons]; omega
    | some q =>
      simp only [ltI, decide_eq_true_eq] at h4
      intro _ _
      simp only [List.length_cons]
      omega
theorem mayI_len {l : List S38} (h : mayI l = true) : 1 ≤ l.length ∧ l.length ≤ 96 := by
  unfold mayI at h
  simp only [Bool.and_eq_true, decide_eq_true_eq] at h
  exact ⟨h.2, good_len h.1⟩
theorem good_mem : ∀ {l : List S38} {p : Option Int}, goodI p l = true → ∀ x ∈ l, 0 ≤ x.f0 ∧ x.f0 < 96 ∧ x.f1.length = 256 := by
  intro l
  induction l with
  | nil => intro p _ x hx; cases hx
  | cons y ys ih =>
    intro p h x hx
    simp only [goodI, okI, Bool.and_eq_true, decide_eq_true_eq] at h
    rcases List.mem_cons.1 hx with rfl | hx
    · exact h.1
    · exact ih h.2.2 x hx
theorem mayI_mem {l : List S38} (h : mayI l = true) : ∀ x ∈ l, 0 ≤ x.f0 ∧ x.f0 < 96 ∧ x.f1.length = 256 := by
  unfold mayI at h
  simp only [Bool.and_eq_true] at h
  exact good_mem h.1
theorem rmay_l0 (l : List S38) (hl : l.length ≤ 1000) (cs : List S38) : ∀ (k i : Nat), l.drop i = cs → cs.length < k →
    engrossref10_MayImages.l0 k l (i : Int) = some (goodI ((prevO l i).map S38.f0) cs && (decide (0 < l.length) && decide (l.length ≤ 96))) := by
  induction cs with
  | nil =>
    intro k i hd hk
    obtain ⟨k, rfl⟩ : ∃ m, k = m + 1 := ⟨k - 1, by omega⟩
    have hi := drop_nil hd
    simp only [engrossref10_MayImages.l0]
    rw [if_neg (by omega)]
    simp only [goodI, Bool.true_and]
    by_cases h0 : (l.length : Int) ≥ 1
    · rw [if_pos h0, decide_eq_true (show 0 < l.length by omega), Bool.true_and]
      congr 1
      rw [Bool.eq_iff_iff]
      simp only [decide_eq_true_eq]
      omega
    · rw [if_neg h0, decide_eq_false (show ¬ 0 < l.length by omega), Bool.false_and]
  | cons c cs ih =>
    intro k i hd hk
    obtain ⟨k, rfl⟩ : ∃ m, k = m + 1 := ⟨k - 1, by omega⟩
    obtain ⟨hlt, hc, hd2⟩ := drop_step hd
    simp only [List.length_cons] at hk
    have hih := ih k (i + 1) hd2 (by omega)
    rw [prevO_succ hd] at hih
    simp only [engrossref10_MayImages.l0]
    rw [if_pos (by omega), if_pos (by omega), rd38 hlt, hc, w64 (x := (i : Int) + 1) (by omega), show (i : Int) + 1 = ((i + 1 : Nat) : Int) from rfl]
    simp only [goodI, okI]
    by_cases h0 : c.f0 < 0
    · rw [if_pos h0, decide_eq_false (show ¬ 0 ≤ c.f0 by omega)]; simp
    rw [if_neg h0, decide_eq_true (show 0 ≤ c.f0 by omega)]
    by_cases h1 : c.f0 > 95
    · rw [if_pos h1, decide_eq_false (show ¬ c.f0 < 96 by omega)]; simp
    rw [if_neg h1, decide_eq_true (show c.f0 < 96 by omega)]
    by_cases h2 : (c.f1.length : Int) = 256
    · rw [if_pos h2, decide_eq_true (show c.f1.length = 256 by omega)]
      by_cases hi0 : 0 < i
      · obtain ⟨hlt', hp⟩ := prevO_pos (l := l) hi0 (by omega)
        rw [if_pos (by omega), w64 (x := (i : Int) - 1) (by omega), show (i : Int) - 1 = ((i - 1 : Nat) : Int) by omega, if_pos (by omega), if_pos (by omega), rd38 hlt', hp]
        simp only [Option.map_some, ltI]
        by_cases hb : c.f0 ≤ l[i - 1].f0
        · rw [if_pos hb, decide_eq_false (show ¬ l[i - 1].f0 < c.f0 by omega)]; simp
        · rw [if_neg hb, hih, decide_eq_true (show l[i - 1].f0 < c.f0 by omega)]; simp
      · have hi0 : i = 0 := by omega
        subst hi0
        rw [if_neg (by omega), hih, prevO_zero]
        simp [ltI]
    · rw [if_neg h2, decide_eq_false (show ¬ c.f1.length = 256 by omega)]; simp
theorem rmay_is {l : List S38} (hl : l.length ≤ 1000) {k : Nat} (hk : 1000 < k) : engrossref10_MayImages.f k l = some (mayI l) := by
  unfold engrossref10_MayImages.f mayI
  rw [show (0 : Int) = ((0 : Nat) : Int) from rfl, rmay_l0 l hl l k 0 rfl (by omega)]
  rw [prevO_zero]
  congr 1
  show (goodI none l && _) = (goodI none l && _)
  cases hg : goodI none l
  · rfl
  · have : l.length ≤ 96 := good_len hg
    rw [decide_eq_true this, Bool.and_true]

/-! ### the same -/
def eqX (x y : S38) : Bool := decide (x.f0 = y.f0) && decide ((strOfNums x.f1).toList = (strOfNums y.f1).toList)
def eqI : List S38 → List S38 → Bool
 | [], [] => true
 | x :: xs, y :: ys => eqX x y && eqI xs ys
 | _, _ => false
theorem eqI_len : ∀ {l m : List S38}, eqI l m = true → l.length = m.length := by
  intro l
  induction l with
  | nil => intro m h; cases m with
    | nil => rfl
    | cons => simp [eqI] at h
  | cons x xs ih => intro m h; cases m with
    | nil => simp [eqI] at h
    | cons y ys =>
      simp only [eqI, Bool.and_eq_true] at h
      simp [ih h.2]
theorem eqI_self (l : List S38) : eqI l l = true := by
  induction l with
  | nil => rfl
  | cons x xs ih => simp [eqI, eqX, ih]
theorem eqI_eq : ∀ {l m : List S38}, (∀ x ∈ l, IB x.f1) → (∀ x ∈ m, IB x.f1) → eqI l m = true → l = m := by
  intro l
  induction l with
  | nil => intro m _ _ h; cases m with
    | nil => rfl
    | cons => simp [eqI] at h
  | cons x xs ih => intro m hl hm h; cases m with
    | nil => simp [eqI] at h
    | cons y ys =>
      simp only [eqI, eqX, Bool.and_eq_true, decide_eq_true_eq] at h
      have h1 := (str_inj (hl x List.mem_cons_self) (hm y List.mem_cons_self)).1 h.1.2
      rw [ih (fun z hz => hl z (List.mem_cons_of_mem _ hz)) (fun z hz => hm z (List.mem_cons_of_mem _ hz)) h.2]
      cases x
      cases y
      simp only at h h1
      rw [h.1.1, h1]
theorem eq1_is (a : Int) (l : List Int) (b : Int) (m : List Int) : change_Eq_1.f a l b m = some (eqX ⟨a, l⟩ ⟨b, m⟩) := by
  unfold change_Eq_1.f eqX bytes_Equal.f
  by_cases h : a = b
  · rw [if_pos h]
    simp only [Option.bind_some, h, decide_true, Bool.true_and]
    congr 1
    rw [Bool.eq_iff_iff]
    simp only [beq_iff_eq, decide_eq_true_eq]
  · rw [if_neg h, decide_eq_false h, Bool.false_and]
theorem eq_l0 (l m : List S38) (hl : l.length ≤ 1000) (hlm : l.length = m.length) (cs : List S38) : ∀ (k i : Nat) (ds : List S38), l.drop i = cs → m.drop i = ds → cs.length < k →
    api_Image.l0 k m l (l.length : Int) (i : Int) = some (eqI cs ds) := by
  induction cs with
  | nil =>
    intro k i ds hd he hk
    obtain ⟨k, rfl⟩ : ∃ m, k = m + 1 := ⟨k - 1, by omega⟩
    have hi := drop_nil hd
    have : ds = [] := by rw [← he]; exact List.drop_eq_nil_iff.2 (by omega)
    subst this
    simp only [api_Image.l0]
    rw [if_neg (by omega)]
    rfl
  | cons c cs ih =>
    intro k i ds hd he hk
    obtain ⟨k, rfl⟩ : ∃ m, k = m + 1 := ⟨k - 1, by omega⟩
    obtain ⟨hlt, hc, hd2⟩ := drop_step hd
    cases ds with
    | nil => have := drop_nil he; omega
    | cons d ds =>
      obtain ⟨hlt', hc', he2⟩ := drop_step he
      simp only [List.length_cons] at hk
      simp only [api_Image.l0]
      rw [if_pos (by omega), if_pos (by omega), if_pos (by omega), if_pos (by omega), rd38 hlt, hc, rd38 hlt', hc', eq1_is, w64 (x := (i : Int) + 1) (by omega), show (i : Int) + 1 = ((i + 1 : Nat) : Int) from rfl, ih k (i + 1) ds hd2 he2 (by omega)]
      simp only [Option.bind_some, eqI]
      show (if eqX c d = true then _ else _) = _
      cases eqX c d
      · simp
      · simp
theorem eq_is {l m : List S38} (hl : l.length ≤ 1000) {k : Nat} (hk : 1000 < k) : change_Eq.f k l m = some (eqI l m) := by
  unfold change_Eq.f api_Image.f
  by_cases h : (l.length : Int) = (m.length : Int)
  · rw [if_pos h]
    have e := eq_l0 l m hl (by omega) l k 0 m rfl rfl (by omega)
    rw [show ((0 : Nat) : Int) = 0 from rfl] at e
    rw [e]
    rfl
  · rw [if_neg h]
    cases he : eqI l m
    · rfl
    · exact absurd (eqI_len he) (by omega)
theorem req_l0 (l m : List S38) (hl : l.length ≤ 1000) (hlm : l.length = m.length) (cs : List S38) : ∀ (k i : Nat) (ds : List S38), l.drop i = cs → m.drop i = ds → cs.length < k →
    engrossref10_EqImages.l0 k l m (i : Int) = some (eqI cs ds) := by
  induction cs with
  | nil =>
    intro k i ds hd he hk
    obtain ⟨k, rfl⟩ : ∃ m, k = m + 1 := ⟨k - 1, by omega⟩
    have hi := drop_nil hd
    have : ds = [] := by rw [← he]; exact List.drop_eq_nil_iff.2 (by omega)
    subst this
    simp only [engrossref10_EqImages.l0]
    rw [if_neg (by omega)]
    rfl
  | cons c cs ih =>
    intro k i ds hd he hk
    obtain ⟨k, rfl⟩ : ∃ m, k = m + 1 := ⟨k - 1, by omega⟩
    obtain ⟨hlt, hc, hd2⟩ := drop_step hd
    cases ds with
    | nil => have := drop_nil he; omega
    | cons d ds =>
      obtain ⟨hlt', hc', he2⟩ := drop_step he
      simp only [List.length_cons] at hk
      simp only [engrossref10_EqImages.l0]
      rw [if_pos (by omega), if_pos (by omega), if_pos (by omega), rd38 hlt, hc, rd38 hlt', hc', w64 (x := (i : Int) + 1) (by omega), show (i : Int) + 1 = ((i + 1 : Nat) : Int) from rfl, ih k (i + 1) ds hd2 he2 (by omega)]
      simp only [eqI, eqX]
      by_cases h1 : c.f0 = d.f0
      · rw [if_pos h1]
        by_cases h2 : (strOfNums c.f1).toList = (strOfNums d.f1).toList
        · rw [if_pos h2]; simp [h1, h2]
        · rw [if_neg h2]; simp [h1, h2]
      · rw [if_neg h1]; simp [h1]
theorem req_is {l m : List S38} (hl : l.length ≤ 1000) {k : Nat} (hk : 1000 < k) : engrossref10_EqImages.f k l m = some (eqI l m) := by
  unfold engrossref10_EqImages.f
  by_cases h : (l.length : Int) = (m.length : Int)
  · rw [if_pos h]
    exact req_l0 l m hl (by omega) l k 0 m rfl rfl (by omega)
  · rw [if_neg h]
    cases he : eqI l m
    · rfl
    · exact absurd (eqI_len he) (by omega)
end Go.Proofs.YtijnfnlahhgpgaaDoor.Pure
