/- The order of texts; what the key laws' helpers and the program's functions of package key answer. No condition. -/
import Derived.Test.YtoeiogailnfbkaaFltK
import Derived.Test.YtoeiogailnfbkaaPx1
import Derived.Test.YtoeiogailnfbkaaPx2
set_option linter.unusedVariables false
set_option linter.unusedSimpArgs false
namespace Go.Proofs.Ytoeiogailnfbkaa.Pure
open Go.RowKit Go.Proofs.Ytoeiogailnfbkaa.P Go.Proofs.YtoeiogailnfbkaaW.PrintWords Go.Proofs.YtoeiogailnfbkaaW.PrintLast Go.Proofs.YtoeiogailnfbkaaW.PrintMore

theorem begun5 {k : Nat} (hk : 60 ≤ k) : engrosslaw5_begun.f k = some true :=
  at_rounds (g := fun k => engrosslaw5_begun.f k) (fun k => engrosslaw5_begun.mono k) hk (show engrosslaw5_begun.f 60 = some true by decide +kernel)
theorem cut_is (s : ByteArray) {n : Nat} : ∃ t, engrosslaw1_Cut.f s (n : Int) = some t ∧ t.size ≤ n := by
  unfold engrosslaw1_Cut.f
  by_cases h : (s.size : Int) > n
  · rw [if_pos h, if_pos (by omega), if_pos (by omega)]
    refine ⟨_, rfl, ?_⟩
    rw [ByteArray.size_extract]
    simp
    omega
  · rw [if_neg h]
    exact ⟨s, rfl, by omega⟩
theorem less_irr (l : List UInt8) : Op.bytesLess l l = false := by
  induction l with
  | nil => rfl
  | cons a l ih => simp [Op.bytesLess, ih]
theorem less_cons (a b : UInt8) (l m : List UInt8) : Op.bytesLess (a :: l) (b :: m) = true ↔ a < b ∨ a = b ∧ Op.bytesLess l m = true := by
  simp [Op.bytesLess]
theorem less_tri (l : List UInt8) : ∀ m, Op.bytesLess l m = true ∨ l = m ∨ Op.bytesLess m l = true := by
  induction l with
  | nil => intro m; cases m with
    | nil => exact .inr (.inl rfl)
    | cons b m => exact .inl rfl
  | cons a l ih =>
    intro m
    cases m with
    | nil => exact .inr (.inr rfl)
    | cons b m =>
      rw [less_cons, less_cons]
      have : a < b ∨ a = b ∨ b < a := by
        rw [UInt8.lt_iff_toNat_lt, UInt8.lt_iff_toNat_lt, ← UInt8.toNat_inj]
        omega
      rcases this with h | h | h
      · exact .inl (.inl h)
      · subst h
        rcases ih m with h | h | h
        · exact .inl (.inr ⟨rfl, h⟩)
        · exact .inr (.inl (by rw [h]))
        · exact .inr (.inr (.inr ⟨rfl, h⟩))
      · exact .inr (.inr (.inl h))
theorem less_trans (l : List UInt8) : ∀ m n, Op.bytesLess l m = true → Op.bytesLess m n = true → Op.bytesLess l n = true := by
  induction l with
  | nil => intro m n h1 h2; cases n with
    | nil => cases m <;> cases h2
    | cons c n => rfl
  | cons a l ih =>
    intro m n h1 h2
    cases m with
    | nil => cases h1
    | cons b m =>
      cases n with
      | nil => cases h2
      | cons c n =>
        rw [less_cons] at h1 h2 ⊢
        rcases h1 with h1 | ⟨rfl, h1⟩
        · rcases h2 with h2 | ⟨rfl, h2⟩
          · left; rw [UInt8.lt_iff_toNat_lt] at h1 h2 ⊢; omega
          · exact .inl h1
        · rcases h2 with h2 | ⟨rfl, h2⟩
          · exact .inl h2
          · exact .inr ⟨rfl, ih _ _ h1 h2⟩
theorem less_asym {l m : List UInt8} (h : Op.bytesLess l m = true) : Op.bytesLess m l = false := by
  cases e : Op.bytesLess m l with
  | false => rfl
  | true => have := less_trans _ _ _ h e; rw [less_irr] at this; cases this
theorem le_trans' {l m n : List UInt8} (h1 : Op.bytesLess m l = false) (h2 : Op.bytesLess n m = false) : Op.bytesLess n l = false := by
  rcases less_tri l m with h | h | h
  · rcases less_tri m n with g | g | g
    · exact less_asym (less_trans _ _ _ h g)
    · subst g; exact less_asym h
    · rw [g] at h2; cases h2
  · subst h; exact h2
  · rw [h] at h1; cases h1
theorem le_lt {l m n : List UInt8} (h1 : Op.bytesLess m l = false) (h2 : Op.bytesLess m n = true) : Op.bytesLess l n = true := by
  rcases less_tri l m with h | h | h
  · exact less_trans _ _ _ h h2
  · subst h; exact h2
  · rw [h] at h1; cases h1
theorem lt_le {l m n : List UInt8} (h1 : Op.bytesLess l m = true) (h2 : Op.bytesLess n m = false) : Op.bytesLess l n = true := by
  rcases less_tri m n with h | h | h
  · exact less_trans _ _ _ h1 h
  · subst h; exact h1
  · rw [h] at h2; cases h2
theorem less_take (l : List UInt8) : ∀ i, Op.bytesLess l (l.take i) = false := by
  induction l with
  | nil => intro i; simp [Op.bytesLess]
  | cons a l ih =>
    intro i
    cases i with
    | zero => rfl
    | succ i => rw [List.take_succ_cons]; simp [Op.bytesLess, ih]
theorem ext_list (b : ByteArray) (i j : Nat) : (b.extract i j).toList = (b.toList.take j).drop i := by
  rw [Go.ByteArray.toList_eq, Go.ByteArray.toList_eq]
  simp [List.drop_take]
theorem size_list (b : ByteArray) : b.toList.length = b.size := by
  rw [Go.ByteArray.toList_eq]; rfl
theorem ba_ext {a b : ByteArray} (h : a.toList = b.toList) : a = b := by
  rw [Go.ByteArray.toList_eq, Go.ByteArray.toList_eq] at h
  exact ByteArray.ext (Array.toList_inj.1 h)
/-- Is the cut of b at j above a? -/
def ov (a b : ByteArray) (j : Nat) : Prop := Op.bytesLess a.toList (b.extract 0 j).toList = true
theorem mid_l0 (a b : ByteArray) (hb : b.size < 4611686018427387904) (d : Nat) : ∀ k i : Nat, i + d = b.size + 1 → d < k → (∀ j, j < i → ¬ ov a b j) →
    (∃ m, m ≤ b.size ∧ ov a b m ∧ (∀ j, j < m → ¬ ov a b j) ∧ key_Mid.l0 k a b ((b.size : Int) + 1) (i : Int) = some (b.extract 0 m)) ∨
    ((∀ j, j ≤ b.size → ¬ ov a b j) ∧ key_Mid.l0 k a b ((b.size : Int) + 1) (i : Int) = some (⟨#[]⟩ : ByteArray)) := by
  induction d with
  | zero =>
    intro k i hi hk hj
    obtain ⟨k, rfl⟩ : ∃ m, k = m + 1 := ⟨k - 1, by omega⟩
    simp only [key_Mid.l0]
    rw [if_neg (by omega)]
    exact .inr ⟨fun j h => hj j (by omega), rfl⟩
  | succ d ih =>
    intro k i hi hk hj
    obtain ⟨k, rfl⟩ : ∃ m, k = m + 1 := ⟨k - 1, by omega⟩
    simp only [key_Mid.l0]
    rw [if_pos (by omega), if_pos (by omega), if_pos (by omega), Int.toNat_natCast]
    by_cases h : Op.bytesLess a.toList (b.extract 0 i).toList = true
    · rw [if_pos h]
      exact .inl ⟨i, by omega, h, hj, rfl⟩
    · rw [if_neg h, w64' (x := (i : Int) + 1) (by omega), show (i : Int) + 1 = ((i + 1 : Nat) : Int) from rfl]
      exact ih k (i + 1) (by omega) (by omega) (fun j hj2 => by
        by_cases e : j = i
        · rw [e]; exact h
        · exact hj j (by omega))
theorem ov_lt {a b : ByteArray} {j : Nat} (h : ov a b j) : Op.bytesLess a.toList b.toList = true := by
  unfold ov at h
  rw [ext_list, List.drop_zero] at h
  exact lt_le h (less_take _ _)
theorem ov_all {a b : ByteArray} (h : Op.bytesLess a.toList b.toList = true) : ov a b b.size := by
  unfold ov
  rw [ext_list, List.drop_zero, List.take_of_length_le (by rw [size_list]; exact Nat.le_refl _)]
  exact h
theorem mid_lt {a b : ByteArray} (hb : b.size ≤ 20) (h : Op.bytesLess a.toList b.toList = true) {k : Nat} (hk : 30 ≤ k) :
    ∃ m, m ≤ b.size ∧ ov a b m ∧ (∀ j, j < m → ¬ ov a b j) ∧ key_Mid.f k a b = some (b.extract 0 m) := by
  unfold key_Mid.f
  rw [w64' (x := (b.size : Int) + 1) (by omega)]
  rcases mid_l0 a b (by omega) (b.size + 1) k 0 (by omega) (by omega) (fun j h => by omega) with ⟨m, h1, h2, h3, h4⟩ | ⟨h1, h2⟩
  · exact ⟨m, h1, h2, h3, h4⟩
  · exact absurd (ov_all h) (h1 _ (by omega))
theorem mid_ge {a b : ByteArray} (hb : b.size ≤ 20) (h : ¬ Op.bytesLess a.toList b.toList = true) {k : Nat} (hk : 30 ≤ k) :
    key_Mid.f k a b = some (⟨#[]⟩ : ByteArray) := by
  unfold key_Mid.f
  rw [w64' (x := (b.size : Int) + 1) (by omega)]
  rcases mid_l0 a b (by omega) (b.size + 1) k 0 (by omega) (by omega) (fun j h => by omega) with ⟨m, h1, h2, h3, h4⟩ | ⟨h1, h2⟩
  · exact absurd (ov_lt h2) h
  · exact h2
theorem of_key {a : Nat} (h : a < 18446744073709551616) {k : Nat} (hk : 10 ≤ k) : key_Of.f k a = some ((⟨#[102]⟩ : ByteArray) ++ strOfNums (be 8 (pl a))) := by
  unfold key_Of.f
  rw [bytes_is h hk]
  simp only [Option.bind_some]
  rw [if_pos (by rw [strOfNums_size, be_len]; decide)]
theorem bytesOf_bytes (s : ByteArray) : ∀ c ∈ bytesOf s, 0 ≤ c ∧ c ≤ 255 := by
  intro c hc
  unfold bytesOf at hc
  obtain ⟨b, _, rfl⟩ := List.mem_map.1 hc
  have := b.toNat_lt
  omega
/-- What a text's bytes say, as a key. -/
def flL (s : ByteArray) : Nat × Bool := if (s.extract 0 1).toList = ([102] : List UInt8) then ofL (bytesOf (s.extract 1 s.size)) else (0, false)
theorem float_key (s : ByteArray) (hs : s.size ≤ 40) {k : Nat} (hk : 10 ≤ k) : key_Float.f k s = some (flL s) := by
  unfold key_Float.f flL
  by_cases h1 : (s.size : Int) < 1
  · rw [if_pos h1, if_neg (by
      intro h
      have := congrArg List.length h
      rw [size_list, ByteArray.size_extract] at this
      simp at this
      omega)]
  · rw [if_neg h1, if_pos (by omega), if_pos (by omega)]
    by_cases h2 : (s.extract 0 1).toList = ([102] : List UInt8)
    · rw [if_pos h2, if_pos h2, if_pos (by rw [ByteArray.size_extract]; omega), of_is (bytesOf_bytes _) hk]
      rfl
    · rw [if_neg h2, if_neg h2]
theorem bytesOf_str {l : List Int} (h : ∀ c ∈ l, 0 ≤ c ∧ c ≤ 255) : bytesOf (strOfNums l) = l := by
  unfold bytesOf
  rw [strOfNums_data, List.map_map]
  conv => rhs; rw [← List.map_id l]
  apply List.map_congr_left
  intro c hc
  have := h c hc
  simp only [Function.comp, id, UInt8.toNat_ofNat']
  omega
theorem bytesOf_list (s : ByteArray) : bytesOf s = s.toList.map fun b => (b.toNat : Int) := by
  unfold bytesOf
  rw [Go.ByteArray.toList_eq]
theorem app_list (a b : ByteArray) : (a ++ b).toList = a.toList ++ b.toList := by
  rw [Go.ByteArray.toList_eq, Go.ByteArray.toList_eq, Go.ByteArray.toList_eq]
  simp
theorem key_size (u : Nat) : ((⟨#[102]⟩ : ByteArray) ++ strOfNums (be 8 u)).size = 9 := by
  rw [ByteArray.size_append, strOfNums_size, be_len]; rfl
theorem fl_key {u : Nat} (hu : u < 18446744073709551616) : flL ((⟨#[102]⟩ : ByteArray) ++ strOfNums (be 8 u)) = ofL (be 8 u) := by
  unfold flL
  have e1 : (⟨#[102]⟩ : ByteArray).toList = [102] := by rw [Go.ByteArray.toList_eq]
  rw [if_pos (by rw [ext_list, app_list, e1]; rfl)]
  congr 1
  rw [bytesOf_list, ext_list, app_list, e1]
  rw [List.take_of_length_le (by rw [key_size, List.length_append, size_list, strOfNums_size, be_len]; exact Nat.le_refl _)]
  rw [show ([102] ++ (strOfNums (be 8 u)).toList : List UInt8).drop 1 = (strOfNums (be 8 u)).toList from rfl, ← bytesOf_list]
  exact bytesOf_str (be_bytes 8 u)
theorem in_key (s a b : ByteArray) : key_In.f s a b = some (!(Op.bytesLess s.toList a.toList) && (decide (b.toList = []) || Op.bytesLess s.toList b.toList)) := by
  unfold key_In.f
  cases Op.bytesLess s.toList a.toList
  · rw [if_neg (by simp)]
    by_cases h : b.toList = []
    · rw [if_pos h]; simp [h]
    · rw [if_neg h]; simp [h]
  · rw [if_pos rfl]; rfl
theorem may_key (s : ByteArray) : key_May.f s = some (decide (1 ≤ s.size) && decide (s.size ≤ 16)) := by
  unfold key_May.f
  by_cases h : s.toList = []
  · have := size_list s
    rw [h] at this
    rw [if_pos h, ← this]; rfl
  · rw [if_neg h]
    have h1 : s.size ≠ 0 := by
      intro e
      have := size_list s
      rw [e] at this
      exact h (List.eq_nil_of_length_eq_zero this)
    congr 1
    rw [Bool.eq_iff_iff]
    simp
    omega
end Go.Proofs.Ytoeiogailnfbkaa.Pure
