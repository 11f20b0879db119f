/- What the functions of package judge and the reference's answer, as plain lists of pairs. Condition: at most 500 pairs; floats are told by 64 bits. -/
import Derived.Test.YtppbdngfiphliaaJudK
import Derived.Test.YtppbdngfiphliaaPx10
import Derived.Test.YtppbdngfiphliaaPx12
import Derived.Test.YtppbdngfiphliaaPx13
import Derived.Test.YtppbdngfiphliaaPx2
import Derived.Test.YtppbdngfiphliaaPx3
import Derived.Test.YtppbdngfiphliaaPx4
import Derived.Test.YtppbdngfiphliaaPx5
import Derived.Test.YtppbdngfiphliaaPx7
import Derived.Test.YtppbdngfiphliaaPx9
set_option linter.unusedVariables false
set_option linter.unusedSimpArgs false
namespace Go.Proofs.Ytppbdngfiphliaa.Pure
open Go.RowKit Go.Proofs.Ytppbdngfiphliaa.P Go.Proofs.YtppbdngfiphliaaW.PrintWords Go.Proofs.YtppbdngfiphliaaW.PrintLast Go.Proofs.YtppbdngfiphliaaW.PrintMore
theorem jw64 {x : Int} (h : -9223372036854775808 ≤ x ∧ x ≤ 9223372036854775807) : wrap64 x = x := by unfold wrap64; omega
theorem jdrop_step {α : Type} {l : List α} {c : α} {cs : List α} {i : Nat} (h : l.drop i = c :: cs) : ∃ hlt : i < l.length, l[i] = c ∧ l.drop (i + 1) = cs := by
  have hlt : i < l.length := by
    rcases Nat.lt_or_ge i l.length with h1 | h1
    · exact h1
    · rw [List.drop_eq_nil_of_le h1] at h; cases h
  rw [List.drop_eq_getElem_cons hlt] at h
  injection h with h1 h2
  exact ⟨hlt, h1, h2⟩
theorem jdrop_nil {α : Type} {l : List α} {i : Nat} (h : l.drop i = []) : l.length ≤ i := List.drop_eq_nil_iff.1 h
theorem rd38 {l : List S38} {i : Nat} (h : i < l.length) : rd_T38 l (i : Int) = l[i] := by
  unfold rd_T38
  simp [List.getD, h]
theorem j_succ (i : Nat) : (i : Int) + 1 = ((i + 1 : Nat) : Int) := rfl
theorem list_eq {a b : ByteArray} (h : a.toList = b.toList) : a = b := by
  rw [Go.ByteArray.toList_eq, Go.ByteArray.toList_eq] at h
  cases a; cases b
  simp at h
  rw [h]
/-! ### which may be -/
def mayP (x : S38) : Bool := mayK x.f0 && (mayV x.f1.f0 x.f1.f1 x.f1.f2 && decide (x.f1.f0 ≠ 0))
def ltO (p : Option ByteArray) (s : ByteArray) : Bool := match p with | none => true | some q => Op.bytesLess q.toList s.toList
def goodP : Option ByteArray → List S38 → Bool
 | _, [] => true
 | p, x :: xs => mayP x && (ltO p x.f0 && goodP (some x.f0) xs)
def FP (x : S38) : Prop := x.f1.f1 < 18446744073709551616
def FPL (l : List S38) : Prop := ∀ x ∈ l, FP x
theorem jmay_is (x : S38) : judge_may.f x.f0 x.f1.f0 x.f1.f1 x.f1.f2 = some (mayP x) := by
  unfold judge_may.f mayP
  rw [maykey_is, may_is]
  simp only [Option.bind_some]
  cases mayK x.f0
  · simp
  · cases mayV x.f1.f0 x.f1.f1 x.f1.f2
    · simp
    · simp
      rw [Bool.eq_iff_iff]; simp
def pvO (l : List S38) (i : Nat) : Option ByteArray := if i = 0 then none else (l[i - 1]?).map S38.f0
theorem sorted_l0 (l : List S38) (hl : l.length ≤ 1000) (cs : List S38) : ∀ (k i : Nat), l.drop i = cs → cs.length < k →
    judge_Sorted.l0 k l l (l.length : Int) (i : Int) = some (goodP (pvO l i) cs) := by
  induction cs with
  | nil =>
    intro k i hd hk
    obtain ⟨k, rfl⟩ : ∃ m, k = m + 1 := ⟨k - 1, by simp at hk; omega⟩
    have := jdrop_nil hd
    simp only [judge_Sorted.l0]
    rw [if_neg (by omega)]
    rfl
  | cons c cs ih =>
    intro k i hd hk
    simp only [List.length_cons] at hk
    obtain ⟨k, rfl⟩ : ∃ m, k = m + 1 := ⟨k - 1, by omega⟩
    obtain ⟨hlt, h1, h2⟩ := jdrop_step hd
    have ih' := ih k (i + 1) h2 (by omega)
    have hp : pvO l (i + 1) = some c.f0 := by simp [pvO, hlt, h1]
    rw [hp] at ih'
    simp only [judge_Sorted.l0]
    rw [if_pos (by omega), if_pos (by omega), if_pos (by omega), rd38 hlt, h1, jmay_is]
    simp only [Option.bind_some, goodP]
    cases hm : mayP c
    · rw [if_neg (by decide)]; rfl
    · rw [if_pos rfl, jw64 (x := (i : Int) + 1) (by omega), j_succ, ih']
      by_cases h0 : i = 0
      · subst h0
        rw [if_neg (by decide)]
        rfl
      · have hi1 : i - 1 < l.length := by omega
        rw [if_pos (by omega), jw64 (x := (i : Int) - 1) (by omega), show (i : Int) - 1 = ((i - 1 : Nat) : Int) by omega, if_pos (by omega), if_pos (by omega), rd38 hi1]
        have hpp : pvO l i = some (l[i - 1]).f0 := by simp [pvO, h0, hi1]
        rw [hpp]
        simp only [ltO]
        cases Op.bytesLess (l[i - 1]).f0.toList c.f0.toList
        · rfl
        · rfl
theorem sorted_is (l : List S38) (hl : l.length ≤ 1000) {k : Nat} (hk : 1001 ≤ k) : judge_Sorted.f k l = some (goodP none l) := by
  unfold judge_Sorted.f
  have := sorted_l0 l hl l k 0 rfl (by omega)
  rw [show ((0 : Nat) : Int) = 0 from rfl] at this
  exact this
theorem rsorted_l0 (l : List S38) (hf : FPL l) (hl : l.length ≤ 1000) (cs : List S38) : ∀ (k i : Nat), l.drop i = cs → cs.length < k →
    engrosslaw28_sorted.l0 k l (i : Int) = some (goodP (pvO l i) cs) := by
  induction cs with
  | nil =>
    intro k i hd hk
    obtain ⟨k, rfl⟩ : ∃ m, k = m + 1 := ⟨k - 1, by simp at hk; omega⟩
    have := jdrop_nil hd
    simp only [engrosslaw28_sorted.l0]
    rw [if_neg (by omega)]
    rfl
  | cons c cs ih =>
    intro k i hd hk
    simp only [List.length_cons] at hk
    obtain ⟨k, rfl⟩ : ∃ m, k = m + 1 := ⟨k - 1, by omega⟩
    obtain ⟨hlt, h1, h2⟩ := jdrop_step hd
    have hfc : FP c := by rw [← h1]; exact hf _ (List.getElem_mem _)
    have ih' := ih k (i + 1) h2 (by omega)
    have hp : pvO l (i + 1) = some c.f0 := by simp [pvO, hlt, h1]
    rw [hp] at ih'
    simp only [engrosslaw28_sorted.l0]
    rw [if_pos (by omega), if_pos (by omega), rd38 hlt, h1, rmaykey_is, rmay_is _ hfc]
    simp only [Option.bind_some, goodP, mayP]
    cases mayK c.f0
    · rw [if_neg (by decide)]; rfl
    · rw [if_pos rfl]
      cases mayV c.f1.f0 c.f1.f1 c.f1.f2
      · rw [if_neg (by decide)]; rfl
      · rw [if_pos rfl]
        by_cases hz : c.f1.f0 = 0
        · rw [if_pos hz]; simp [hz]
        · rw [if_neg hz, jw64 (x := (i : Int) + 1) (by omega), j_succ, ih']
          by_cases h0 : i = 0
          · subst h0
            rw [if_neg (by decide)]
            simp [hz, pvO, ltO]
          · have hi1 : i - 1 < l.length := by omega
            rw [if_pos (by omega), jw64 (x := (i : Int) - 1) (by omega), show (i : Int) - 1 = ((i - 1 : Nat) : Int) by omega, if_pos (by omega), if_pos (by omega), rd38 hi1]
            have hpp : pvO l i = some (l[i - 1]).f0 := by simp [pvO, h0, hi1]
            rw [hpp]
            simp only [ltO]
            cases Op.bytesLess (l[i - 1]).f0.toList c.f0.toList
            · simp [hz]
            · simp [hz]
theorem rsorted_is (l : List S38) (hf : FPL l) (hl : l.length ≤ 1000) {k : Nat} (hk : 1001 ≤ k) : engrosslaw28_sorted.f k l = some (goodP none l) := by
  unfold engrosslaw28_sorted.f
  have := rsorted_l0 l hf hl l k 0 rfl (by omega)
  rw [show ((0 : Nat) : Int) = 0 from rfl] at this
  exact this
/-! ### keys rise -/
def RiseP (l : List S38) : Prop := ∀ (i j : Nat) (hi : i < l.length) (hj : j < l.length), i < j → Op.bytesLess l[i].f0.toList l[j].f0.toList = true
theorem good_above : ∀ {l : List S38} {p : Option ByteArray}, goodP p l = true → ∀ q, p = some q → ∀ x ∈ l, Op.bytesLess q.toList x.f0.toList = true
 | [], _, _ => fun q _ x hx => by cases hx
 | c :: cs, p, h => by
  simp only [goodP, Bool.and_eq_true] at h
  obtain ⟨_, h2, h3⟩ := h
  have r2 := good_above h3
  intro q hq x hx
  subst hq
  simp only [ltO] at h2
  rcases List.mem_cons.1 hx with e | hx
  · rw [e]; exact h2
  · exact less_trans _ _ _ h2 (r2 c.f0 rfl x hx)
theorem good_weak : ∀ {l : List S38} {p : Option ByteArray}, goodP p l = true → goodP none l = true
 | [], _, _ => rfl
 | c :: cs, p, h => by
  simp only [goodP, Bool.and_eq_true] at h ⊢
  exact ⟨h.1, rfl, h.2.2⟩
theorem good_may : ∀ {l : List S38} {p : Option ByteArray}, goodP p l = true → ∀ x ∈ l, mayP x = true
 | [], _, _ => fun x hx => by cases hx
 | c :: cs, p, h => by
  simp only [goodP, Bool.and_eq_true] at h
  intro x hx
  rcases List.mem_cons.1 hx with e | hx
  · rw [e]; exact h.1
  · exact good_may h.2.2 x hx
theorem good_riseP : ∀ {l : List S38} {p : Option ByteArray}, goodP p l = true → RiseP l
 | [], _, _ => fun i j hi => by simp at hi
 | c :: cs, p, h => by
  simp only [goodP, Bool.and_eq_true] at h
  obtain ⟨_, _, h3⟩ := h
  have r1 := good_riseP h3
  have r2 := good_above h3 c.f0 rfl
  intro i j hi hj hij
  cases j with
  | zero => omega
  | succ j =>
    simp only [List.length_cons] at hi hj
    cases i with
    | zero => exact r2 _ (List.getElem_mem (by omega))
    | succ i => exact r1 i j (by omega) (by omega) (by omega)
/-! ### a pair is laid over -/
def setL (x : S38) : List S38 → List S38
 | [] => if x.f1.f0 = 0 then [] else [x]
 | y :: ys => if Op.bytesLess y.f0.toList x.f0.toList = true then y :: setL x ys else if y.f0 = x.f0 then (if x.f1.f0 = 0 then ys else x :: ys) else (if x.f1.f0 = 0 then y :: ys else x :: y :: ys)
theorem setL_len (x : S38) : ∀ l : List S38, (setL x l).length ≤ l.length + 1
 | [] => by unfold setL; split <;> simp
 | y :: ys => by
  have := setL_len x ys
  unfold setL
  split
  · simp; omega
  · split
    · split <;> simp <;> omega
    · split <;> simp
theorem setL_good {x : S38} (hk : mayK x.f0 = true) (hv : mayV x.f1.f0 x.f1.f1 x.f1.f2 = true) : ∀ {l : List S38} {p : Option ByteArray}, goodP p l = true → ltO p x.f0 = true → goodP p (setL x l) = true
 | [], p, _, hp => by
  unfold setL
  by_cases h0 : x.f1.f0 = 0
  · rw [if_pos h0]; rfl
  · rw [if_neg h0]
    simp [goodP, mayP, hk, hv, h0, hp]
 | y :: ys, p, h, hp => by
  simp only [goodP, Bool.and_eq_true] at h
  obtain ⟨h1, h2, h3⟩ := h
  unfold setL
  by_cases hl : Op.bytesLess y.f0.toList x.f0.toList = true
  · rw [if_pos hl]
    simp only [goodP, Bool.and_eq_true]
    exact ⟨h1, h2, setL_good hk hv h3 hl⟩
  · rw [if_neg hl]
    by_cases he : y.f0 = x.f0
    · rw [if_pos he]
      by_cases h0 : x.f1.f0 = 0
      · rw [if_pos h0]
        cases ys with
        | nil => rfl
        | cons z zs =>
          simp only [goodP, Bool.and_eq_true] at h3 ⊢
          refine ⟨h3.1, ?_, h3.2.2⟩
          cases p with
          | none => rfl
          | some q => exact less_trans _ _ _ h2 h3.2.1
      · rw [if_neg h0]
        simp only [goodP, Bool.and_eq_true, mayP]
        rw [← he]
        exact ⟨⟨by rw [he]; exact hk, hv, by simpa using h0⟩, h2, h3⟩
    · rw [if_neg he]
      by_cases h0 : x.f1.f0 = 0
      · rw [if_pos h0]
        simp only [goodP, Bool.and_eq_true]
        exact ⟨h1, h2, h3⟩
      · rw [if_neg h0]
        have hxy : Op.bytesLess x.f0.toList y.f0.toList = true := by
          rcases less_tri x.f0.toList y.f0.toList with g | g | g
          · exact g
          · exact absurd (list_eq g).symm he
          · exact absurd g hl
        simp only [goodP, Bool.and_eq_true, mayP]
        exact ⟨⟨hk, hv, by simpa using h0⟩, hp, by simpa [mayP] using h1, hxy, h3⟩
/-- By its place. -/
theorem setL_at (x : S38) : ∀ (l : List S38) (i : Nat), i ≤ l.length → (∀ (j : Nat) (h : j < l.length), j < i → Op.bytesLess l[j].f0.toList x.f0.toList = true) → (∀ (j : Nat) (h : j < l.length), i ≤ j → Op.bytesLess l[j].f0.toList x.f0.toList = false) →
    (∀ (y : Bool), (y = true ↔ ∃ h : i < l.length, l[i].f0 = x.f0) → setL x l = if x.f1.f0 = 0 then (if y = true then l.eraseIdx i else l) else if y = true then l.set i x else l.take i ++ x :: l.drop i)
 | [], i, hi, _, _, y, hy => by
  have hn : ¬ y = true := fun e => by obtain ⟨h, _⟩ := hy.1 e; simp at h
  unfold setL
  rw [if_neg hn, if_neg hn]
  simp
 | c :: cs, 0, hi, h1, h2, y, hy => by
  have hc := h2 0 (by simp) (Nat.le_refl _)
  simp only [List.getElem_cons_zero] at hc
  have hy' : y = true ↔ c.f0 = x.f0 := by rw [hy]; simp
  unfold setL
  rw [if_neg (by rw [hc]; decide)]
  by_cases he : c.f0 = x.f0
  · rw [if_pos he, if_pos (hy'.2 he), if_pos (hy'.2 he)]
    simp
  · rw [if_neg he, if_neg (fun e => he (hy'.1 e)), if_neg (fun e => he (hy'.1 e))]
    simp
 | c :: cs, i + 1, hi, h1, h2, y, hy => by
  have hc := h1 0 (by simp) (by omega)
  simp only [List.getElem_cons_zero] at hc
  have ih := setL_at x cs i (by simpa using hi) (fun j h hj => by have := h1 (j + 1) (by simpa using h) (by omega); simpa using this) (fun j h hj => by have := h2 (j + 1) (by simpa using h) (by omega); simpa using this) y (by rw [hy]; simp)
  unfold setL
  rw [if_pos hc, ih]
  by_cases h0 : x.f1.f0 = 0
  · rw [if_pos h0, if_pos h0]
    cases y <;> simp
  · rw [if_neg h0, if_neg h0]
    cases y <;> simp
def stepP (l : List S38) (x : S38) : List S38 := if (mayK x.f0 && mayV x.f1.f0 x.f1.f1 x.f1.f2) = true then setL x l else l
theorem stepP_good {l : List S38} (h : goodP none l = true) (x : S38) : goodP none (stepP l x) = true := by
  unfold stepP
  split
  · rename_i hm
    simp only [Bool.and_eq_true] at hm
    exact setL_good hm.1 hm.2 h rfl
  · exact h
theorem fold_good (w : List S38) : ∀ {l : List S38}, goodP none l = true → goodP none (w.foldl stepP l) = true := by
  induction w with
  | nil => intro l h; exact h
  | cons x w ih => intro l h; exact ih (stepP_good h x)
theorem stepP_len (l : List S38) (x : S38) : (stepP l x).length ≤ l.length + 1 := by
  unfold stepP
  split
  · exact setL_len x l
  · omega
theorem fold_len (w : List S38) : ∀ (l : List S38), (w.foldl stepP l).length ≤ l.length + w.length := by
  induction w with
  | nil => intro l; simp
  | cons x w ih =>
    intro l
    have h1 := ih (stepP l x)
    have h2 := stepP_len l x
    simp only [List.foldl_cons, List.length_cons]
    omega
theorem setL_mem {x : S38} : ∀ {l : List S38} {z : S38}, z ∈ setL x l → z = x ∨ z ∈ l
 | [], z, h => by
  unfold setL at h
  split at h
  · cases h
  · exact .inl (List.mem_singleton.1 h)
 | y :: ys, z, h => by
  unfold setL at h
  split at h
  · rcases List.mem_cons.1 h with e | h
    · exact .inr (by rw [e]; exact List.mem_cons_self ..)
    · rcases setL_mem h with e | h
      · exact .inl e
      · exact .inr (List.mem_cons_of_mem _ h)
  · split at h
    · split at h
      · exact .inr (List.mem_cons_of_mem _ h)
      · rcases List.mem_cons.1 h with e | h
        · exact .inl e
        · exact .inr (List.mem_cons_of_mem _ h)
    · split at h
      · exact .inr h
      · rcases List.mem_cons.1 h with e | h
        · exact .inl e
        · exact .inr h
theorem fold_FPL (w : List S38) : ∀ {l : List S38}, FPL l → FPL w → FPL (w.foldl stepP l) := by
  induction w with
  | nil => intro l h _; exact h
  | cons x w ih =>
    intro l h hw
    refine ih ?_ (fun z hz => hw z (List.mem_cons_of_mem _ hz))
    intro z hz
    unfold stepP at hz
    split at hz
    · rcases setL_mem hz with e | hz
      · rw [e]; exact hw x (List.mem_cons_self ..)
      · exact h z hz
    · exact h z hz
end Go.Proofs.Ytppbdngfiphliaa.Pure
