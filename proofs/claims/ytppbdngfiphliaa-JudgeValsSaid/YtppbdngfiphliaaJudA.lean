/- What JudgeVals lays up: the pairs and the last floats, step by step. No condition. -/
import Derived.Test.YtppbdngfiphliaaJudB
set_option linter.unusedVariables false
set_option linter.unusedSimpArgs false
namespace Go.Proofs.Ytppbdngfiphliaa.Pure
open Go.RowKit Go.Proofs.Ytppbdngfiphliaa.P Go.Proofs.YtppbdngfiphliaaW.PrintWords Go.Proofs.YtppbdngfiphliaaW.PrintLast Go.Proofs.YtppbdngfiphliaaW.PrintMore
/-- The letter's number. -/
def kx (x : Int) : Int := Int.tmod (Int.tmod x 26 + 26) 26
def kB (k : Int) : ByteArray := strOfNums [97 + k]
def fl (i : Int) : Nat := floatOfInt .f64 i
def noV : S31 := ⟨0, 0, ⟨#[]⟩⟩
def stepV (keys : List Int) (gone : List Bool) (i : Int) (s : List S38 × List Nat) : List S38 × List Nat :=
  if i < (gone.length : Int) ∧ rdOf false gone i = true then (s.1 ++ [⟨kB (kx (rd keys i)), noV⟩], s.2.set (kx (rd keys i)).toNat 0)
  else (s.1 ++ [⟨kB (kx (rd keys i)), ⟨1, fl (i + 1), ⟨#[]⟩⟩⟩], s.2.set (kx (rd keys i)).toNat (fl (i + 1)))
def stV (keys : List Int) (gone : List Bool) : Nat → List S38 × List Nat
 | 0 => ([], List.replicate 26 0)
 | i + 1 => stepV keys gone (i : Int) (stV keys gone i)
theorem fl_facts : ∀ j : Fin 30, fl ((j.val : Int) + 1) ≠ 0 ∧ (FloatKind.f64.format.order (fl ((j.val : Int) + 1)) 0 == some .gt) = true ∧ (FloatKind.f64.format.order (fl ((j.val : Int) + 1)) (fl ((j.val : Int) + 1)) != some .eq) = false ∧ mayV 1 (fl ((j.val : Int) + 1)) ⟨#[]⟩ = true := by decide +kernel
theorem fl_gt {f : Nat} (h : ∃ j : Nat, j < 30 ∧ f = fl ((j : Int) + 1)) : (FloatKind.f64.format.order f 0 == some .gt) = true ∧ (FloatKind.f64.format.order f f != some .eq) = false := by
  obtain ⟨j, hj, rfl⟩ := h
  exact ⟨(fl_facts ⟨j, hj⟩).2.1, (fl_facts ⟨j, hj⟩).2.2.1⟩
theorem nought_gt : (FloatKind.f64.format.order 0 0 == some .gt) = false := by decide +kernel
theorem tm26 (x : Int) : -25 ≤ Int.tmod x 26 ∧ Int.tmod x 26 ≤ 25 := by
  obtain ⟨n, rfl | rfl⟩ := Int.eq_nat_or_neg x
  · have : Int.tmod (n : Int) 26 = ((n % 26 : Nat) : Int) := rfl
    omega
  · rw [Int.neg_tmod]
    have : Int.tmod (n : Int) 26 = ((n % 26 : Nat) : Int) := rfl
    omega
theorem kx_in (x : Int) : 0 ≤ kx x ∧ kx x < 26 := by
  have h := tm26 x
  unfold kx
  rw [Int.tmod_eq_emod_of_nonneg (by omega)]
  omega
theorem stV_len (keys : List Int) (gone : List Bool) (i : Nat) : (stV keys gone i).1.length = i ∧ (stV keys gone i).2.length = 26 := by
  induction i with
  | zero => exact ⟨rfl, rfl⟩
  | succ i ih =>
    rw [stV]
    unfold stepV
    split
    · exact ⟨by simp [ih.1], by simp [ih.2]⟩
    · exact ⟨by simp [ih.1], by simp [ih.2]⟩
/-- How many letters ahead of k have a value. -/
def cntL (ls : List Nat) : Nat → Nat
 | 0 => 0
 | k + 1 => cntL ls k + (if ls.getD k 0 = 0 then 0 else 1)
theorem cntL_le (ls : List Nat) : ∀ k, cntL ls k ≤ k := by
  intro k
  induction k with
  | zero => exact Nat.le_refl _
  | succ k ih => rw [cntL]; split <;> omega
/-! ### the letters' pairs, in order -/
theorem kB_list (j : Nat) : (kB (j : Int)).toList = [UInt8.ofNat (97 + j)] := by
  rw [Go.ByteArray.toList_eq]
  unfold kB
  rw [strOfNums_data, show ((97 : Int) + (j : Int)) = ((97 + j : Nat) : Int) from rfl]
  rfl
theorem kless {i j : Nat} (h : i < j) (hj : j < 26) : Op.bytesLess (kB (i : Int)).toList (kB (j : Int)).toList = true := by
  rw [kB_list, kB_list, less_cons, UInt8.lt_iff_toNat_lt]
  left
  simp only [UInt8.toNat_ofNat']
  omega
theorem kmay (j : Nat) : mayK (kB (j : Int)) = true := by
  unfold mayK kB
  rw [strOfNums_size]
  rfl
theorem kne {i j : Nat} (h : i < j) (hj : j < 26) : (kB (i : Int)).toList ≠ (kB (j : Int)).toList := fun e => by
  have := kless h hj
  rw [e, less_irr] at this
  cases this
def tab (ls : List Nat) : Nat → Nat → List S38
 | 0, _ => []
 | m + 1, k => if ls.getD k 0 = 0 then tab ls m (k + 1) else (⟨kB (k : Int), ⟨1, ls.getD k 0, ⟨#[]⟩⟩⟩ : S38) :: tab ls m (k + 1)
theorem tab_mem (ls : List Nat) : ∀ (m k : Nat) (y : S38), y ∈ tab ls m k → ∃ j : Nat, k ≤ j ∧ j < k + m ∧ y.f0 = kB (j : Int)
 | 0, k, y, h => by cases h
 | m + 1, k, y, h => by
  unfold tab at h
  split at h
  · obtain ⟨j, h1, h2, h3⟩ := tab_mem ls m (k + 1) y h
    exact ⟨j, by omega, by omega, h3⟩
  · rcases List.mem_cons.1 h with e | h
    · exact ⟨k, Nat.le_refl _, by omega, by rw [e]⟩
    · obtain ⟨j, h1, h2, h3⟩ := tab_mem ls m (k + 1) y h
      exact ⟨j, by omega, by omega, h3⟩
theorem setL_above (x : S38) (l : List S38) (h : ∀ y ∈ l, Op.bytesLess x.f0.toList y.f0.toList = true) : setL x l = if x.f1.f0 = 0 then l else x :: l := by
  cases l with
  | nil => rfl
  | cons y ys =>
    have h1 := h y (List.mem_cons_self ..)
    unfold setL
    rw [if_neg (by rw [less_asym h1]; decide), if_neg (fun e => by rw [e, less_irr] at h1; cases h1)]
theorem tab_set (ls : List Nat) (j f : Nat) : ∀ (m k : Nat), j < k → tab (ls.set j f) m k = tab ls m k
 | 0, k, h => rfl
 | m + 1, k, h => by
  have e : (ls.set j f).getD k 0 = ls.getD k 0 := by
    simp only [List.getD_eq_getElem?_getD]
    rw [List.getElem?_set_ne (by omega)]
  unfold tab
  rw [e, tab_set ls j f m (k + 1) (by omega)]
theorem set_same (ls : List Nat) (j f : Nat) (h : j < ls.length) : (ls.set j f).getD j 0 = f := by
  simp [List.getD_eq_getElem?_getD, h]
theorem setL_tab (ls : List Nat) (x f : Nat) (v : S31) (hv : (v.f0 = 0 ∧ f = 0) ∨ (v = ⟨1, f, ⟨#[]⟩⟩ ∧ f ≠ 0)) (hl : ls.length = 26) : ∀ (m k : Nat), k ≤ x → x < k + m → k + m ≤ 26 → setL ⟨kB (x : Int), v⟩ (tab ls m k) = tab (ls.set x f) m k
 | 0, k, h1, h2, h3 => by omega
 | m + 1, k, h1, h2, h3 => by
  by_cases hk : k < x
  · have ih := setL_tab ls x f v hv hl m (k + 1) (by omega) (by omega) (by omega)
    have e : (ls.set x f).getD k 0 = ls.getD k 0 := by
      simp only [List.getD_eq_getElem?_getD]
      rw [List.getElem?_set_ne (by omega)]
    rw [tab, tab, e]
    by_cases h0 : ls.getD k 0 = 0
    · rw [if_pos h0, if_pos h0, ih]
    · rw [if_neg h0, if_neg h0]
      rw [setL, if_pos (kless hk (by omega)), ih]
  · obtain rfl : k = x := by omega
    have e : (ls.set k f).getD k 0 = f := set_same ls k f (by omega)
    have ab := setL_above ⟨kB (k : Int), v⟩ (tab ls m (k + 1)) (fun y hy => by
      obtain ⟨j, g1, g2, g3⟩ := tab_mem ls m (k + 1) y hy
      rw [g3]
      exact kless (by omega) (by omega))
    rw [tab, tab, e, tab_set ls k f m (k + 1) (by omega)]
    by_cases h0 : ls.getD k 0 = 0
    · rw [if_pos h0, ab]
      rcases hv with ⟨v0, f0⟩ | ⟨v0, f0⟩
      · rw [if_pos f0]; exact if_pos v0
      · rw [if_neg f0, v0]; exact if_neg (show ¬ (1 : Int) = 0 by decide)
    · rw [if_neg h0, setL, if_neg (by rw [less_irr]; decide), if_pos rfl]
      rcases hv with ⟨v0, f0⟩ | ⟨v0, f0⟩
      · rw [if_pos f0]; exact if_pos v0
      · rw [if_neg f0, v0]; exact if_neg (show ¬ (1 : Int) = 0 by decide)
theorem tab_nil : tab (List.replicate 26 0) 26 0 = [] := rfl
theorem step_gone (ls : List Nat) (hl : ls.length = 26) (x : Nat) (hx : x < 26) : stepP (tab ls 26 0) ⟨kB (x : Int), noV⟩ = tab (ls.set x 0) 26 0 := by
  have h := setL_tab ls x 0 noV (Or.inl ⟨rfl, rfl⟩) hl 26 0 (by omega) (by omega) (by omega)
  generalize tab ls 26 0 = a at h ⊢
  generalize tab (ls.set x 0) 26 0 = b at h ⊢
  rw [stepP, if_pos]
  · exact h
  · show (mayK (kB (x : Int)) && mayV 0 0 ⟨#[]⟩) = true
    rw [kmay]
    decide +kernel
theorem step_there (ls : List Nat) (hl : ls.length = 26) (x f : Nat) (hx : x < 26) (hf : f ≠ 0) (hm : mayV 1 f ⟨#[]⟩ = true) : stepP (tab ls 26 0) ⟨kB (x : Int), ⟨1, f, ⟨#[]⟩⟩⟩ = tab (ls.set x f) 26 0 := by
  have h := setL_tab ls x f ⟨1, f, ⟨#[]⟩⟩ (Or.inr ⟨rfl, hf⟩) hl 26 0 (by omega) (by omega) (by omega)
  generalize tab ls 26 0 = a at h ⊢
  generalize tab (ls.set x f) 26 0 = b at h ⊢
  rw [stepP, if_pos]
  · exact h
  · show (mayK (kB (x : Int)) && mayV 1 f ⟨#[]⟩) = true
    rw [kmay, hm]
    rfl
theorem fl_ok (n : Nat) (h : n < 30) : ∃ f, fl ((n : Int) + 1) = f ∧ f ≠ 0 ∧ mayV 1 f ⟨#[]⟩ = true := ⟨_, rfl, (fl_facts ⟨n, h⟩).1, (fl_facts ⟨n, h⟩).2.2.2⟩
theorem kx_ok (x : Int) : ∃ n : Nat, kx x = (n : Int) ∧ n < 26 := ⟨(kx x).toNat, by have := kx_in x; omega, by have := kx_in x; omega⟩
theorem fold_one (ws : List S38) (x : S38) : List.foldl stepP [] (ws ++ [x]) = stepP (List.foldl stepP [] ws) x := by
  rw [List.foldl_append]
  rfl
theorem fold_step (keys : List Int) (gone : List Bool) (n : Nat) (hn : n < 30) (ws : List S38) (ls : List Nat) (hl : ls.length = 26) (ih : List.foldl stepP [] ws = tab ls 26 0) :
    List.foldl stepP [] (stepV keys gone (n : Int) (ws, ls)).1 = tab (stepV keys gone (n : Int) (ws, ls)).2 26 0 := by
  obtain ⟨f, hf, hf1, hf2⟩ := fl_ok n hn
  obtain ⟨x, hx, hx2⟩ := kx_ok (rd keys (n : Int))
  unfold stepV
  rw [hx, hf, Int.toNat_natCast]
  clear hx hf
  by_cases hc : (n : Int) < (gone.length : Int) ∧ rdOf false gone (n : Int) = true
  · rw [if_pos hc]
    simp only
    rw [fold_one, ih]
    exact step_gone ls hl x hx2
  · rw [if_neg hc]
    simp only
    rw [fold_one, ih]
    exact step_there ls hl x f hx2 hf1 hf2
theorem fold_tab (keys : List Int) (gone : List Bool) (n : Nat) (hn : n ≤ 30) : (stV keys gone n).1.foldl stepP [] = tab (stV keys gone n).2 26 0 := by
  induction n with
  | zero =>
    rw [show stV keys gone 0 = ([], List.replicate 26 0) from rfl]
    rw [tab_nil]
    rfl
  | succ n ih =>
    have ih' := ih (by omega)
    have hl := (stV_len keys gone n).2
    rw [show stV keys gone (n + 1) = stepV keys gone (n : Int) (stV keys gone n) from rfl]
    generalize stV keys gone n = s at ih' hl
    obtain ⟨ws, ls⟩ := s
    exact fold_step keys gone n (by omega) ws ls hl ih'
theorem val_none (s : ByteArray) : ∀ l : List S38, (∀ y ∈ l, y.f0.toList ≠ s.toList) → valP s l = (0, 0, ⟨#[]⟩, false)
 | [], _ => rfl
 | x :: xs, h => by
  rw [valP, if_neg (h x (List.mem_cons_self ..))]
  exact val_none s xs (fun y hy => h y (List.mem_cons_of_mem _ hy))
theorem val_tab (ls : List Nat) (x : Nat) : ∀ (m k : Nat), k ≤ x → x < k + m → k + m ≤ 26 → valP (kB (x : Int)) (tab ls m k) = if ls.getD x 0 = 0 then (0, 0, ⟨#[]⟩, false) else (1, ls.getD x 0, ⟨#[]⟩, true)
 | 0, k, h1, h2, h3 => by omega
 | m + 1, k, h1, h2, h3 => by
  by_cases hk : k < x
  · have ih := val_tab ls x m (k + 1) (by omega) (by omega) (by omega)
    rw [tab]
    by_cases h0 : ls.getD k 0 = 0
    · rw [if_pos h0, ih]
    · rw [if_neg h0, valP, if_neg (kne hk (by omega)), ih]
  · obtain rfl : k = x := by omega
    rw [tab]
    by_cases h0 : ls.getD k 0 = 0
    · rw [if_pos h0, if_pos h0]
      exact val_none _ _ (fun y hy => by
        obtain ⟨j, g1, g2, g3⟩ := tab_mem ls m (k + 1) y hy
        rw [g3]
        exact (kne (by omega) (by omega)).symm)
    · rw [if_neg h0, if_neg h0, valP, if_pos rfl]
theorem len_tab (ls : List Nat) : ∀ (m k : Nat), cntL ls k + (tab ls m k).length = cntL ls (k + m)
 | 0, k => rfl
 | m + 1, k => by
  have ih := len_tab ls m (k + 1)
  rw [show k + (m + 1) = k + 1 + m by omega, ← ih, cntL, tab]
  split
  · rfl
  · rw [List.length_cons]; omega
theorem vals_is (keys : List Int) (gone : List Bool) (n : Nat) (hn : n ≤ 30) : ∀ k : Int, 0 ≤ k → k < 26 → valP (kB k) ((stV keys gone n).1.foldl stepP []) = if (stV keys gone n).2.getD k.toNat 0 = 0 then (0, 0, ⟨#[]⟩, false) else (1, (stV keys gone n).2.getD k.toNat 0, ⟨#[]⟩, true) := by
  intro k h0 h1
  rw [fold_tab keys gone n hn]
  have := val_tab (stV keys gone n).2 k.toNat 26 0 (by omega) (by omega) (by omega)
  rw [show ((k.toNat : Nat) : Int) = k by omega] at this
  exact this
theorem cnt_is (keys : List Int) (gone : List Bool) (n : Nat) (hn : n ≤ 30) : ((stV keys gone n).1.foldl stepP []).length = cntL (stV keys gone n).2 26 := by
  rw [fold_tab keys gone n hn]
  have := len_tab (stV keys gone n).2 26 0
  rw [show cntL (stV keys gone n).2 0 = 0 from rfl, Nat.zero_add, Nat.zero_add] at this
  exact this
theorem getD_set (ls : List Nat) (j f k : Nat) : (ls.set j f).getD k 0 = f ∨ (ls.set j f).getD k 0 = ls.getD k 0 := by
  simp only [List.getD_eq_getElem?_getD]
  by_cases h : j = k
  · subst h
    by_cases hl : j < ls.length
    · left; simp [hl]
    · right; rw [List.set_eq_of_length_le (by omega)]
  · right; rw [List.getElem?_set_ne h]
/-- A last float is nought or one of thirty. -/
theorem lsum_in (keys : List Int) (gone : List Bool) : ∀ (n : Nat) (hn : n ≤ 30), ∀ k : Nat, (stV keys gone n).2.getD k 0 = 0 ∨ ∃ j : Nat, j < 30 ∧ (stV keys gone n).2.getD k 0 = fl ((j : Int) + 1)
 | 0, _, k => by
  left
  show (List.replicate 26 0).getD k 0 = 0
  simp only [List.getD_eq_getElem?_getD, List.getElem?_replicate]
  split <;> rfl
 | n + 1, hn, k => by
  have ih := lsum_in keys gone n (by omega) k
  rw [stV, stepV]
  split
  · rcases getD_set (stV keys gone n).2 (kx (rd keys (n : Int))).toNat 0 k with e | e
    · left; exact e
    · simp only [e]; exact ih
  · rcases getD_set (stV keys gone n).2 (kx (rd keys (n : Int))).toNat (fl ((n : Int) + 1)) k with e | e
    · right; exact ⟨n, by omega, e⟩
    · simp only [e]; exact ih
end Go.Proofs.Ytppbdngfiphliaa.Pure
