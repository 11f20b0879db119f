/- What judge.Over, the reference's Set, judge.Same, EqPairs, Part, Val answer. Condition: at most 500 pairs; floats are told by 64 bits. -/
import Derived.Test.YtppbdngfiphliaaJudV
import Derived.Test.YtppbdngfiphliaaPx12
import Derived.Test.YtppbdngfiphliaaPx13
import Derived.Test.YtppbdngfiphliaaPx4
import Derived.Test.YtppbdngfiphliaaPx5
import Derived.Test.YtppbdngfiphliaaPx7
import Derived.Test.YtppbdngfiphliaaPx9
set_option linter.unusedVariables false
set_option linter.unusedSimpArgs false
namespace Go.Proofs.Ytppbdngfiphliaa.Pure
open Go.RowKit Go.Proofs.Ytppbdngfiphliaa.P Go.Proofs.YtppbdngfiphliaaW.PrintWords Go.Proofs.YtppbdngfiphliaaW.PrintLast Go.Proofs.YtppbdngfiphliaaW.PrintMore
/-! ### texts compared -/
theorem cmp_less : ∀ a b : List UInt8, (Go.Lib.compareBytes a b < 0 ↔ Op.bytesLess a b = true) ∧ (Go.Lib.compareBytes a b = 0 ↔ a = b)
 | [], [] => by simp [Go.Lib.compareBytes, Op.bytesLess]
 | [], _ :: _ => by simp [Go.Lib.compareBytes, Op.bytesLess]
 | _ :: _, [] => by simp [Go.Lib.compareBytes, Op.bytesLess]
 | a :: l, b :: m => by
  obtain ⟨h1, h2⟩ := cmp_less l m
  rw [less_cons]
  unfold Go.Lib.compareBytes
  by_cases g : a < b
  · rw [if_pos g]
    refine ⟨iff_of_true (by decide) (.inl g), iff_of_false (by decide) ?_⟩
    intro e
    injection e with e1 e2
    rw [e1] at g
    exact UInt8.lt_irrefl _ g
  · rw [if_neg g]
    by_cases g2 : b < a
    · rw [if_pos g2]
      refine ⟨iff_of_false (by decide) ?_, iff_of_false (by decide) ?_⟩
      · rintro (h | ⟨rfl, _⟩)
        · exact g h
        · exact g g2
      · intro e
        injection e with e1 e2
        rw [e1] at g2
        exact UInt8.lt_irrefl _ g2
    · rw [if_neg g2]
      have hab : a = b := by
        rw [UInt8.lt_iff_toNat_lt] at g g2
        rw [← UInt8.toNat_inj]
        omega
      subst hab
      rw [h1, h2]
      simp [g]
theorem data_list (s : ByteArray) : s.data.toList = s.toList := by rw [Go.ByteArray.toList_eq]
theorem find1_is (x : S38) (s : ByteArray) : judge_find_1.f x.f0 x.f1.f0 x.f1.f1 x.f1.f2 s = some (Go.Lib.compareBytes x.f0.toList s.toList) := by
  unfold judge_find_1.f strings_Compare.f
  rw [data_list, data_list]
  rfl
theorem jmid_is {lo hi : Nat} (h : lo ≤ 1000) (h2 : hi ≤ 1000) : wrap64 ((IntKind.u64.wrap (wrap64 ((lo : Int) + (hi : Int)))) / 2) = (((lo + hi) / 2 : Nat) : Int) := by
  rw [jw64 (x := (lo : Int) + hi) (by omega), IntKind.wrap_u64, jw64 (by omega)]
  omega
theorem bsp_l0 (l : List S38) (x : ByteArray) (hr : RiseP l) (hl : l.length ≤ 1000) (d : Nat) : ∀ (k lo hi : Nat), hi - lo ≤ d → lo ≤ hi → hi ≤ l.length → d + 2 < k →
    (∀ (j : Nat) (h : j < l.length), j < lo → Op.bytesLess l[j].f0.toList x.toList = true) → (∀ (j : Nat) (h : j < l.length), hi ≤ j → Op.bytesLess l[j].f0.toList x.toList = false) →
    ∃ (i : Nat) (y : Bool), api_Pair_string.l0 k l x (l.length : Int) (lo : Int) (hi : Int) = some ((i : Int), y) ∧ i ≤ l.length ∧
      (∀ (j : Nat) (h : j < l.length), j < i → Op.bytesLess l[j].f0.toList x.toList = true) ∧ (∀ (j : Nat) (h : j < l.length), i ≤ j → Op.bytesLess l[j].f0.toList x.toList = false) ∧
      (y = true ↔ ∃ h : i < l.length, l[i].f0 = x) := by
  induction d with
  | zero =>
    intro k lo hi hd hlh hhl hk h1 h2
    obtain ⟨k, rfl⟩ : ∃ m, k = m + 1 := ⟨k - 1, by omega⟩
    have hE : lo = hi := by omega
    subst hE
    simp only [api_Pair_string.l0]
    rw [if_neg (by omega)]
    by_cases hn : lo < l.length
    · rw [if_pos (by omega), if_pos (by omega), if_pos (by omega), rd38 hn, find1_is]
      simp only [Option.bind_some]
      refine ⟨lo, _, rfl, by omega, h1, h2, ?_⟩
      rw [beq_iff_eq, (cmp_less _ _).2]
      exact ⟨fun e => ⟨hn, list_eq e⟩, fun ⟨_, e⟩ => by rw [e]⟩
    · rw [if_neg (by omega)]
      refine ⟨lo, false, rfl, by omega, h1, h2, iff_of_false (by decide) ?_⟩
      rintro ⟨e, _⟩
      exact hn e
  | succ d ih =>
    intro k lo hi hd hlh hhl hk h1 h2
    by_cases hE : lo = hi
    · exact ih k lo hi (by omega) hlh hhl (by omega) h1 h2
    · obtain ⟨k, rfl⟩ : ∃ m, k = m + 1 := ⟨k - 1, by omega⟩
      have hm : (lo + hi) / 2 < l.length := by omega
      simp only [api_Pair_string.l0]
      rw [if_pos (by omega), jmid_is (by omega) (by omega), if_pos (by omega), if_pos (by omega), rd38 hm, find1_is]
      simp only [Option.bind_some]
      by_cases hb : Op.bytesLess (l[(lo + hi) / 2]).f0.toList x.toList = true
      · rw [if_pos ((cmp_less _ _).1.2 hb), jw64 (x := (((lo + hi) / 2 : Nat) : Int) + 1) (by omega), show (((lo + hi) / 2 : Nat) : Int) + 1 = (((lo + hi) / 2 + 1 : Nat) : Int) from rfl]
        refine ih k ((lo + hi) / 2 + 1) hi (by omega) (by omega) hhl (by omega) ?_ h2
        intro j hj hlt
        by_cases he : j = (lo + hi) / 2
        · subst he; exact hb
        · exact less_trans _ _ _ (hr j ((lo + hi) / 2) hj hm (by omega)) hb
      · rw [if_neg (fun e => hb ((cmp_less _ _).1.1 e))]
        refine ih k lo ((lo + hi) / 2) (by omega) (by omega) (by omega) (by omega) h1 ?_
        intro j hj hle
        by_cases he : j = (lo + hi) / 2
        · subst he; exact Bool.eq_false_iff.2 hb
        · cases hc : Op.bytesLess l[j].f0.toList x.toList with
          | false => rfl
          | true => exact absurd (less_trans _ _ _ (hr ((lo + hi) / 2) j hm hj (by omega)) hc) hb
theorem find_is (l : List S38) (x : ByteArray) (hr : RiseP l) (hl : l.length ≤ 1000) {k : Nat} (hk : 1003 ≤ k) :
    ∃ (i : Nat) (y : Bool), judge_find.f k l x = some ((i : Int), y) ∧ i ≤ l.length ∧
      (∀ (j : Nat) (h : j < l.length), j < i → Op.bytesLess l[j].f0.toList x.toList = true) ∧ (∀ (j : Nat) (h : j < l.length), i ≤ j → Op.bytesLess l[j].f0.toList x.toList = false) ∧
      (y = true ↔ ∃ h : i < l.length, l[i].f0 = x) := by
  obtain ⟨i, y, e, r⟩ := bsp_l0 l x hr hl l.length k 0 l.length (by omega) (by omega) (Nat.le_refl _) (by omega) (fun j h hj => by omega) (fun j h hj => by omega)
  rw [show ((0 : Nat) : Int) = 0 from rfl] at e
  refine ⟨i, y, ?_, r⟩
  unfold judge_find.f api_Pair_string.f
  rw [e]
  rfl
/-! ### laid over -/
theorem over_l0 (w : List S38) (hw : w.length ≤ 400) (cs : List S38) : ∀ (k i : Nat) (l : List S38), w.drop i = cs → 3 * cs.length + 1100 < k → goodP none l = true → l.length + cs.length ≤ 900 →
    judge_Over.l0 k l w (w.length : Int) (i : Int) = some (cs.foldl stepP l) := by
  induction cs with
  | nil =>
    intro k i l hd hk hg hn
    obtain ⟨k, rfl⟩ : ∃ m, k = m + 1 := ⟨k - 1, by simp at hk; omega⟩
    have := jdrop_nil hd
    simp only [judge_Over.l0]
    rw [if_neg (by omega)]
    rfl
  | cons c cs ih =>
    intro k i l hd hk hg hn
    simp only [List.length_cons] at hk hn
    obtain ⟨k, rfl⟩ : ∃ m, k = m + 3 := ⟨k - 3, by omega⟩
    obtain ⟨hlt, h1, h2⟩ := jdrop_step hd
    have hs : ∀ (m : Nat) (l' : List S38), 3 * cs.length + 1100 < m → goodP none l' = true → l'.length + cs.length ≤ 900 → judge_Over.l0 m l' w (w.length : Int) (wrap64 ((i : Int) + 1)) = some (cs.foldl stepP l') := by
      intro m l' hm hg' hn'
      rw [jw64 (x := (i : Int) + 1) (by omega), j_succ]
      exact ih m (i + 1) l' h2 hm hg' hn'
    simp only [judge_Over.l0]
    rw [if_pos (by omega), if_pos (by omega), if_pos (by omega), rd38 hlt, h1, maykey_is]
    simp only [Option.bind_some, List.foldl_cons]
    have skip : (mayK c.f0 && mayV c.f1.f0 c.f1.f1 c.f1.f2) = false → judge_Over.j1 (k + 2) l w (w.length : Int) (i : Int) true c.f0 c.f1.f0 c.f1.f1 c.f1.f2 = some (cs.foldl stepP (stepP l c)) := by
      intro hm
      simp only [judge_Over.j1]
      rw [if_pos trivial]
      have : stepP l c = l := by unfold stepP; rw [if_neg (by rw [hm]; decide)]
      rw [this]
      exact hs _ l (by omega) hg (by omega)
    cases hm1 : mayK c.f0
    · rw [if_neg (by decide)]
      exact skip (by rw [hm1]; rfl)
    · rw [if_pos rfl, may_is]
      simp only [Option.bind_some]
      cases hm2 : mayV c.f1.f0 c.f1.f1 c.f1.f2
      · exact skip (by rw [hm1, hm2]; rfl)
      · have hst : stepP l c = setL c l := by unfold stepP; rw [hm1, hm2]; rfl
        have hgs := setL_good hm1 hm2 hg (p := none) rfl
        have hls := setL_len c l
        obtain ⟨q, y, e, hq, p1, p2, p3⟩ := find_is l c.f0 (good_riseP hg) (by omega) (k := k + 1) (by omega)
        have at_ := setL_at c l q hq p1 p2 y p3
        simp only [judge_Over.j1, Bool.not_true]
        rw [if_neg (by decide), e]
        simp only [Option.bind_some]
        have fin : judge_Over.l0 k (setL c l) w (w.length : Int) (wrap64 ((i : Int) + 1)) = some (cs.foldl stepP (stepP l c)) := by
          rw [hst]; exact hs k _ (by omega) hgs (by omega)
        by_cases h0 : c.f1.f0 = 0
        · rw [if_pos h0] at at_ ⊢
          cases y
          · simp only [judge_Over.j2]
            rw [if_neg (by decide), if_pos h0]
            rw [if_neg (by decide)] at at_
            rw [at_] at fin
            exact fin
          · obtain ⟨hql, hqe⟩ := p3.1 rfl
            simp only [judge_Over.j2]
            rw [if_pos trivial, jw64 (x := (q : Int) + 1) (by omega)]
            unfold api_Pair_35.f
            rw [if_pos ⟨by omega, by omega, rfl, by omega⟩, Int.toNat_natCast]
            simp only [Option.bind_some]
            rw [if_pos rfl] at at_
            rw [at_] at fin
            exact fin
        · rw [if_neg h0] at at_ ⊢
          simp only [judge_Over.j2]
          rw [if_neg (by decide), if_neg h0]
          cases y
          · rw [if_neg (by decide)]
            unfold api_Pair_36.f
            rw [if_pos ⟨by omega, by omega, rfl, by omega⟩, Int.toNat_natCast]
            simp only [Option.bind_some]
            rw [if_neg (by decide)] at at_
            rw [at_] at fin
            rw [List.append_assoc]
            exact fin
          · obtain ⟨hql, hqe⟩ := p3.1 rfl
            rw [if_pos rfl, if_pos (by omega), if_pos (by omega), Int.toNat_natCast]
            rw [if_pos rfl] at at_
            rw [at_] at fin
            exact fin
theorem over_is (d w : List S38) (hd : d.length ≤ 400) (hw : w.length ≤ 400) {k : Nat} (hk : 4000 ≤ k) : judge_Over.f k d w = some (if goodP none d = true then w.foldl stepP d else []) := by
  unfold judge_Over.f
  rw [sorted_is d (by omega) (by omega)]
  simp only [Option.bind_some]
  by_cases hg : goodP none d = true
  · rw [if_pos hg, if_pos hg]
    unfold api_Pair_31.f
    rw [if_pos (by omega)]
    simp only [Option.bind_some]
    have := over_l0 w hw w k 0 d rfl (by omega) hg (by omega)
    rw [show ((0 : Nat) : Int) = 0 from rfl] at this
    exact this
  · rw [if_neg hg, if_neg hg]
/-! ### the reference's Set -/
theorem set_done (l : List S38) (x : S38) (hl : l.length ≤ 1000) (cs : List S38) : ∀ (k i : Nat) (acc : List S38), l.drop i = cs → 2 * cs.length < k → acc.length ≤ 2000 + i → (∀ z ∈ cs, z.f0 ≠ x.f0) →
    engrossref23_Set.l0 k l x.f0 acc true (i : Int) x.f1.f0 x.f1.f1 x.f1.f2 = some (acc ++ cs) := by
  induction cs with
  | nil =>
    intro k i acc hd hk ha hz
    obtain ⟨k, rfl⟩ : ∃ m, k = m + 1 := ⟨k - 1, by simp at hk; omega⟩
    have := jdrop_nil hd
    simp only [engrossref23_Set.l0]
    rw [if_neg (by omega), if_pos trivial, List.append_nil]
  | cons c cs ih =>
    intro k i acc hd hk ha hz
    simp only [List.length_cons] at hk
    obtain ⟨k, rfl⟩ : ∃ m, k = m + 2 := ⟨k - 2, by omega⟩
    obtain ⟨hlt, h1, h2⟩ := jdrop_step hd
    simp only [engrossref23_Set.l0]
    rw [if_pos (by omega), if_pos trivial]
    simp only [engrossref23_Set.j1]
    rw [if_neg (by decide), if_pos (by omega), if_pos (by omega), rd38 hlt, h1, if_neg (fun e => hz c (List.mem_cons_self ..) (list_eq e)), if_pos (by omega), jw64 (x := (i : Int) + 1) (by omega), j_succ,
      ih k (i + 1) _ h2 (by omega) (by rw [List.length_append]; simp; omega) (fun z hz' => hz z (List.mem_cons_of_mem _ hz')), List.append_assoc]
    rfl
theorem above_ne {c : S38} {cs : List S38} (h : goodP (some c.f0) cs = true) {s : ByteArray} (hs : Op.bytesLess c.f0.toList s.toList = false) : ∀ z ∈ cs, z.f0 ≠ s := fun z hz e => by
  have := good_above h c.f0 rfl z hz
  rw [e, hs] at this
  cases this
theorem set_none (l : List S38) (x : S38) (h0 : x.f1.f0 = 0) (hl : l.length ≤ 1000) (cs : List S38) : ∀ (k i : Nat) (acc : List S38) (p : Option ByteArray), l.drop i = cs → 2 * cs.length < k → acc.length ≤ 2000 + i → goodP p cs = true →
    engrossref23_Set.l0 k l x.f0 acc true (i : Int) x.f1.f0 x.f1.f1 x.f1.f2 = some (acc ++ setL x cs) := by
  induction cs with
  | nil =>
    intro k i acc p hd hk ha hg
    rw [set_done l x hl [] k i acc hd hk ha (fun z hz => by cases hz)]
    unfold setL
    rw [if_pos h0]
  | cons c cs ih =>
    intro k i acc p hd hk ha hg
    have hk' := hk
    simp only [List.length_cons] at hk
    simp only [goodP, Bool.and_eq_true] at hg
    obtain ⟨_, _, hg3⟩ := hg
    obtain ⟨hlt, h1, h2⟩ := jdrop_step hd
    unfold setL
    by_cases hc : Op.bytesLess c.f0.toList x.f0.toList = true
    · have hne : c.f0 ≠ x.f0 := fun e => by rw [e, less_irr] at hc; cases hc
      obtain ⟨k, rfl⟩ : ∃ m, k = m + 2 := ⟨k - 2, by omega⟩
      rw [if_pos hc]
      simp only [engrossref23_Set.l0]
      rw [if_pos (by omega), if_pos trivial]
      simp only [engrossref23_Set.j1]
      rw [if_neg (by decide), if_pos (by omega), if_pos (by omega), rd38 hlt, h1, if_neg (fun e => hne (list_eq e)), if_pos (by omega), jw64 (x := (i : Int) + 1) (by omega), j_succ,
        ih k (i + 1) _ _ h2 (by omega) (by rw [List.length_append]; simp; omega) hg3, List.append_assoc]
      rfl
    · have hcf := Bool.eq_false_iff.2 hc
      rw [if_neg hc]
      by_cases he : c.f0 = x.f0
      · obtain ⟨k, rfl⟩ : ∃ m, k = m + 2 := ⟨k - 2, by omega⟩
        rw [if_pos he, if_pos h0]
        simp only [engrossref23_Set.l0]
        rw [if_pos (by omega), if_pos trivial]
        simp only [engrossref23_Set.j1]
        rw [if_neg (by decide), if_pos (by omega), if_pos (by omega), rd38 hlt, h1, if_pos (by rw [he]), jw64 (x := (i : Int) + 1) (by omega), j_succ,
          set_done l x hl cs k (i + 1) acc h2 (by omega) (by omega) (above_ne hg3 hcf)]
      · rw [if_neg he, if_pos h0]
        refine set_done l x hl (c :: cs) k i acc hd hk' ha (fun z hz => ?_)
        rcases List.mem_cons.1 hz with e | hz
        · rw [e]; exact he
        · exact above_ne hg3 hcf z hz
theorem set_put (l : List S38) (x : S38) (h0 : x.f1.f0 ≠ 0) (hl : l.length ≤ 1000) (cs : List S38) : ∀ (k i : Nat) (acc : List S38) (p : Option ByteArray), l.drop i = cs → 2 * cs.length < k → acc.length ≤ i → i ≤ l.length → goodP p cs = true →
    engrossref23_Set.l0 k l x.f0 acc false (i : Int) x.f1.f0 x.f1.f1 x.f1.f2 = some (acc ++ setL x cs) := by
  induction cs with
  | nil =>
    intro k i acc p hd hk ha hil hg
    obtain ⟨k, rfl⟩ : ∃ m, k = m + 1 := ⟨k - 1, by simp at hk; omega⟩
    have := jdrop_nil hd
    simp only [engrossref23_Set.l0]
    unfold setL
    rw [if_neg (by omega), if_neg (by decide), if_pos (by omega), if_neg h0]
  | cons c cs ih =>
    intro k i acc p hd hk ha hil hg
    simp only [List.length_cons] at hk
    simp only [goodP, Bool.and_eq_true] at hg
    obtain ⟨_, _, hg3⟩ := hg
    obtain ⟨hlt, h1, h2⟩ := jdrop_step hd
    obtain ⟨k, rfl⟩ : ∃ m, k = m + 2 := ⟨k - 2, by omega⟩
    unfold setL
    simp only [engrossref23_Set.l0]
    rw [if_pos (by omega), if_neg (by decide), if_pos (by omega), rd38 hlt, h1]
    by_cases hc : Op.bytesLess c.f0.toList x.f0.toList = true
    · have hne : c.f0 ≠ x.f0 := fun e => by rw [e, less_irr] at hc; cases hc
      rw [if_pos hc, hc]
      simp only [engrossref23_Set.j1]
      rw [if_neg (by decide), if_pos (by omega), if_pos (by omega), rd38 hlt, h1, if_neg (fun e => hne (list_eq e)), if_pos (by omega), jw64 (x := (i : Int) + 1) (by omega), j_succ,
        ih k (i + 1) _ _ h2 (by omega) (by rw [List.length_append]; simp; omega) (by omega) hg3, List.append_assoc]
      rfl
    · have hcf := Bool.eq_false_iff.2 hc
      rw [if_neg hc, hcf]
      simp only [engrossref23_Set.j1, Bool.not_false]
      rw [if_pos trivial, if_pos (by omega)]
      simp only [Option.bind_some]
      rw [if_pos (by omega), if_pos (by omega), rd38 hlt, h1]
      by_cases he : c.f0 = x.f0
      · rw [if_pos he, if_neg h0, if_pos (by rw [he]), jw64 (x := (i : Int) + 1) (by omega), j_succ,
          set_done l x hl cs k (i + 1) _ h2 (by omega) (by rw [List.length_append]; simp; omega) (above_ne hg3 hcf), List.append_assoc]
        rfl
      · rw [if_neg he, if_neg h0, if_neg (fun e => he (list_eq e)), if_pos (by rw [List.length_append]; simp; omega), jw64 (x := (i : Int) + 1) (by omega), j_succ,
          set_done l x hl cs k (i + 1) _ h2 (by omega) (by rw [List.length_append, List.length_append]; simp; omega) (above_ne hg3 hcf), List.append_assoc, List.append_assoc]
        rfl
theorem set_is (l : List S38) (x : S38) (hl : l.length ≤ 900) (hg : goodP none l = true) {k : Nat} (hk : 2000 ≤ k) : engrossref23_Set.f k l x.f0 x.f1.f0 x.f1.f1 x.f1.f2 = some (setL x l) := by
  unfold engrossref23_Set.f
  by_cases h0 : x.f1.f0 = 0
  · have := set_none l x h0 (by omega) l k 0 [] none rfl (by omega) (by simp) hg
    rw [show ((0 : Nat) : Int) = 0 from rfl, List.nil_append] at this
    rw [show (x.f1.f0 == 0) = true by simp [h0]]
    exact this
  · have := set_put l x h0 (by omega) l k 0 [] none rfl (by omega) (by simp) (by omega) hg
    rw [show ((0 : Nat) : Int) = 0 from rfl, List.nil_append] at this
    rw [show (x.f1.f0 == 0) = false by simp [h0]]
    exact this
/-! ### the same pairs -/
def eqP (x y : S38) : Bool := decide (x.f0.toList = y.f0.toList) && eqV x.f1.f0 x.f1.f1 x.f1.f2 y.f1.f0 y.f1.f1 y.f1.f2
def eqPs : List S38 → List S38 → Bool
 | x :: xs, y :: ys => eqP x y && eqPs xs ys
 | [], [] => true
 | _, _ => false
theorem eqP_self (x : S38) : eqP x x = true := by simp [eqP, eqV]
theorem eqPs_self (l : List S38) : eqPs l l = true := by
  induction l with
  | nil => rfl
  | cons x l ih => simp [eqPs, eqP_self, ih]
theorem same1_is {x y : S38} (hx : FP x) (hy : FP y) : judge_Same_1.f x.f0 x.f1.f0 x.f1.f1 x.f1.f2 y.f0 y.f1.f0 y.f1.f1 y.f1.f2 = some (eqP x y) := by
  unfold judge_Same_1.f eqP
  by_cases h : x.f0.toList = y.f0.toList
  · rw [if_pos h, eq_is _ hx _ _ hy]
    simp [h]
  · rw [if_neg h]
    simp [h]
theorem same_l0 (l m : List S38) (hf : FPL l) (hg : FPL m) (hl : l.length ≤ 1000) (he : l.length = m.length) (cs : List S38) : ∀ (k i : Nat) (ds : List S38), l.drop i = cs → m.drop i = ds → cs.length < k →
    api_Pair_25.l0 k m l (l.length : Int) (i : Int) = some (eqPs cs ds) := by
  induction cs with
  | nil =>
    intro k i ds hd hd2 hk
    obtain ⟨k, rfl⟩ : ∃ m, k = m + 1 := ⟨k - 1, by simp at hk; omega⟩
    have := jdrop_nil hd
    rw [List.drop_eq_nil_of_le (by omega)] at hd2
    subst hd2
    simp only [api_Pair_25.l0]
    rw [if_neg (by omega)]
    rfl
  | cons c cs ih =>
    intro k i ds hd hd2 hk
    simp only [List.length_cons] at hk
    obtain ⟨k, rfl⟩ : ∃ m, k = m + 1 := ⟨k - 1, by omega⟩
    obtain ⟨hlt, h1, h2⟩ := jdrop_step hd
    have hlm : i < m.length := by omega
    rw [List.drop_eq_getElem_cons hlm] at hd2
    subst hd2
    have hfc : FP c := by rw [← h1]; exact hf _ (List.getElem_mem _)
    simp only [api_Pair_25.l0]
    rw [if_pos (by omega), if_pos (by omega), if_pos (by omega), if_pos (by omega), rd38 hlt, h1, rd38 hlm, same1_is hfc (hg _ (List.getElem_mem _))]
    simp only [Option.bind_some, eqPs]
    cases eqP c m[i]
    · rw [if_neg (by decide)]; rfl
    · rw [if_pos rfl, jw64 (x := (i : Int) + 1) (by omega), j_succ]
      exact ih k (i + 1) _ h2 rfl (by omega)
def sameP (l m : List S38) : Bool := if l.length = m.length then eqPs l m else false
theorem sameP_self (l : List S38) : sameP l l = true := by unfold sameP; rw [if_pos rfl]; exact eqPs_self l
theorem same_is (l m : List S38) (hf : FPL l) (hg : FPL m) (hl : l.length ≤ 1000) {k : Nat} (hk : 1001 ≤ k) : judge_Same.f k l m = some (sameP l m) := by
  unfold judge_Same.f api_Pair_25.f sameP
  by_cases he : l.length = m.length
  · rw [if_pos (by omega), if_pos he]
    have := same_l0 l m hf hg hl he l k 0 m rfl rfl (by omega)
    rw [show ((0 : Nat) : Int) = 0 from rfl] at this
    rw [this]
    rfl
  · rw [if_neg (by omega), if_neg he]
    rfl
theorem eqs_l0 (l m : List S38) (hf : FPL l) (hg : FPL m) (hl : l.length ≤ 1000) (he : l.length = m.length) (cs : List S38) : ∀ (k i : Nat) (ds : List S38), l.drop i = cs → m.drop i = ds → cs.length < k →
    engrossref23_EqPairs.l0 k l m (i : Int) = some (eqPs cs ds) := by
  induction cs with
  | nil =>
    intro k i ds hd hd2 hk
    obtain ⟨k, rfl⟩ : ∃ m, k = m + 1 := ⟨k - 1, by simp at hk; omega⟩
    have := jdrop_nil hd
    rw [List.drop_eq_nil_of_le (by omega)] at hd2
    subst hd2
    simp only [engrossref23_EqPairs.l0]
    rw [if_neg (by omega)]
    rfl
  | cons c cs ih =>
    intro k i ds hd hd2 hk
    simp only [List.length_cons] at hk
    obtain ⟨k, rfl⟩ : ∃ m, k = m + 1 := ⟨k - 1, by omega⟩
    obtain ⟨hlt, h1, h2⟩ := jdrop_step hd
    have hlm : i < m.length := by omega
    rw [List.drop_eq_getElem_cons hlm] at hd2
    subst hd2
    have hfc : FP c := by rw [← h1]; exact hf _ (List.getElem_mem _)
    simp only [engrossref23_EqPairs.l0]
    rw [if_pos (by omega), if_pos (by omega), if_pos (by omega), rd38 hlt, h1, rd38 hlm]
    simp only [eqPs, eqP]
    by_cases h : c.f0.toList = m[i].f0.toList
    · rw [if_pos h, req_is _ hfc _ _ (hg _ (List.getElem_mem _))]
      simp only [Option.bind_some, h, decide_true, Bool.true_and]
      cases eqV c.f1.f0 c.f1.f1 c.f1.f2 m[i].f1.f0 m[i].f1.f1 m[i].f1.f2
      · rw [if_neg (by decide)]; rfl
      · rw [if_pos rfl, jw64 (x := (i : Int) + 1) (by omega), j_succ]
        exact ih k (i + 1) _ h2 rfl (by omega)
    · rw [if_neg h]
      simp [h]
theorem eqs_is (l m : List S38) (hf : FPL l) (hg : FPL m) (hl : l.length ≤ 1000) {k : Nat} (hk : 1001 ≤ k) : engrossref23_EqPairs.f k l m = some (sameP l m) := by
  unfold engrossref23_EqPairs.f sameP
  by_cases he : l.length = m.length
  · rw [if_pos (by omega), if_pos he]
    have := eqs_l0 l m hf hg hl he l k 0 m rfl rfl (by omega)
    rw [show ((0 : Nat) : Int) = 0 from rfl] at this
    exact this
  · rw [if_neg (by omega), if_neg he]
/-! ### a span's pairs, a key's value -/
def inP (a b : ByteArray) (x : S38) : Bool := !(Op.bytesLess x.f0.toList a.toList) && (decide (b.toList = []) || Op.bytesLess x.f0.toList b.toList)
theorem part_l0 (l : List S38) (a b : ByteArray) (hl : l.length ≤ 1000) (cs : List S38) : ∀ (k i : Nat) (acc : List S38), l.drop i = cs → cs.length < k → acc.length ≤ i →
    judge_Part.l0 k a b acc l (l.length : Int) (i : Int) = some (acc ++ cs.filter (inP a b)) := by
  induction cs with
  | nil =>
    intro k i acc hd hk ha
    obtain ⟨k, rfl⟩ : ∃ m, k = m + 1 := ⟨k - 1, by simp at hk; omega⟩
    have := jdrop_nil hd
    simp only [judge_Part.l0]
    rw [if_neg (by omega)]
    simp
  | cons c cs ih =>
    intro k i acc hd hk ha
    simp only [List.length_cons] at hk
    obtain ⟨k, rfl⟩ : ∃ m, k = m + 1 := ⟨k - 1, by omega⟩
    obtain ⟨hlt, h1, h2⟩ := jdrop_step hd
    simp only [judge_Part.l0]
    rw [if_pos (by omega), if_pos (by omega), if_pos (by omega), rd38 hlt, h1, in_key]
    simp only [Option.bind_some]
    have hin : (!(Op.bytesLess c.f0.toList a.toList) && (decide (b.toList = []) || Op.bytesLess c.f0.toList b.toList)) = inP a b c := rfl
    rw [hin, jw64 (x := (i : Int) + 1) (by omega), j_succ]
    cases hq : inP a b c
    · rw [if_neg (by decide), ih k (i + 1) acc h2 (by omega) (by omega), List.filter_cons, hq]
      rfl
    · rw [if_pos rfl, if_pos (by omega), ih k (i + 1) _ h2 (by omega) (by rw [List.length_append]; simp; omega), List.filter_cons, hq, List.append_assoc]
      rfl
theorem part_is (l : List S38) (a b : ByteArray) (hl : l.length ≤ 1000) {k : Nat} (hk : 1001 ≤ k) : judge_Part.f k l a b = some (l.filter (inP a b)) := by
  unfold judge_Part.f
  have := part_l0 l a b hl l k 0 [] rfl (by omega) (by simp)
  rw [show ((0 : Nat) : Int) = 0 from rfl, List.nil_append] at this
  exact this
theorem rpart_l0 (l : List S38) (a b : ByteArray) (hl : l.length ≤ 1000) (cs : List S38) : ∀ (k i : Nat) (acc : List S38), l.drop i = cs → cs.length < k → acc.length ≤ i →
    engrossref23_Part.l0 k l a b acc (i : Int) = some (acc ++ cs.filter (inP a b)) := by
  induction cs with
  | nil =>
    intro k i acc hd hk ha
    obtain ⟨k, rfl⟩ : ∃ m, k = m + 1 := ⟨k - 1, by simp at hk; omega⟩
    have := jdrop_nil hd
    simp only [engrossref23_Part.l0]
    rw [if_neg (by omega)]
    simp
  | cons c cs ih =>
    intro k i acc hd hk ha
    simp only [List.length_cons] at hk
    obtain ⟨k, rfl⟩ : ∃ m, k = m + 1 := ⟨k - 1, by omega⟩
    obtain ⟨hlt, h1, h2⟩ := jdrop_step hd
    simp only [engrossref23_Part.l0]
    rw [if_pos (by omega), if_pos (by omega), rd38 hlt, h1, show engrossref1_In.f c.f0 a b = key_In.f c.f0 a b from rfl, in_key]
    simp only [Option.bind_some]
    have hin : (!(Op.bytesLess c.f0.toList a.toList) && (decide (b.toList = []) || Op.bytesLess c.f0.toList b.toList)) = inP a b c := rfl
    rw [hin, jw64 (x := (i : Int) + 1) (by omega), j_succ]
    cases hq : inP a b c
    · rw [if_neg (by decide), ih k (i + 1) acc h2 (by omega) (by omega), List.filter_cons, hq]
      rfl
    · rw [if_pos rfl, if_pos (by omega), ih k (i + 1) _ h2 (by omega) (by rw [List.length_append]; simp; omega), List.filter_cons, hq, List.append_assoc]
      rfl
theorem rpart_is (l : List S38) (a b : ByteArray) (hl : l.length ≤ 1000) {k : Nat} (hk : 1001 ≤ k) : engrossref23_Part.f k l a b = some (l.filter (inP a b)) := by
  unfold engrossref23_Part.f
  have := rpart_l0 l a b hl l k 0 [] rfl (by omega) (by simp)
  rw [show ((0 : Nat) : Int) = 0 from rfl, List.nil_append] at this
  exact this
def valP (s : ByteArray) : List S38 → Int × Nat × ByteArray × Bool
 | [] => (0, 0, (⟨#[]⟩ : ByteArray), false)
 | x :: xs => if x.f0.toList = s.toList then (x.f1.f0, x.f1.f1, x.f1.f2, true) else valP s xs
theorem val_l0 (l : List S38) (s : ByteArray) (hl : l.length ≤ 1000) (cs : List S38) : ∀ (k i : Nat), l.drop i = cs → cs.length < k →
    judge_Val.l0 k s l (l.length : Int) (i : Int) = some (valP s cs) ∧ engrossref23_Val.l0 k l s (i : Int) = some (valP s cs) := by
  induction cs with
  | nil =>
    intro k i hd hk
    obtain ⟨k, rfl⟩ : ∃ m, k = m + 1 := ⟨k - 1, by simp at hk; omega⟩
    have := jdrop_nil hd
    constructor
    · simp only [judge_Val.l0]
      rw [if_neg (by omega)]
      rfl
    · simp only [engrossref23_Val.l0]
      rw [if_neg (by omega)]
      rfl
  | cons c cs ih =>
    intro k i hd hk
    simp only [List.length_cons] at hk
    obtain ⟨k, rfl⟩ : ∃ m, k = m + 1 := ⟨k - 1, by omega⟩
    obtain ⟨hlt, h1, h2⟩ := jdrop_step hd
    obtain ⟨i1, i2⟩ := ih k (i + 1) h2 (by omega)
    constructor
    · simp only [judge_Val.l0, valP]
      rw [if_pos (by omega), if_pos (by omega), if_pos (by omega), rd38 hlt, h1, jw64 (x := (i : Int) + 1) (by omega), j_succ, i1]
      by_cases h : c.f0.toList = s.toList
      · rw [if_pos h, if_pos h]
      · rw [if_neg h, if_neg h]
    · simp only [engrossref23_Val.l0, valP]
      rw [if_pos (by omega), if_pos (by omega), rd38 hlt, h1, jw64 (x := (i : Int) + 1) (by omega), j_succ, i2]
      by_cases h : c.f0.toList = s.toList
      · rw [if_pos h, if_pos h]
      · rw [if_neg h, if_neg h]
theorem val_is (l : List S38) (s : ByteArray) (hl : l.length ≤ 1000) {k : Nat} (hk : 1001 ≤ k) : judge_Val.f k l s = some (valP s l) ∧ engrossref23_Val.f k l s = some (valP s l) := by
  unfold judge_Val.f engrossref23_Val.f
  have := val_l0 l s hl l k 0 rfl (by omega)
  rw [show ((0 : Nat) : Int) = 0 from rfl] at this
  exact this
theorem valP_lt (s : ByteArray) : ∀ {l : List S38}, FPL l → (valP s l).2.1 < 18446744073709551616
 | [], _ => (by show (0 : Nat) < 18446744073709551616; decide)
 | x :: xs, h => by
  unfold valP
  split
  · exact h x (List.mem_cons_self ..)
  · exact valP_lt s (fun z hz => h z (List.mem_cons_of_mem _ hz))
/-! ### not too many -/
theorem pairs_l0 (l : List S38) (hf : FPL l) (d : Nat) : ∀ (k i : Nat) (acc : List S38), 16 - i ≤ d → 2 * d + 2 < k → acc.length ≤ i → i ≤ 15 → FPL acc →
    ∃ acc', engrosslaw28_Pairs.l0 k l acc (i : Int) = some acc' ∧ FPL acc' ∧ acc'.length ≤ 15 := by
  induction d with
  | zero => intro k i acc h; omega
  | succ d ih =>
    intro k i acc hd hk ha hi hfa
    obtain ⟨k, rfl⟩ : ∃ m, k = m + 2 := ⟨k - 2, by omega⟩
    simp only [engrosslaw28_Pairs.l0]
    by_cases h1 : (i : Int) < (l.length : Int)
    · have hlt : i < l.length := by omega
      rw [if_pos h1]
      simp only [engrosslaw28_Pairs.j1]
      by_cases h2 : (i : Int) < 15
      · obtain ⟨t, e, _⟩ := cut_is l[i].f0 (n := 20)
        obtain ⟨v, e2, _⟩ := cut_is l[i].f1.f2 (n := 25)
        rw [show ((20 : Nat) : Int) = 20 from rfl] at e
        rw [show ((25 : Nat) : Int) = 25 from rfl] at e2
        rw [if_pos (by simpa using h2), if_pos (by omega), if_pos (by omega), rd38 hlt, e]
        unfold engrosslaw10_Val.f
        rw [e2]
        simp only [Option.bind_some]
        rw [if_pos (by omega), jw64 (x := (i : Int) + 1) (by omega), j_succ]
        refine ih k (i + 1) _ (by omega) (by omega) (by rw [List.length_append, List.length_singleton]; omega) (by omega) ?_
        intro x hx
        rcases List.mem_append.1 hx with hx | hx
        · exact hfa x hx
        · rw [List.mem_singleton.1 hx]
          exact hf l[i] (List.getElem_mem hlt)
      · rw [if_neg (by simpa using h2)]
        exact ⟨acc, rfl, hfa, by omega⟩
    · rw [if_neg h1]
      simp only [engrosslaw28_Pairs.j1]
      rw [if_neg (by decide)]
      exact ⟨acc, rfl, hfa, by omega⟩
theorem pairs_is (l : List S38) (hf : FPL l) {k : Nat} (hk : 100 ≤ k) : ∃ l', engrosslaw28_Pairs.f k l = some l' ∧ FPL l' ∧ l'.length ≤ 15 := by
  unfold engrosslaw28_Pairs.f
  have := pairs_l0 l hf 16 k 0 [] (by omega) (by omega) (by simp) (by omega) (fun x hx => by cases hx)
  rw [show ((0 : Nat) : Int) = 0 from rfl] at this
  exact this
theorem wf_FP {x : S38} (h : wf38 x) : FP x := h.2.2.1
end Go.Proofs.Ytppbdngfiphliaa.Pure
