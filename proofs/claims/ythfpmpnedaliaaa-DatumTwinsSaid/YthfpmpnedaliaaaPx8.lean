/- Functions of the program as Lean functions, and that each call answers as its function does. No condition. (Lines written by a generator of this session.) -/
import Derived.Test.YthfpmpnedaliaaaPx0
import Derived.Test.YthfpmpnedaliaaaPx1
import Derived.Test.YthfpmpnedaliaaaPx3
namespace Go.Proofs.Ythfpmpnedaliaaa.P
open Go.RowKit Go.Proofs.YthfpmpnedaliaaaW.PrintWords Go.Proofs.YthfpmpnedaliaaaW.PrintLast Go.Proofs.YthfpmpnedaliaaaW.PrintMore
attribute [local go_sem] max2_int min2_int max_two min_two max_three min_three max_four min_four   -- for this text's walks alone
attribute [local go_sem] x_str_gtr x_str_leq x_str_geq ext_bits ext_frombits ext_neg x_store_float
set_option linter.unusedVariables false
set_option linter.unusedSimpArgs false

/-! ### engrosslaw4_DatumTwins: function 6 -/
def engrosslaw4_DatumTwins.j0 : Nat → Bool → Int → Nat → ByteArray → Int → Nat → ByteArray → Option (Bool)
  | 0, _, _, _, _, _, _, _ => none
  | k + 1, x34, x377000, x377001, x377002, x378000, x378001, x378002 => if x34 = true then (some true) else ((datum_Put.f k ([] : List Int) x377000 x377001 x377002).bind fun t380 => ((datum_Put.f k ([] : List Int) x378000 x378001 x378002).bind fun t383 => ((datum_Eq.f x377000 x377001 x377002 x378000 x378001 x378002).bind fun t386 => (if (((strOfNums t380).toList == (strOfNums t383).toList) == t386) = true then ((datum_Eq.f x377000 x377001 x377002 x378000 x378001 x378002).bind fun t387 => ((datum_Eq.f x378000 x378001 x378002 x377000 x377001 x377002).bind fun t388 => (some (t387 == t388)))) else (none)))))
def engrosslaw4_DatumTwins.f (k : Nat) (a0 : Int) (a1 : Int) (a2 : ByteArray) (a3 : Int) (a4 : Int) (a5 : ByteArray) : Option (Bool) := (engrosslaw4_begun.f k).bind fun t369 => (if t369 = true then ((engrosslaw4_Val.f a0 a1 a2).bind fun bt370 => ((engrosslaw4_Val.f a3 a4 a5).bind fun bt373 => ((engrossref1_MayVal.f bt370.1 bt370.2.1 bt370.2.2).bind fun t378 => (if t378 = true then ((engrossref1_MayVal.f bt373.1 bt373.2.1 bt373.2.2).bind fun t379 => (engrosslaw4_DatumTwins.j0 k (!t379) bt370.1 bt370.2.1 bt370.2.2 bt373.1 bt373.2.1 bt373.2.2)) else (engrosslaw4_DatumTwins.j0 k true bt370.1 bt370.2.1 bt370.2.2 bt373.1 bt373.2.1 bt373.2.2))))) else (none))
theorem engrosslaw4_DatumTwins.mono_l : ∀ k, (∀ y0 y1 y2 y3 y4 y5 y6, LeO (engrosslaw4_DatumTwins.j0 k y0 y1 y2 y3 y4 y5 y6) (engrosslaw4_DatumTwins.j0 (k + 1) y0 y1 y2 y3 y4 y5 y6))
  | 0 => fun _ _ _ _ _ _ _ r h => by simp [engrosslaw4_DatumTwins.j0] at h
  | k + 1 => by
    have ih0 := engrosslaw4_DatumTwins.mono_l k
    · intro y0 y1 y2 y3 y4 y5 y6
      unfold engrosslaw4_DatumTwins.j0
      repeat' first
      | (with_reducible exact ih0 _ _ _ _ _ _ _)
      | (with_reducible exact datum_Put.mono _ _ _ _ _)
      | (with_reducible exact engrosslaw4_begun.mono _)
      | (with_reducible exact LeO.refl _)
      | (with_reducible exact LeO.none _)
      | (with_reducible refine LeO.ite ?_ ?_)
      | (with_reducible refine LeO.bind ?_ (fun _ => ?_))
      | exact ih0 _ _ _ _ _ _ _
      | exact datum_Put.mono _ _ _ _ _
      | exact engrosslaw4_begun.mono _
      | exact LeO.none _
      | refine LeO.ite ?_ ?_
      | refine LeO.bind ?_ (fun _ => ?_)
theorem engrosslaw4_DatumTwins.mono : ∀ a0 a1 a2 a3 a4 a5 k, LeO (engrosslaw4_DatumTwins.f k a0 a1 a2 a3 a4 a5) (engrosslaw4_DatumTwins.f (k + 1) a0 a1 a2 a3 a4 a5) := by
  intro a0 a1 a2 a3 a4 a5 k
  have ih0 := engrosslaw4_DatumTwins.mono_l k
  unfold engrosslaw4_DatumTwins.f
  repeat' first
      | (with_reducible exact ih0 _ _ _ _ _ _ _)
      | (with_reducible exact datum_Put.mono _ _ _ _ _)
      | (with_reducible exact engrosslaw4_begun.mono _)
      | (with_reducible exact LeO.refl _)
      | (with_reducible exact LeO.none _)
      | (with_reducible refine LeO.ite ?_ ?_)
      | (with_reducible refine LeO.bind ?_ (fun _ => ?_))
      | exact ih0 _ _ _ _ _ _ _
      | exact datum_Put.mono _ _ _ _ _
      | exact engrosslaw4_begun.mono _
      | exact LeO.none _
      | refine LeO.ite ?_ ?_
      | refine LeO.bind ?_ (fun _ => ?_)
def engrosslaw4_DatumTwins.T7 : Bool × List (List Nat × List Nat) := (true, [([], []), ([0], [0]), ([1], [1]), ([], []), ([3, 1], [3]), ([4], [4]), ([2, 5], [2, 5]), ([], []), ([], []), ([7, 8, 4], [7, 8]), ([6, 9], [6, 9]), ([10, 9], [10]), ([11], [11]), ([11], [11]), ([12, 13, 11, 11], [11, 12, 13]), ([11], [11]), ([11], [11]), ([15, 16, 14, 11], [11, 15, 16]), ([14, 17, 11], [11, 14, 17]), ([11, 18], [11, 18]), ([19, 17, 0, 1, 2, 3, 4, 5, 6, 7, 8, 9, 10, 11, 12, 13, 14, 15, 16, 17, 18, 19], [19])])
def engrosslaw4_DatumTwins.B7 : List Nat := [0, 1, 3, 0, 11, 27, 63, 0, 0, 411, 1023, 2047, 4095, 4095, 16383, 4095, 4095, 131071, 262143, 524287, 1048575]
theorem engrosslaw4_DatumTwins.tab7 : rtab .any (opsOf Try.f6 7) = engrosslaw4_DatumTwins.T7 := by kernel_rfl
theorem engrosslaw4_DatumTwins.bits7 : waitsOk engrosslaw4_DatumTwins.T7.2 engrosslaw4_DatumTwins.B7 = true := by kernel_rfl
set_option maxHeartbeats 8000000 in
set_option maxRecDepth 100000 in
theorem engrosslaw4_DatumTwins.calls (k : Nat) (a0 : Int) (a1 : Int) (a2 : ByteArray) (a3 : Int) (a4 : Int) (a5 : ByteArray) (r : Bool) (w : World) (h : engrosslaw4_DatumTwins.f k a0 a1 a2 a3 a4 a5 = some r) :
    Calls Try.prog 6 #[.int .i64 a0, .int .u64 a1, .string a2, .int .i64 a3, .int .u64 a4, .string a5] w fun e w' => e = .returned (.bool r) ∧ Below w.heap.size w w' := by
  have hu27 := Try.underlying27
  have HB := Aside0.mk (Below.refl w.heap.size w)
  have H : ((engrosslaw4_begun.f k).bind fun t369 => (if t369 = true then ((engrosslaw4_Val.f a0 a1 a2).bind fun bt370 => ((engrosslaw4_Val.f a3 a4 a5).bind fun bt373 => ((engrossref1_MayVal.f bt370.1 bt370.2.1 bt370.2.2).bind fun t378 => (if t378 = true then ((engrossref1_MayVal.f bt373.1 bt373.2.1 bt373.2.2).bind fun t379 => (engrosslaw4_DatumTwins.j0 k (!t379) bt370.1 bt370.2.1 bt370.2.2 bt373.1 bt373.2.1 bt373.2.2)) else (engrosslaw4_DatumTwins.j0 k true bt370.1 bt370.2.1 bt370.2.2 bt373.1 bt373.2.1 bt373.2.2))))) else (none))) = some r := h
  clear h
  replace H := Option.bind_eq_some_iff.mp H
  obtain ⟨t369, A70, H⟩ := H
  replace H : (if t369 = true then ((engrosslaw4_Val.f a0 a1 a2).bind fun bt370 => ((engrosslaw4_Val.f a3 a4 a5).bind fun bt373 => ((engrossref1_MayVal.f bt370.1 bt370.2.1 bt370.2.2).bind fun t378 => (if t378 = true then ((engrossref1_MayVal.f bt373.1 bt373.2.1 bt373.2.2).bind fun t379 => (engrosslaw4_DatumTwins.j0 k (!t379) bt370.1 bt370.2.1 bt370.2.2 bt373.1 bt373.2.1 bt373.2.2)) else (engrosslaw4_DatumTwins.j0 k true bt370.1 bt370.2.1 bt370.2.2 bt373.1 bt373.2.1 bt373.2.2))))) else (none)) = some r := H
  have A7 := Aside0.mk A70
  clear A70
  by_cases c8 : t369 = true
  · subst c8
    have H1 : ((engrosslaw4_Val.f a0 a1 a2).bind fun bt370 => ((engrosslaw4_Val.f a3 a4 a5).bind fun bt373 => ((engrossref1_MayVal.f bt370.1 bt370.2.1 bt370.2.2).bind fun t378 => (if t378 = true then ((engrossref1_MayVal.f bt373.1 bt373.2.1 bt373.2.2).bind fun t379 => (engrosslaw4_DatumTwins.j0 k (!t379) bt370.1 bt370.2.1 bt370.2.2 bt373.1 bt373.2.1 bt373.2.2)) else (engrosslaw4_DatumTwins.j0 k true bt370.1 bt370.2.1 bt370.2.2 bt373.1 bt373.2.1 bt373.2.2))))) = some r := by rw [if_pos rfl] at H; exact H
    clear H
    have H := H1
    clear H1
    replace H := Option.bind_eq_some_iff.mp H
    obtain ⟨⟨t370, t371, t372⟩, A90, H⟩ := H
    replace H : ((engrosslaw4_Val.f a3 a4 a5).bind fun bt373 => ((engrossref1_MayVal.f t370 t371 t372).bind fun t378 => (if t378 = true then ((engrossref1_MayVal.f bt373.1 bt373.2.1 bt373.2.2).bind fun t379 => (engrosslaw4_DatumTwins.j0 k (!t379) t370 t371 t372 bt373.1 bt373.2.1 bt373.2.2)) else (engrosslaw4_DatumTwins.j0 k true t370 t371 t372 bt373.1 bt373.2.1 bt373.2.2)))) = some r := H
    have A9 := Aside0.mk A90
    clear A90
    replace H := Option.bind_eq_some_iff.mp H
    obtain ⟨⟨t373, t374, t375⟩, A100, H⟩ := H
    replace H : ((engrossref1_MayVal.f t370 t371 t372).bind fun t378 => (if t378 = true then ((engrossref1_MayVal.f t373 t374 t375).bind fun t379 => (engrosslaw4_DatumTwins.j0 k (!t379) t370 t371 t372 t373 t374 t375)) else (engrosslaw4_DatumTwins.j0 k true t370 t371 t372 t373 t374 t375))) = some r := H
    have A10 := Aside0.mk A100
    clear A100
    have HC11 := Aside0.mk H
    clear H
    go_enter Try.func6, Try.ntmps6
    go_upto_region 5 with (first | ((with_reducible refine gate_callee (f := 10) rfl ?_); refine goesL_ (some 16) rfl rfl Try.func10 (by kernel_rfl) rfl #[] rfl (by (try simp only [List.map_toArray, List.map_cons, List.map_nil]); first | done | rfl | (simp only [List.length_drop, List.length_take]; rfl)) ?_; (with_reducible refine (engrosslaw4_begun.calls k  true _ A7.out).mono ?_); rintro e w12 ⟨rfl, hb⟩; refine ⟨_, rfl, ?_⟩; have n0_ := Aside0.mk (below_step (by repeat (first | (with_reducible first | exact HB.out | apply below_alloc | apply pw_below_drewN | apply below_drew1) | exact HB.out)) hb); clear HB; have HB := n0_; clear n0_; (try clear hb); (try clear hb2); (try clear hk); (try clear hi)) | ((with_reducible refine gate_callee (f := 11) rfl ?_); refine goesL_ (some 22) rfl rfl Try.func11 (by kernel_rfl) rfl #[.int .i64 a0, .int .u64 a1, .string a2] rfl (by (try simp only [List.map_toArray, List.map_cons, List.map_nil]); first | done | rfl | (simp only [List.length_drop, List.length_take]; rfl)) ?_; (with_reducible refine (engrosslaw4_Val.calls a0 a1 a2 t370 t371 t372 _ A9.out).mono ?_); rintro e w13 ⟨rfl, hb⟩; refine ⟨_, rfl, ?_⟩; have n0_ := Aside0.mk (below_step (by repeat (first | (with_reducible first | exact HB.out | apply below_alloc | apply pw_below_drewN | apply below_drew1) | exact HB.out)) hb); clear HB; have HB := n0_; clear n0_; (try clear hb); (try clear hb2); (try clear hk); (try clear hi)) | ((with_reducible refine gate_callee (f := 11) rfl ?_); refine goesL_ (some 26) rfl rfl Try.func11 (by kernel_rfl) rfl #[.int .i64 a3, .int .u64 a4, .string a5] rfl (by (try simp only [List.map_toArray, List.map_cons, List.map_nil]); first | done | rfl | (simp only [List.length_drop, List.length_take]; rfl)) ?_; (with_reducible refine (engrosslaw4_Val.calls a3 a4 a5 t373 t374 t375 _ A10.out).mono ?_); rintro e w14 ⟨rfl, hb⟩; refine ⟨_, rfl, ?_⟩; have n0_ := Aside0.mk (below_step (by repeat (first | (with_reducible first | exact HB.out | apply below_alloc | apply pw_below_drewN | apply below_drew1) | exact HB.out)) hb); clear HB; have HB := n0_; clear n0_; (try clear hb); (try clear hb2); (try clear hk); (try clear hi)) | ((with_reducible refine gate_dst (N := 14) rfl ?_); refine box_event ?hg (N := 14) ?hd (cs := #[.int .i64 0, .float .f64 0, .string (⟨#[]⟩ : ByteArray)]) (t := 27) ?hr ?_; (case hd => rfl); (case hg => rfl); (case hr => first | (go_simp; done) | (go_simp; rfl)); intro gb376 hg w15 hbox hb; have n0_ := Aside0.mk (below_step (by repeat (first | (with_reducible first | exact HB.out | apply below_alloc | apply pw_below_drewN | apply below_drew1) | exact HB.out)) hb); have n1_ := Aside0.mk (hbox); have n2_ := Aside0.mk ((by rw [hg]; exact (below_size (by repeat (first | (with_reducible first | exact HB.out | apply below_alloc | apply pw_below_drewN | apply below_drew1) | exact HB.out))) : w.heap.size ≤ gb376)); have n3_ := Aside0.mk ((by rw [hg]; exact (below_size (by repeat (first | (with_reducible first | exact HB.out | apply below_alloc | apply pw_below_drewN | apply below_drew1) | exact HB.out))) : w.heap.size ≤ gb376)); clear HB; have HB := n0_; have BK376 := n1_; have GW376 := n2_; have GE376 := n3_; clear n0_ n1_ n2_ n3_; clear hb hbox hg) | ((with_reducible refine gate_dst (N := 15) rfl ?_); refine box_event ?hg (N := 15) ?hd (cs := #[.int .i64 0, .float .f64 0, .string (⟨#[]⟩ : ByteArray)]) (t := 27) ?hr ?_; (case hd => rfl); (case hg => rfl); (case hr => first | (go_simp; done) | (go_simp; rfl)); intro gb377 hg w16 hbox hb; have n0_ := Aside0.mk (blk_below (g := gb376) (o := .cells #[.int .i64 0, .float .f64 0, .string (⟨#[]⟩ : ByteArray)] 27 (0, 0)) (by (with_reducible repeat (first | refine blk_drewN ?_ _ | refine blk_drew ?_ | refine blk_alloc ?_ _)); exact BK376.out) hb); have n1_ := Aside0.mk (below_step (by repeat (first | (with_reducible first | exact HB.out | apply below_alloc | apply pw_below_drewN | apply below_drew1 | refine below_set ?_ GE376.out) | exact HB.out)) hb); have n2_ := Aside0.mk (hbox); have n3_ := Aside0.mk ((by rw [hg]; exact (below_size (by repeat (first | (with_reducible first | exact HB.out | apply below_alloc | apply pw_below_drewN | apply below_drew1 | refine below_set ?_ GE376.out) | exact HB.out))) : w.heap.size ≤ gb377)); have n4_ := Aside0.mk ((by rw [hg]; exact (below_size (by repeat (first | (with_reducible first | exact HB.out | apply below_alloc | apply pw_below_drewN | apply below_drew1 | refine below_set ?_ GE376.out) | exact HB.out))) : w.heap.size ≤ gb377)); have n5_ := Aside0.mk ((by rw [hg]; exact Nat.ne_of_lt (blk_lt (g := gb376) (o := .cells #[.int .i64 0, .float .f64 0, .string (⟨#[]⟩ : ByteArray)] 27 (0, 0)) (by (with_reducible repeat (first | refine blk_drewN ?_ _ | refine blk_drew ?_ | refine blk_alloc ?_ _)); exact BK376.out)) : gb376 ≠ gb377)); have n6_ := Aside0.mk ((by rw [hg]; exact Nat.ne_of_gt (blk_lt (g := gb376) (o := .cells #[.int .i64 0, .float .f64 0, .string (⟨#[]⟩ : ByteArray)] 27 (0, 0)) (by (with_reducible repeat (first | refine blk_drewN ?_ _ | refine blk_drew ?_ | refine blk_alloc ?_ _)); exact BK376.out)) : gb377 ≠ gb376)); clear BK376; clear HB; have BK376 := n0_; have HB := n1_; have BK377 := n2_; have GW377 := n3_; have GE377 := n4_; have NB376_377 := n5_; have NB377_376 := n6_; clear n0_ n1_ n2_ n3_ n4_ n5_ n6_; clear hb hbox hg; have hnb17 := NB376_377.out; have hnc17 := NB377_376.out; have hcz18_0 : w16.cell? ⟨gb376, 0, none⟩ = some (.int .i64 0) := (blk_cell BK376.out 0).trans rfl; have hcz18_1 : w16.cell? ⟨gb376, 1, none⟩ = some (.float .f64 0) := (blk_cell BK376.out 1).trans rfl; have hcz18_2 : w16.cell? ⟨gb376, 2, none⟩ = some (.string (⟨#[]⟩ : ByteArray)) := (blk_cell BK376.out 2).trans rfl; have hfz18_0 := blk_frozen BK376.out 0; have hfz18_1 := blk_frozen BK376.out 1; have hfz18_2 := blk_frozen BK376.out 2; have hcz19_0 : w16.cell? ⟨gb377, 0, none⟩ = some (.int .i64 0) := (blk_cell BK377.out 0).trans rfl; have hcz19_1 : w16.cell? ⟨gb377, 1, none⟩ = some (.float .f64 0) := (blk_cell BK377.out 1).trans rfl; have hcz19_2 : w16.cell? ⟨gb377, 2, none⟩ = some (.string (⟨#[]⟩ : ByteArray)) := (blk_cell BK377.out 2).trans rfl; have hfz19_0 := blk_frozen BK377.out 0; have hfz19_1 := blk_frozen BK377.out 1; have hfz19_2 := blk_frozen BK377.out 2))
    (try simp only [Act.put, List.setIfInBounds_toArray, List.set_cons_zero, List.set_cons_succ])
    go_cut [34] (fun v34 wc => ∃ (kq : Nat) (x34_10 : Bool), v34 = .bool x34_10 ∧ Aside0 (engrosslaw4_DatumTwins.j0 kq x34_10 t370 t371 t372 t373 t374 t375 = some r) ∧ Aside0 (kq ≤ k) ∧ Aside0 (wc.heap[gb376]? = some (.cells #[.int .i64 t370, .float .f64 t371, .string t372] 27 (0, 0))) ∧ Aside0 (wc.heap[gb377]? = some (.cells #[.int .i64 t373, .float .f64 t374, .string t375] 27 (0, 0))) ∧ Aside0 (Below w.heap.size w wc))
    case first =>
      have H := HC11.out
      clear HC11
      replace H := Option.bind_eq_some_iff.mp H
      obtain ⟨t378, A200, H⟩ := H
      replace H : (if t378 = true then ((engrossref1_MayVal.f t373 t374 t375).bind fun t379 => (engrosslaw4_DatumTwins.j0 k (!t379) t370 t371 t372 t373 t374 t375)) else (engrosslaw4_DatumTwins.j0 k true t370 t371 t372 t373 t374 t375)) = some r := H
      have A20 := Aside0.mk A200
      clear A200
      by_cases c21 : t378 = true
      · subst c21
        have H1 : ((engrossref1_MayVal.f t373 t374 t375).bind fun t379 => (engrosslaw4_DatumTwins.j0 k (!t379) t370 t371 t372 t373 t374 t375)) = some r := by rw [if_pos rfl] at H; exact H
        clear H
        have H := H1
        clear H1
        replace H := Option.bind_eq_some_iff.mp H
        obtain ⟨t379, A220, H⟩ := H
        replace H : (engrosslaw4_DatumTwins.j0 k (!t379) t370 t371 t372 t373 t374 t375) = some r := H
        have A22 := Aside0.mk A220
        clear A220
        have H' := Aside0.mk H
        clear H
        have hnb23 := NB376_377.out
        have hnc23 := NB377_376.out
        have hcz24_0 : w16.cell? ⟨gb376, 0, none⟩ = some (.int .i64 0) := (blk_cell BK376.out 0).trans rfl
        have hcz24_1 : w16.cell? ⟨gb376, 1, none⟩ = some (.float .f64 0) := (blk_cell BK376.out 1).trans rfl
        have hcz24_2 : w16.cell? ⟨gb376, 2, none⟩ = some (.string (⟨#[]⟩ : ByteArray)) := (blk_cell BK376.out 2).trans rfl
        have hfz24_0 := blk_frozen BK376.out 0
        have hfz24_1 := blk_frozen BK376.out 1
        have hfz24_2 := blk_frozen BK376.out 2
        go_wp2_with (first | ((with_reducible refine gate_callee (f := 14) rfl ?_); refine goesL_ (some 28) rfl rfl Try.func14 (by kernel_rfl) rfl #[.agg #[.int .i64 t370, .float .f64 t371, .string t372]] rfl (by (try simp only [List.map_toArray, List.map_cons, List.map_nil]); first | done | rfl | (simp only [List.length_drop, List.length_take]; rfl)) ?_; (with_reducible refine (engrossref1_MayVal.calls t370 t371 t372 true _ A20.out).mono ?_); rintro e w25 ⟨rfl, hb⟩; refine ⟨_, rfl, ?_⟩; have n0_ := Aside0.mk (blk_below (g := gb376) (o := .cells #[.int .i64 t370, .float .f64 t371, .string t372] 27 (0, 0)) (by (with_reducible repeat (first | refine blk_drewN ?_ _ | refine blk_drew ?_ | refine blk_alloc ?_ _)); refine blk_far ?_ NB376_377.out _; (with_reducible repeat (first | refine blk_drewN ?_ _ | refine blk_drew ?_ | refine blk_alloc ?_ _)); refine blk_far ?_ NB376_377.out _; (with_reducible repeat (first | refine blk_drewN ?_ _ | refine blk_drew ?_ | refine blk_alloc ?_ _)); refine blk_far ?_ NB376_377.out _; (with_reducible repeat (first | refine blk_drewN ?_ _ | refine blk_drew ?_ | refine blk_alloc ?_ _)); refine blk_put (cs := #[.int .i64 t370, .float .f64 t371, .string (⟨#[]⟩ : ByteArray)]) ?_ 2 _ rfl; (with_reducible repeat (first | refine blk_drewN ?_ _ | refine blk_drew ?_ | refine blk_alloc ?_ _)); refine blk_put (cs := #[.int .i64 t370, .float .f64 0, .string (⟨#[]⟩ : ByteArray)]) ?_ 1 _ rfl; (with_reducible repeat (first | refine blk_drewN ?_ _ | refine blk_drew ?_ | refine blk_alloc ?_ _)); refine blk_put (cs := #[.int .i64 0, .float .f64 0, .string (⟨#[]⟩ : ByteArray)]) ?_ 0 _ rfl; (with_reducible repeat (first | refine blk_drewN ?_ _ | refine blk_drew ?_ | refine blk_alloc ?_ _)); exact BK376.out) hb); have n1_ := Aside0.mk (blk_below (g := gb377) (o := .cells #[.int .i64 t373, .float .f64 t374, .string t375] 27 (0, 0)) (by (with_reducible repeat (first | refine blk_drewN ?_ _ | refine blk_drew ?_ | refine blk_alloc ?_ _)); refine blk_put (cs := #[.int .i64 t373, .float .f64 t374, .string (⟨#[]⟩ : ByteArray)]) ?_ 2 _ rfl; (with_reducible repeat (first | refine blk_drewN ?_ _ | refine blk_drew ?_ | refine blk_alloc ?_ _)); refine blk_put (cs := #[.int .i64 t373, .float .f64 0, .string (⟨#[]⟩ : ByteArray)]) ?_ 1 _ rfl; (with_reducible repeat (first | refine blk_drewN ?_ _ | refine blk_drew ?_ | refine blk_alloc ?_ _)); refine blk_put (cs := #[.int .i64 0, .float .f64 0, .string (⟨#[]⟩ : ByteArray)]) ?_ 0 _ rfl; (with_reducible repeat (first | refine blk_drewN ?_ _ | refine blk_drew ?_ | refine blk_alloc ?_ _)); refine blk_far ?_ NB377_376.out _; (with_reducible repeat (first | refine blk_drewN ?_ _ | refine blk_drew ?_ | refine blk_alloc ?_ _)); refine blk_far ?_ NB377_376.out _; (with_reducible repeat (first | refine blk_drewN ?_ _ | refine blk_drew ?_ | refine blk_alloc ?_ _)); refine blk_far ?_ NB377_376.out _; (with_reducible repeat (first | refine blk_drewN ?_ _ | refine blk_drew ?_ | refine blk_alloc ?_ _)); exact BK377.out) hb); have n2_ := Aside0.mk (below_step (by repeat (first | (with_reducible first | exact HB.out | apply below_alloc | apply pw_below_drewN | apply below_drew1 | refine below_set ?_ GE376.out | refine below_set ?_ GE377.out) | exact HB.out)) hb); clear BK376; clear BK377; clear HB; have BK376 := n0_; have BK377 := n1_; have HB := n2_; clear n0_ n1_ n2_; (try clear hb); (try clear hb2); (try clear hk); (try clear hi); have hcz26_0 : w25.cell? ⟨gb377, 0, none⟩ = some (.int .i64 t373) := (blk_cell BK377.out 0).trans rfl; have hcz26_1 : w25.cell? ⟨gb377, 1, none⟩ = some (.float .f64 t374) := (blk_cell BK377.out 1).trans rfl; have hcz26_2 : w25.cell? ⟨gb377, 2, none⟩ = some (.string t375) := (blk_cell BK377.out 2).trans rfl; have hfz26_0 := blk_frozen BK377.out 0; have hfz26_1 := blk_frozen BK377.out 1; have hfz26_2 := blk_frozen BK377.out 2) | (go_at_call 14; (with_reducible refine (engrossref1_MayVal.calls t373 t374 t375 t379 _ A22.out).mono ?_); rintro e w27 ⟨rfl, hb⟩; have n0_ := Aside0.mk (blk_below (g := gb376) (o := .cells #[.int .i64 t370, .float .f64 t371, .string t372] 27 (0, 0)) (by (with_reducible repeat (first | refine blk_drewN ?_ _ | refine blk_drew ?_ | refine blk_alloc ?_ _)); exact BK376.out) hb); have n1_ := Aside0.mk (blk_below (g := gb377) (o := .cells #[.int .i64 t373, .float .f64 t374, .string t375] 27 (0, 0)) (by (with_reducible repeat (first | refine blk_drewN ?_ _ | refine blk_drew ?_ | refine blk_alloc ?_ _)); exact BK377.out) hb); have n2_ := Aside0.mk (below_step (by repeat (first | (with_reducible first | exact HB.out | apply below_alloc | apply pw_below_drewN | apply below_drew1 | refine below_set ?_ GE376.out | refine below_set ?_ GE377.out) | exact HB.out)) hb); clear BK376; clear BK377; clear HB; have BK376 := n0_; have BK377 := n1_; have HB := n2_; clear n0_ n1_ n2_; (try clear hb); (try clear hb2); (try clear hk); (try clear hi)))
        go_meet
        case rel => exact ⟨_, (!t379), (by first | rfl | (simp; done) | (simp [*]; done)), H', ⟨by first | omega | exact Nat.le_refl _⟩, ⟨by (with_reducible repeat (first | refine blk_drewN ?_ _ | refine blk_drew ?_ | refine blk_alloc ?_ _)); exact BK376.out⟩, ⟨by (with_reducible repeat (first | refine blk_drewN ?_ _ | refine blk_drew ?_ | refine blk_alloc ?_ _)); exact BK377.out⟩, ⟨by repeat (first | (with_reducible first | exact HB.out | apply below_alloc | apply pw_below_drewN | apply below_drew1 | refine below_set ?_ GE376.out | refine below_set ?_ GE377.out) | exact HB.out)⟩⟩
      · replace c21 := Bool.eq_false_iff.mpr c21
        subst c21
        have H1 : (engrosslaw4_DatumTwins.j0 k true t370 t371 t372 t373 t374 t375) = some r := by rw [if_neg (show ¬ (false = true) by decide)] at H; exact H
        clear H
        have H := H1
        clear H1
        have H' := Aside0.mk H
        clear H
        have hnb28 := NB376_377.out
        have hnc28 := NB377_376.out
        have hcz29_0 : w16.cell? ⟨gb376, 0, none⟩ = some (.int .i64 0) := (blk_cell BK376.out 0).trans rfl
        have hcz29_1 : w16.cell? ⟨gb376, 1, none⟩ = some (.float .f64 0) := (blk_cell BK376.out 1).trans rfl
        have hcz29_2 : w16.cell? ⟨gb376, 2, none⟩ = some (.string (⟨#[]⟩ : ByteArray)) := (blk_cell BK376.out 2).trans rfl
        have hfz29_0 := blk_frozen BK376.out 0
        have hfz29_1 := blk_frozen BK376.out 1
        have hfz29_2 := blk_frozen BK376.out 2
        go_wp2_with (first | ((with_reducible refine gate_callee (f := 14) rfl ?_); refine goesL_ (some 28) rfl rfl Try.func14 (by kernel_rfl) rfl #[.agg #[.int .i64 t370, .float .f64 t371, .string t372]] rfl (by (try simp only [List.map_toArray, List.map_cons, List.map_nil]); first | done | rfl | (simp only [List.length_drop, List.length_take]; rfl)) ?_; (with_reducible refine (engrossref1_MayVal.calls t370 t371 t372 false _ A20.out).mono ?_); rintro e w30 ⟨rfl, hb⟩; refine ⟨_, rfl, ?_⟩; have n0_ := Aside0.mk (blk_below (g := gb376) (o := .cells #[.int .i64 t370, .float .f64 t371, .string t372] 27 (0, 0)) (by (with_reducible repeat (first | refine blk_drewN ?_ _ | refine blk_drew ?_ | refine blk_alloc ?_ _)); refine blk_far ?_ NB376_377.out _; (with_reducible repeat (first | refine blk_drewN ?_ _ | refine blk_drew ?_ | refine blk_alloc ?_ _)); refine blk_far ?_ NB376_377.out _; (with_reducible repeat (first | refine blk_drewN ?_ _ | refine blk_drew ?_ | refine blk_alloc ?_ _)); refine blk_far ?_ NB376_377.out _; (with_reducible repeat (first | refine blk_drewN ?_ _ | refine blk_drew ?_ | refine blk_alloc ?_ _)); refine blk_put (cs := #[.int .i64 t370, .float .f64 t371, .string (⟨#[]⟩ : ByteArray)]) ?_ 2 _ rfl; (with_reducible repeat (first | refine blk_drewN ?_ _ | refine blk_drew ?_ | refine blk_alloc ?_ _)); refine blk_put (cs := #[.int .i64 t370, .float .f64 0, .string (⟨#[]⟩ : ByteArray)]) ?_ 1 _ rfl; (with_reducible repeat (first | refine blk_drewN ?_ _ | refine blk_drew ?_ | refine blk_alloc ?_ _)); refine blk_put (cs := #[.int .i64 0, .float .f64 0, .string (⟨#[]⟩ : ByteArray)]) ?_ 0 _ rfl; (with_reducible repeat (first | refine blk_drewN ?_ _ | refine blk_drew ?_ | refine blk_alloc ?_ _)); exact BK376.out) hb); have n1_ := Aside0.mk (blk_below (g := gb377) (o := .cells #[.int .i64 t373, .float .f64 t374, .string t375] 27 (0, 0)) (by (with_reducible repeat (first | refine blk_drewN ?_ _ | refine blk_drew ?_ | refine blk_alloc ?_ _)); refine blk_put (cs := #[.int .i64 t373, .float .f64 t374, .string (⟨#[]⟩ : ByteArray)]) ?_ 2 _ rfl; (with_reducible repeat (first | refine blk_drewN ?_ _ | refine blk_drew ?_ | refine blk_alloc ?_ _)); refine blk_put (cs := #[.int .i64 t373, .float .f64 0, .string (⟨#[]⟩ : ByteArray)]) ?_ 1 _ rfl; (with_reducible repeat (first | refine blk_drewN ?_ _ | refine blk_drew ?_ | refine blk_alloc ?_ _)); refine blk_put (cs := #[.int .i64 0, .float .f64 0, .string (⟨#[]⟩ : ByteArray)]) ?_ 0 _ rfl; (with_reducible repeat (first | refine blk_drewN ?_ _ | refine blk_drew ?_ | refine blk_alloc ?_ _)); refine blk_far ?_ NB377_376.out _; (with_reducible repeat (first | refine blk_drewN ?_ _ | refine blk_drew ?_ | refine blk_alloc ?_ _)); refine blk_far ?_ NB377_376.out _; (with_reducible repeat (first | refine blk_drewN ?_ _ | refine blk_drew ?_ | refine blk_alloc ?_ _)); refine blk_far ?_ NB377_376.out _; (with_reducible repeat (first | refine blk_drewN ?_ _ | refine blk_drew ?_ | refine blk_alloc ?_ _)); exact BK377.out) hb); have n2_ := Aside0.mk (below_step (by repeat (first | (with_reducible first | exact HB.out | apply below_alloc | apply pw_below_drewN | apply below_drew1 | refine below_set ?_ GE376.out | refine below_set ?_ GE377.out) | exact HB.out)) hb); clear BK376; clear BK377; clear HB; have BK376 := n0_; have BK377 := n1_; have HB := n2_; clear n0_ n1_ n2_; (try clear hb); (try clear hb2); (try clear hk); (try clear hi)))
        go_meet
        case rel => exact ⟨_, (true), (by first | rfl | (simp; done) | (simp [*]; done)), H', ⟨by first | omega | exact Nat.le_refl _⟩, ⟨by (with_reducible repeat (first | refine blk_drewN ?_ _ | refine blk_drew ?_ | refine blk_alloc ?_ _)); exact BK376.out⟩, ⟨by (with_reducible repeat (first | refine blk_drewN ?_ _ | refine blk_drew ?_ | refine blk_alloc ?_ _)); exact BK377.out⟩, ⟨by repeat (first | (with_reducible first | exact HB.out | apply below_alloc | apply pw_below_drewN | apply below_drew1 | refine below_set ?_ GE376.out | refine below_set ?_ GE377.out) | exact HB.out)⟩⟩
    case rest =>
      clear HC11
      try clear c1
      try clear c2
      try clear p2
      try clear c6
      try clear c8
      try clear c10
      try clear c11
      try clear c14
      try clear c17
      try clear c21
      try clear c23
      try clear c28
      try clear hcz18_0
      try clear hcz18_1
      try clear hcz18_2
      try clear hcz19_0
      try clear hcz19_1
      try clear hcz19_2
      try clear hcz24_0
      try clear hcz24_1
      try clear hcz24_2
      try clear hcz26_0
      try clear hcz26_1
      try clear hcz26_2
      try clear hcz29_0
      try clear hcz29_1
      try clear hcz29_2
      try clear hfz18_0
      try clear hfz18_1
      try clear hfz18_2
      try clear hfz19_0
      try clear hfz19_1
      try clear hfz19_2
      try clear hfz24_0
      try clear hfz24_1
      try clear hfz24_2
      try clear hfz26_0
      try clear hfz26_1
      try clear hfz26_2
      try clear hfz29_0
      try clear hfz29_1
      try clear hfz29_2
      obtain ⟨kq, x34_10, rfl, HA, HJ10, BK376, BK377, HB⟩ := hcut
      cases kq with
      | zero => exact absurd HA.out (by simp [engrosslaw4_DatumTwins.j0])
      | succ kj10 =>
        have H := HA.out
        clear HA
        simp only [engrosslaw4_DatumTwins.j0] at H
        by_cases c31 : x34_10 = true
        · subst c31
          have H1 : (some true) = some r := by rw [if_pos rfl] at H; exact H
          clear H
          have H := H1
          clear H1
          obtain rfl := Option.some.inj H
          go_wp2
          go_ret
          exact ⟨by first | rfl | (simp [errW_none, errW_some] <;> rfl) | (simp [*, errW_none, errW_some] <;> rfl), by repeat (first | (with_reducible first | exact HB.out | apply below_alloc | apply pw_below_drewN | apply below_drew1 | refine below_set ?_ GE376.out | refine below_set ?_ GE377.out) | exact HB.out)⟩
        · replace c31 := Bool.eq_false_iff.mpr c31
          subst c31
          have H1 : ((datum_Put.f kj10 ([] : List Int) t370 t371 t372).bind fun t380 => ((datum_Put.f kj10 ([] : List Int) t373 t374 t375).bind fun t383 => ((datum_Eq.f t370 t371 t372 t373 t374 t375).bind fun t386 => (if (((strOfNums t380).toList == (strOfNums t383).toList) == t386) = true then ((datum_Eq.f t370 t371 t372 t373 t374 t375).bind fun t387 => ((datum_Eq.f t373 t374 t375 t370 t371 t372).bind fun t388 => (some (t387 == t388)))) else (none))))) = some r := by rw [if_neg (show ¬ (false = true) by decide)] at H; exact H
          clear H
          have H := H1
          clear H1
          replace H := Option.bind_eq_some_iff.mp H
          obtain ⟨t380, A320, H⟩ := H
          replace H : ((datum_Put.f kj10 ([] : List Int) t373 t374 t375).bind fun t383 => ((datum_Eq.f t370 t371 t372 t373 t374 t375).bind fun t386 => (if (((strOfNums t380).toList == (strOfNums t383).toList) == t386) = true then ((datum_Eq.f t370 t371 t372 t373 t374 t375).bind fun t387 => ((datum_Eq.f t373 t374 t375 t370 t371 t372).bind fun t388 => (some (t387 == t388)))) else (none)))) = some r := H
          have A32 := Aside0.mk A320
          clear A320
          replace H := Option.bind_eq_some_iff.mp H
          obtain ⟨t383, A330, H⟩ := H
          replace H : ((datum_Eq.f t370 t371 t372 t373 t374 t375).bind fun t386 => (if (((strOfNums t380).toList == (strOfNums t383).toList) == t386) = true then ((datum_Eq.f t370 t371 t372 t373 t374 t375).bind fun t387 => ((datum_Eq.f t373 t374 t375 t370 t371 t372).bind fun t388 => (some (t387 == t388)))) else (none))) = some r := H
          have A33 := Aside0.mk A330
          clear A330
          replace H := Option.bind_eq_some_iff.mp H
          obtain ⟨t386, A340, H⟩ := H
          replace H : (if (((strOfNums t380).toList == (strOfNums t383).toList) == t386) = true then ((datum_Eq.f t370 t371 t372 t373 t374 t375).bind fun t387 => ((datum_Eq.f t373 t374 t375 t370 t371 t372).bind fun t388 => (some (t387 == t388)))) else (none)) = some r := H
          have A34 := Aside0.mk A340
          clear A340
          by_cases c35 : (((strOfNums t380).toList == (strOfNums t383).toList) == t386) = true
          · rw [if_pos c35] at H
            have c35b0 : (((strOfNums t380).toList == (strOfNums t383).toList) == t386) = true := c35
            (try (have c35b1 : decide (((strOfNums t380).toList == (strOfNums t383).toList) = t386) = true := by simpa using c35))
            (try (have c35b2 : (((strOfNums t380).toList == (strOfNums t383).toList) == t386) = true := by simpa using c35))
            clear c35
            replace H := Option.bind_eq_some_iff.mp H
            obtain ⟨t387, A360, H⟩ := H
            replace H : ((datum_Eq.f t373 t374 t375 t370 t371 t372).bind fun t388 => (some (t387 == t388))) = some r := H
            have A36 := Aside0.mk A360
            clear A360
            have EA36 := Option.some.inj (A34.out.symm.trans A36.out)
            subst EA36
            replace H := Option.bind_eq_some_iff.mp H
            obtain ⟨t388, A370, H⟩ := H
            replace H : (some (t386 == t388)) = some r := H
            have A37 := Aside0.mk A370
            clear A370
            obtain rfl := Option.some.inj H
            try go_wp2
            have n0_ := Aside0.mk (blk_drew BK376.out)
            have n1_ := Aside0.mk (blk_drew BK377.out)
            have n2_ := Aside0.mk (below_drew1 HB.out)
            clear BK376
            clear BK377
            clear HB
            have BK376 := n0_
            have BK377 := n1_
            have HB := n2_
            clear n0_ n1_ n2_
            refine start_ (n := 21) (S := fun w' => w'.cell? ⟨gb376, 0, none⟩ = some (.int .i64 t370) ∧ w'.cell? ⟨gb376, 1, none⟩ = some (.float .f64 t371) ∧ w'.cell? ⟨gb376, 2, none⟩ = some (.string t372) ∧ w'.cell? ⟨gb377, 0, none⟩ = some (.int .i64 t373) ∧ w'.cell? ⟨gb377, 1, none⟩ = some (.float .f64 t374) ∧ w'.cell? ⟨gb377, 2, none⟩ = some (.string t375)) (ds := []) #[false, false, false, false, false, false, false, false, false, false, false, false, false, false, false, false, false, false, false, false, false] (by kernel_rfl) rfl rfl ⟨(blk_cell BK376.out 0).trans rfl, (blk_cell BK376.out 1).trans rfl, (blk_cell BK376.out 2).trans rfl, (blk_cell BK377.out 0).trans rfl, (blk_cell BK377.out 1).trans rfl, (blk_cell BK377.out 2).trans rfl⟩ (fun hHeld => ?_); refine with_tabW engrosslaw4_DatumTwins.tab7 engrosslaw4_DatumTwins.bits7 (fun HT_ HW_ => ?_)
            generalize wc.drew = w38 at BK376 BK377 HB hHeld ⊢
            refine take_ (i := 0) (N := some 35) (v := ?_) (a' := ?_) #[true, false, false, false, false, false, false, false, false, false, false, false, false, false, false, false, false, false, false, false, false] rfl rfl (take_ofW HT_.out HW_.out (by kernel_rfl)) (fun _ _ _ h => h) (Or.inl ⟨by rfl, ?_⟩) hHeld ?_ ?_
            rotate_left
            · rintro w' ⟨s0, s1, s2, s3, s4, s5⟩
              go_simp
              with_reducible rfl
            rotate_left
            · simp only [Act.put, List.setIfInBounds_toArray, List.set_cons_zero, List.set_cons_succ, i64_w, i32_w]
              rfl
            refine take_ (i := 3) (N := some 38) (v := ?_) (a' := ?_) #[true, false, false, true, false, false, false, false, false, false, false, false, false, false, false, false, false, false, false, false, false] rfl rfl (take_ofW HT_.out HW_.out (by kernel_rfl)) (fun _ _ _ h => h) (Or.inl ⟨by rfl, ?_⟩) hHeld ?_ ?_
            rotate_left
            · rintro w' ⟨s0, s1, s2, s3, s4, s5⟩
              go_simp
              with_reducible rfl
            rotate_left
            · simp only [Act.put, List.setIfInBounds_toArray, List.set_cons_zero, List.set_cons_succ, i64_w, i32_w]
              rfl
            refine take_ (i := 7) (N := some 42) (v := ?_) (a' := ?_) #[true, false, false, true, false, false, false, true, false, false, false, false, false, false, false, false, false, false, false, false, false] rfl rfl (take_ofW HT_.out HW_.out (by kernel_rfl)) (fun _ _ _ h => h) (Or.inl ⟨by rfl, ?_⟩) hHeld ?_ ?_
            rotate_left
            · rintro w' ⟨s0, s1, s2, s3, s4, s5⟩
              go_simp
              with_reducible rfl
            rotate_left
            · simp only [Act.put, List.setIfInBounds_toArray, List.set_cons_zero, List.set_cons_succ, i64_w, i32_w]
              rfl
            refine take_ (i := 8) (N := some 43) (v := ?_) (a' := ?_) #[true, false, false, true, false, false, false, true, true, false, false, false, false, false, false, false, false, false, false, false, false] rfl rfl (take_ofW HT_.out HW_.out (by kernel_rfl)) (fun _ _ _ h => h) (Or.inl ⟨by rfl, ?_⟩) hHeld ?_ ?_
            rotate_left
            · rintro w' ⟨s0, s1, s2, s3, s4, s5⟩
              go_simp
              with_reducible rfl
            rotate_left
            · simp only [Act.put, List.setIfInBounds_toArray, List.set_cons_zero, List.set_cons_succ, i64_w, i32_w]
              rfl
            refine one_ (i := 1) (N := some 36) #[true, true, false, true, false, false, false, true, true, false, false, false, false, false, false, false, false, false, false, false, false] rfl rfl (one_of HT_.out (by kernel_rfl)) (by decide) (fun K hK => ?_)
            refine goes_ Try.func15 (by kernel_rfl) rfl #[.slice none 0 0, .agg #[.int .i64 t370, .float .f64 t371, .string t372]] (by rfl) rfl rfl (by (try simp only [List.map_toArray, List.map_cons, List.map_nil]); first | done | rfl | (simp only [List.length_drop, List.length_take]; rfl)) ?_
            refine (datum_Put.calls kj10 (fun k_ => some k_ = (.slice none 0 0 : Value).ownBlock) (.slice none 0 0) ([] : List Int) t370 t371 t372 t380 w _ ?side1 ?side2 A32.out).mono ?_
            (case side1 => repeat (first | (with_reducible first | exact HB.out | apply below_alloc | apply pw_below_drewN | apply below_drew1 | refine below_set ?_ GE376.out | refine below_set ?_ GE377.out) | exact HB.out))
            (case side2 => exact Kd.R_nil _ _ _ _ _)
            rintro e w39 ⟨v381, rfl, ho0, hb, hkp⟩
            refine ⟨_, rfl, ?_⟩
            have n0_ := Aside0.mk (blk_kept (by (with_reducible repeat (first | refine blk_drewN ?_ _ | refine blk_drew ?_ | refine blk_alloc ?_ _)); exact BK376.out) hkp (fun hs_ => (fun e_ => by simp [Value.ownBlock] at e_) hs_))
            have n1_ := Aside0.mk (blk_kept (by (with_reducible repeat (first | refine blk_drewN ?_ _ | refine blk_drew ?_ | refine blk_alloc ?_ _)); exact BK377.out) hkp (fun hs_ => (fun e_ => by simp [Value.ownBlock] at e_) hs_))
            have n2_ := Aside0.mk (Kd.R_mono (ok' := fun k_ => True) ho0 (fun k_ hk_ => trivial))
            have n3_ := Aside0.mk (hb)
            clear BK376
            clear BK377
            clear HB
            have BK376 := n0_
            have BK377 := n1_
            have HO382 := n2_
            have HB := n3_
            clear n0_ n1_ n2_ n3_
            (try clear hb)
            (try clear hkp)
            (try clear ho0)
            refine hK.out _ _ ⟨(blk_cell BK376.out 0).trans rfl, (blk_cell BK376.out 1).trans rfl, (blk_cell BK376.out 2).trans rfl, (blk_cell BK377.out 0).trans rfl, (blk_cell BK377.out 1).trans rfl, (blk_cell BK377.out 2).trans rfl⟩ (fun hHeld => ?_)
            clear hK K
            refine norm_ (a' := ?_) ?_ ?_
            rotate_left
            · show Act.put _ (some 36) _ = _
              simp only [Act.put, List.setIfInBounds_toArray, List.set_cons_zero, List.set_cons_succ, i64_w, i32_w]
              rfl
            refine join_ (σ := Value) 11 #[true, true, true, true, true, true, true, true, true, true, false, false, false, false, false, false, false, false, false, false, false] (fun s_ => [(37, .string (strOfNums t380)), (39, s_), (40, .string (strOfNums t383)), (44, .bool t386), (41, .bool ((strOfNums t380).toList == (strOfNums t383).toList))]) (fun s_ w' => (w'.cell? ⟨gb376, 0, none⟩ = some (.int .i64 t370) ∧ w'.cell? ⟨gb376, 1, none⟩ = some (.float .f64 t371) ∧ w'.cell? ⟨gb376, 2, none⟩ = some (.string t372) ∧ w'.cell? ⟨gb377, 0, none⟩ = some (.int .i64 t373) ∧ w'.cell? ⟨gb377, 1, none⟩ = some (.float .f64 t374) ∧ w'.cell? ⟨gb377, 2, none⟩ = some (.string t375)) ∧ (Kd.R (Kd.int .u8) 5 w' w.heap.size (fun k_ => some k_ ≠ (s_ : Value).ownBlock) v381 t380) ∧ (Kd.R (Kd.int .u8) 5 w' w.heap.size (fun k_ => some k_ ≠ (v381 : Value).ownBlock) s_ t383) ∧ (w'.heap[gb376]? = some (.cells #[.int .i64 t370, .float .f64 t371, .string t372] 27 (0, 0))) ∧ (w'.heap[gb377]? = some (.cells #[.int .i64 t373, .float .f64 t374, .string t375] 27 (0, 0))) ∧ (Below w.heap.size w w')) ?_ ?_
            rotate_left
            · intro hJ2_4_5_9
              refine join_ (σ := Value) 12 #[true, true, true, true, true, true, true, true, true, false, false, false, false, false, false, false, false, false, false, false, false] (fun s_ => [(37, .string (strOfNums t380)), (39, s_), (40, .string (strOfNums t383)), (41, .bool ((strOfNums t380).toList == (strOfNums t383).toList))]) (fun s_ w' => (w'.cell? ⟨gb376, 0, none⟩ = some (.int .i64 t370) ∧ w'.cell? ⟨gb376, 1, none⟩ = some (.float .f64 t371) ∧ w'.cell? ⟨gb376, 2, none⟩ = some (.string t372) ∧ w'.cell? ⟨gb377, 0, none⟩ = some (.int .i64 t373) ∧ w'.cell? ⟨gb377, 1, none⟩ = some (.float .f64 t374) ∧ w'.cell? ⟨gb377, 2, none⟩ = some (.string t375)) ∧ (Kd.R (Kd.int .u8) 5 w' w.heap.size (fun k_ => some k_ ≠ (s_ : Value).ownBlock) v381 t380) ∧ (Kd.R (Kd.int .u8) 5 w' w.heap.size (fun k_ => some k_ ≠ (v381 : Value).ownBlock) s_ t383) ∧ (w'.heap[gb376]? = some (.cells #[.int .i64 t370, .float .f64 t371, .string t372] 27 (0, 0))) ∧ (w'.heap[gb377]? = some (.cells #[.int .i64 t373, .float .f64 t374, .string t375] 27 (0, 0))) ∧ (Below w.heap.size w w')) ?_ ?_
              rotate_left
              · intro hJ2_4_5
                refine join_ (σ := Value) 13 #[true, true, true, true, true, false, false, true, true, true, false, false, false, false, false, false, false, false, false, false, false] (fun s_ => [(37, .string (strOfNums t380)), (39, s_), (44, .bool t386)]) (fun s_ w' => (w'.cell? ⟨gb376, 0, none⟩ = some (.int .i64 t370) ∧ w'.cell? ⟨gb376, 1, none⟩ = some (.float .f64 t371) ∧ w'.cell? ⟨gb376, 2, none⟩ = some (.string t372) ∧ w'.cell? ⟨gb377, 0, none⟩ = some (.int .i64 t373) ∧ w'.cell? ⟨gb377, 1, none⟩ = some (.float .f64 t374) ∧ w'.cell? ⟨gb377, 2, none⟩ = some (.string t375)) ∧ (Kd.R (Kd.int .u8) 5 w' w.heap.size (fun k_ => some k_ ≠ (s_ : Value).ownBlock) v381 t380) ∧ (Kd.R (Kd.int .u8) 5 w' w.heap.size (fun k_ => some k_ ≠ (v381 : Value).ownBlock) s_ t383) ∧ (w'.heap[gb376]? = some (.cells #[.int .i64 t370, .float .f64 t371, .string t372] 27 (0, 0))) ∧ (w'.heap[gb377]? = some (.cells #[.int .i64 t373, .float .f64 t374, .string t375] 27 (0, 0))) ∧ (Below w.heap.size w w')) ?_ ?_
                rotate_left
                · intro hJ2_4_9
                  refine join_ (σ := Value) 13 #[true, true, false, true, true, true, false, true, true, true, false, false, false, false, false, false, false, false, false, false, false] (fun s_ => [(39, s_), (40, .string (strOfNums t383)), (44, .bool t386)]) (fun s_ w' => (w'.cell? ⟨gb376, 0, none⟩ = some (.int .i64 t370) ∧ w'.cell? ⟨gb376, 1, none⟩ = some (.float .f64 t371) ∧ w'.cell? ⟨gb376, 2, none⟩ = some (.string t372) ∧ w'.cell? ⟨gb377, 0, none⟩ = some (.int .i64 t373) ∧ w'.cell? ⟨gb377, 1, none⟩ = some (.float .f64 t374) ∧ w'.cell? ⟨gb377, 2, none⟩ = some (.string t375)) ∧ (Kd.R (Kd.int .u8) 5 w' w.heap.size (fun k_ => some k_ ≠ (s_ : Value).ownBlock) v381 t380) ∧ (Kd.R (Kd.int .u8) 5 w' w.heap.size (fun k_ => some k_ ≠ (v381 : Value).ownBlock) s_ t383) ∧ (w'.heap[gb376]? = some (.cells #[.int .i64 t370, .float .f64 t371, .string t372] 27 (0, 0))) ∧ (w'.heap[gb377]? = some (.cells #[.int .i64 t373, .float .f64 t374, .string t375] 27 (0, 0))) ∧ (Below w.heap.size w w')) ?_ ?_
                  rotate_left
                  · intro hJ4_5_9
                    refine join_ (σ := Value) 14 #[true, true, true, true, true, false, false, true, true, false, false, false, false, false, false, false, false, false, false, false, false] (fun s_ => [(37, .string (strOfNums t380)), (39, s_)]) (fun s_ w' => (w'.cell? ⟨gb376, 0, none⟩ = some (.int .i64 t370) ∧ w'.cell? ⟨gb376, 1, none⟩ = some (.float .f64 t371) ∧ w'.cell? ⟨gb376, 2, none⟩ = some (.string t372) ∧ w'.cell? ⟨gb377, 0, none⟩ = some (.int .i64 t373) ∧ w'.cell? ⟨gb377, 1, none⟩ = some (.float .f64 t374) ∧ w'.cell? ⟨gb377, 2, none⟩ = some (.string t375)) ∧ (Kd.R (Kd.int .u8) 5 w' w.heap.size (fun k_ => some k_ ≠ (s_ : Value).ownBlock) v381 t380) ∧ (Kd.R (Kd.int .u8) 5 w' w.heap.size (fun k_ => some k_ ≠ (v381 : Value).ownBlock) s_ t383) ∧ (w'.heap[gb376]? = some (.cells #[.int .i64 t370, .float .f64 t371, .string t372] 27 (0, 0))) ∧ (w'.heap[gb377]? = some (.cells #[.int .i64 t373, .float .f64 t374, .string t375] 27 (0, 0))) ∧ (Below w.heap.size w w')) ?_ ?_
                    rotate_left
                    · intro hJ2_4
                      refine join_ (σ := Value) 14 #[true, true, false, true, true, true, false, true, true, false, false, false, false, false, false, false, false, false, false, false, false] (fun s_ => [(39, s_), (40, .string (strOfNums t383))]) (fun s_ w' => (w'.cell? ⟨gb376, 0, none⟩ = some (.int .i64 t370) ∧ w'.cell? ⟨gb376, 1, none⟩ = some (.float .f64 t371) ∧ w'.cell? ⟨gb376, 2, none⟩ = some (.string t372) ∧ w'.cell? ⟨gb377, 0, none⟩ = some (.int .i64 t373) ∧ w'.cell? ⟨gb377, 1, none⟩ = some (.float .f64 t374) ∧ w'.cell? ⟨gb377, 2, none⟩ = some (.string t375)) ∧ (Kd.R (Kd.int .u8) 5 w' w.heap.size (fun k_ => some k_ ≠ (s_ : Value).ownBlock) v381 t380) ∧ (Kd.R (Kd.int .u8) 5 w' w.heap.size (fun k_ => some k_ ≠ (v381 : Value).ownBlock) s_ t383) ∧ (w'.heap[gb376]? = some (.cells #[.int .i64 t370, .float .f64 t371, .string t372] 27 (0, 0))) ∧ (w'.heap[gb377]? = some (.cells #[.int .i64 t373, .float .f64 t374, .string t375] 27 (0, 0))) ∧ (Below w.heap.size w w')) ?_ ?_
                      rotate_left
                      · intro hJ4_5
                        refine join_ (σ := Value) 14 #[true, true, false, true, true, false, false, true, true, true, false, false, false, false, false, false, false, false, false, false, false] (fun s_ => [(39, s_), (44, .bool t386)]) (fun s_ w' => (w'.cell? ⟨gb376, 0, none⟩ = some (.int .i64 t370) ∧ w'.cell? ⟨gb376, 1, none⟩ = some (.float .f64 t371) ∧ w'.cell? ⟨gb376, 2, none⟩ = some (.string t372) ∧ w'.cell? ⟨gb377, 0, none⟩ = some (.int .i64 t373) ∧ w'.cell? ⟨gb377, 1, none⟩ = some (.float .f64 t374) ∧ w'.cell? ⟨gb377, 2, none⟩ = some (.string t375)) ∧ (Kd.R (Kd.int .u8) 5 w' w.heap.size (fun k_ => some k_ ≠ (s_ : Value).ownBlock) v381 t380) ∧ (Kd.R (Kd.int .u8) 5 w' w.heap.size (fun k_ => some k_ ≠ (v381 : Value).ownBlock) s_ t383) ∧ (w'.heap[gb376]? = some (.cells #[.int .i64 t370, .float .f64 t371, .string t372] 27 (0, 0))) ∧ (w'.heap[gb377]? = some (.cells #[.int .i64 t373, .float .f64 t374, .string t375] 27 (0, 0))) ∧ (Below w.heap.size w w')) ?_ ?_
                        rotate_left
                        · intro hJ4_9
                          refine join_ (σ := Unit) 15 #[true, true, true, true, false, false, false, true, true, false, false, false, false, false, false, false, false, false, false, false, false] (fun s_ => [(37, .string (strOfNums t380))]) (fun s_ w' => (w'.cell? ⟨gb376, 0, none⟩ = some (.int .i64 t370) ∧ w'.cell? ⟨gb376, 1, none⟩ = some (.float .f64 t371) ∧ w'.cell? ⟨gb376, 2, none⟩ = some (.string t372) ∧ w'.cell? ⟨gb377, 0, none⟩ = some (.int .i64 t373) ∧ w'.cell? ⟨gb377, 1, none⟩ = some (.float .f64 t374) ∧ w'.cell? ⟨gb377, 2, none⟩ = some (.string t375)) ∧ (Kd.R (Kd.int .u8) 5 w' w.heap.size (fun _ => True) v381 t380) ∧ (w'.heap[gb376]? = some (.cells #[.int .i64 t370, .float .f64 t371, .string t372] 27 (0, 0))) ∧ (w'.heap[gb377]? = some (.cells #[.int .i64 t373, .float .f64 t374, .string t375] 27 (0, 0))) ∧ (Below w.heap.size w w')) ?_ ?_
                          rotate_left
                          · intro hJ2
                            refine join_ (σ := Value) 15 #[true, true, false, true, true, false, false, true, true, false, false, false, false, false, false, false, false, false, false, false, false] (fun s_ => [(39, s_)]) (fun s_ w' => (w'.cell? ⟨gb376, 0, none⟩ = some (.int .i64 t370) ∧ w'.cell? ⟨gb376, 1, none⟩ = some (.float .f64 t371) ∧ w'.cell? ⟨gb376, 2, none⟩ = some (.string t372) ∧ w'.cell? ⟨gb377, 0, none⟩ = some (.int .i64 t373) ∧ w'.cell? ⟨gb377, 1, none⟩ = some (.float .f64 t374) ∧ w'.cell? ⟨gb377, 2, none⟩ = some (.string t375)) ∧ (Kd.R (Kd.int .u8) 5 w' w.heap.size (fun k_ => some k_ ≠ (s_ : Value).ownBlock) v381 t380) ∧ (Kd.R (Kd.int .u8) 5 w' w.heap.size (fun k_ => some k_ ≠ (v381 : Value).ownBlock) s_ t383) ∧ (w'.heap[gb376]? = some (.cells #[.int .i64 t370, .float .f64 t371, .string t372] 27 (0, 0))) ∧ (w'.heap[gb377]? = some (.cells #[.int .i64 t373, .float .f64 t374, .string t375] 27 (0, 0))) ∧ (Below w.heap.size w w')) ?_ ?_
                            rotate_left
                            · intro hJ4
                              refine two_ (i := 2) (j := 4) (Ni := some 37) (Nj := some 39) #[true, true, true, true, false, false, false, true, true, false, false, false, false, false, false, false, false, false, false, false, false] #[true, true, false, true, true, false, false, true, true, false, false, false, false, false, false, false, false, false, false, false, false] rfl rfl rfl rfl (two_of HT_.out (by kernel_rfl)) (by decide) (by decide) (fun K hK => ?_) (fun K hK => ?_)
                              · skip
                                have hcv40 := own_string (P := Try.prog) Try.underlying23 Try.underlying5 Try.underlying9 (Kd.own_of_R HO382.out)
                                refine value_ (w1 := ?_) (v := ?_) (by rfl) rfl ?_ ?_
                                rotate_left 2
                                · go_simp
                                  constructor
                                  · rfl
                                  · rfl
                                clear hcv40
                                refine hK.out _ _ ⟨(blk_cell BK376.out 0).trans rfl, (blk_cell BK376.out 1).trans rfl, (blk_cell BK376.out 2).trans rfl, (blk_cell BK377.out 0).trans rfl, (blk_cell BK377.out 1).trans rfl, (blk_cell BK377.out 2).trans rfl⟩ (fun hHeld => ?_)
                                clear hK K
                                refine norm_ (a' := ?_) ?_ ?_
                                rotate_left
                                · show Act.put _ (some 37) _ = _
                                  simp only [Act.put, List.setIfInBounds_toArray, List.set_cons_zero, List.set_cons_succ, i64_w, i32_w]
                                  rfl
                                exact norm_ (by first | (simp only [putAll, Act.put, List.setIfInBounds_toArray, List.set_cons_zero, List.set_cons_succ]; done) | (simp only [putAll, Act.put, List.setIfInBounds_toArray, List.set_cons_zero, List.set_cons_succ]; rfl)) (hJ2 () _ ⟨hHeld, (by (with_reducible repeat (first | apply Kd.R_alloc | apply Kd.R_drewN | apply Kd.R_drew)); exact HO382.out), (by (with_reducible repeat (first | refine blk_drewN ?_ _ | refine blk_drew ?_ | refine blk_alloc ?_ _)); exact BK376.out), (by (with_reducible repeat (first | refine blk_drewN ?_ _ | refine blk_drew ?_ | refine blk_alloc ?_ _)); exact BK377.out), (by repeat (first | (with_reducible first | exact HB.out | apply below_alloc | apply pw_below_drewN | apply below_drew1 | refine below_set ?_ GE376.out | refine below_set ?_ GE377.out) | exact HB.out))⟩)
                              · skip
                                refine goes_ Try.func15 (by kernel_rfl) rfl #[.slice none 0 0, .agg #[.int .i64 t373, .float .f64 t374, .string t375]] (by rfl) rfl rfl (by (try simp only [List.map_toArray, List.map_cons, List.map_nil]); first | done | rfl | (simp only [List.length_drop, List.length_take]; rfl)) ?_
                                refine (datum_Put.calls kj10 (fun k_ => some k_ = (.slice none 0 0 : Value).ownBlock) (.slice none 0 0) ([] : List Int) t373 t374 t375 t383 w _ ?side1 ?side2 A33.out).mono ?_
                                (case side1 => repeat (first | (with_reducible first | exact HB.out | apply below_alloc | apply pw_below_drewN | apply below_drew1 | refine below_set ?_ GE376.out | refine below_set ?_ GE377.out) | exact HB.out))
                                (case side2 => exact Kd.R_nil _ _ _ _ _)
                                rintro e w40 ⟨v384, rfl, ho0, hb, hkp⟩
                                refine ⟨_, rfl, ?_⟩
                                have n0_ := Aside0.mk (blk_kept (by (with_reducible repeat (first | refine blk_drewN ?_ _ | refine blk_drew ?_ | refine blk_alloc ?_ _)); exact BK376.out) hkp (fun hs_ => (fun e_ => by simp [Value.ownBlock] at e_) hs_))
                                have n1_ := Aside0.mk (blk_kept (by (with_reducible repeat (first | refine blk_drewN ?_ _ | refine blk_drew ?_ | refine blk_alloc ?_ _)); exact BK377.out) hkp (fun hs_ => (fun e_ => by simp [Value.ownBlock] at e_) hs_))
                                have n2_ := Aside0.mk (Kd.R_mono (ok' := fun k_ => some k_ ≠ (v384 : Value).ownBlock) (Kd.R_keptB (HO382.out) hkp (fun k_ hk_ hs_ => (fun e_ => by simp [Value.ownBlock] at e_) hs_)) (fun k_ hk_ => fun e_ => Or.elim (ho0.1 k_ e_.symm) (fun hs_ => hk_.2.1 hs_) (fun hn_ => Nat.not_le.2 hk_.2.2 hn_)))
                                have n3_ := Aside0.mk (Kd.R_mono (ok' := fun k_ => some k_ ≠ (v381 : Value).ownBlock) ho0 (fun k_ hk_ => Or.elim hk_ (fun hs_ => absurd hs_ (by simp [Value.ownBlock])) (fun hn_ => (Kd.fresh' (Kd.R_lt (by (with_reducible repeat (first | apply Kd.R_alloc | apply Kd.R_drewN | apply Kd.R_drew)); exact HO382.out)) k_ hn_))))
                                have n4_ := Aside0.mk (hb)
                                clear BK376
                                clear BK377
                                clear HO382
                                clear HB
                                have BK376 := n0_
                                have BK377 := n1_
                                have HO382 := n2_
                                have HO385 := n3_
                                have HB := n4_
                                clear n0_ n1_ n2_ n3_ n4_
                                (try clear hb)
                                (try clear hkp)
                                (try clear ho0)
                                refine hK.out _ _ ⟨(blk_cell BK376.out 0).trans rfl, (blk_cell BK376.out 1).trans rfl, (blk_cell BK376.out 2).trans rfl, (blk_cell BK377.out 0).trans rfl, (blk_cell BK377.out 1).trans rfl, (blk_cell BK377.out 2).trans rfl⟩ (fun hHeld => ?_)
                                clear hK K
                                refine norm_ (a' := ?_) ?_ ?_
                                rotate_left
                                · show Act.put _ (some 39) _ = _
                                  simp only [Act.put, List.setIfInBounds_toArray, List.set_cons_zero, List.set_cons_succ, i64_w, i32_w]
                                  rfl
                                exact norm_ (by first | (simp only [putAll, Act.put, List.setIfInBounds_toArray, List.set_cons_zero, List.set_cons_succ]; done) | (simp only [putAll, Act.put, List.setIfInBounds_toArray, List.set_cons_zero, List.set_cons_succ]; rfl)) (hJ4 (v384) _ ⟨hHeld, (by (with_reducible repeat (first | apply Kd.R_alloc | apply Kd.R_drewN | apply Kd.R_drew)); exact HO382.out), (by (with_reducible repeat (first | apply Kd.R_alloc | apply Kd.R_drewN | apply Kd.R_drew)); exact HO385.out), (by (with_reducible repeat (first | refine blk_drewN ?_ _ | refine blk_drew ?_ | refine blk_alloc ?_ _)); exact BK376.out), (by (with_reducible repeat (first | refine blk_drewN ?_ _ | refine blk_drew ?_ | refine blk_alloc ?_ _)); exact BK377.out), (by repeat (first | (with_reducible first | exact HB.out | apply below_alloc | apply pw_below_drewN | apply below_drew1 | refine below_set ?_ GE376.out | refine below_set ?_ GE377.out) | exact HB.out))⟩)
                            · skip
                              rintro v384 w41 ⟨hS_, h0_, h1_, h2_, h3_, h4_⟩
                              have n0_ : Aside0 (Kd.R (Kd.int .u8) 5 w41 w.heap.size (fun k_ => some k_ ≠ (v384 : Value).ownBlock) v381 t380) := ⟨h0_⟩
                              have n1_ : Aside0 (Kd.R (Kd.int .u8) 5 w41 w.heap.size (fun k_ => some k_ ≠ (v381 : Value).ownBlock) v384 t383) := ⟨h1_⟩
                              have n2_ : Aside0 (w41.heap[gb376]? = some (.cells #[.int .i64 t370, .float .f64 t371, .string t372] 27 (0, 0))) := ⟨h2_⟩
                              have n3_ : Aside0 (w41.heap[gb377]? = some (.cells #[.int .i64 t373, .float .f64 t374, .string t375] 27 (0, 0))) := ⟨h3_⟩
                              have n4_ : Aside0 (Below w.heap.size w w41) := ⟨h4_⟩
                              clear BK376
                              clear BK377
                              clear HB
                              clear h0_ h1_ h2_ h3_ h4_
                              have HO382 := n0_
                              have HO385 := n1_
                              have BK376 := n2_
                              have BK377 := n3_
                              have HB := n4_
                              clear n0_ n1_ n2_ n3_ n4_
                              have hHeld : w41.cell? ⟨gb376, 0, none⟩ = some (.int .i64 t370) ∧ w41.cell? ⟨gb376, 1, none⟩ = some (.float .f64 t371) ∧ w41.cell? ⟨gb376, 2, none⟩ = some (.string t372) ∧ w41.cell? ⟨gb377, 0, none⟩ = some (.int .i64 t373) ∧ w41.cell? ⟨gb377, 1, none⟩ = some (.float .f64 t374) ∧ w41.cell? ⟨gb377, 2, none⟩ = some (.string t375) := hS_
                              refine norm_ (a' := ?_) ?_ ?_
                              rotate_left
                              · simp only [putAll, Act.put, List.setIfInBounds_toArray, List.set_cons_zero, List.set_cons_succ]
                                rfl
                              refine three_ (i := 2) (j := 5) (k := 9) (Ni := some 37) (Nj := some 40) (Nk := some 44) #[true, true, true, true, true, false, false, true, true, false, false, false, false, false, false, false, false, false, false, false, false] #[true, true, false, true, true, true, false, true, true, false, false, false, false, false, false, false, false, false, false, false, false] #[true, true, false, true, true, false, false, true, true, true, false, false, false, false, false, false, false, false, false, false, false] rfl rfl rfl rfl rfl rfl (three_of HT_.out (by kernel_rfl)) (by decide) (by decide) (by decide) (fun K hK => ?_) (fun K hK => ?_) (fun K hK => ?_)
                              · skip
                                have hcv42 := own_string (P := Try.prog) Try.underlying23 Try.underlying5 Try.underlying9 (Kd.own_of_R HO382.out)
                                refine value_ (w1 := ?_) (v := ?_) (by rfl) rfl ?_ ?_
                                rotate_left 2
                                · go_simp
                                  constructor
                                  · rfl
                                  · rfl
                                clear hcv42
                                refine hK.out _ _ ⟨(blk_cell BK376.out 0).trans rfl, (blk_cell BK376.out 1).trans rfl, (blk_cell BK376.out 2).trans rfl, (blk_cell BK377.out 0).trans rfl, (blk_cell BK377.out 1).trans rfl, (blk_cell BK377.out 2).trans rfl⟩ (fun hHeld => ?_)
                                clear hK K
                                refine norm_ (a' := ?_) ?_ ?_
                                rotate_left
                                · show Act.put _ (some 37) _ = _
                                  simp only [Act.put, List.setIfInBounds_toArray, List.set_cons_zero, List.set_cons_succ, i64_w, i32_w]
                                  rfl
                                exact norm_ (by first | (simp only [putAll, Act.put, List.setIfInBounds_toArray, List.set_cons_zero, List.set_cons_succ]; done) | (simp only [putAll, Act.put, List.setIfInBounds_toArray, List.set_cons_zero, List.set_cons_succ]; rfl)) (hJ2_4 (v384) _ ⟨hHeld, (by (with_reducible repeat (first | apply Kd.R_alloc | apply Kd.R_drewN | apply Kd.R_drew)); exact HO382.out), (by (with_reducible repeat (first | apply Kd.R_alloc | apply Kd.R_drewN | apply Kd.R_drew)); exact HO385.out), (by (with_reducible repeat (first | refine blk_drewN ?_ _ | refine blk_drew ?_ | refine blk_alloc ?_ _)); exact BK376.out), (by (with_reducible repeat (first | refine blk_drewN ?_ _ | refine blk_drew ?_ | refine blk_alloc ?_ _)); exact BK377.out), (by repeat (first | (with_reducible first | exact HB.out | apply below_alloc | apply pw_below_drewN | apply below_drew1 | refine below_set ?_ GE376.out | refine below_set ?_ GE377.out) | exact HB.out))⟩)
                              · skip
                                have hcv42 := own_string (P := Try.prog) Try.underlying23 Try.underlying5 Try.underlying9 (Kd.own_of_R HO385.out)
                                refine value_ (w1 := ?_) (v := ?_) (by rfl) rfl ?_ ?_
                                rotate_left 2
                                · go_simp
                                  constructor
                                  · rfl
                                  · rfl
                                clear hcv42
                                refine hK.out _ _ ⟨(blk_cell BK376.out 0).trans rfl, (blk_cell BK376.out 1).trans rfl, (blk_cell BK376.out 2).trans rfl, (blk_cell BK377.out 0).trans rfl, (blk_cell BK377.out 1).trans rfl, (blk_cell BK377.out 2).trans rfl⟩ (fun hHeld => ?_)
                                clear hK K
                                refine norm_ (a' := ?_) ?_ ?_
                                rotate_left
                                · show Act.put _ (some 40) _ = _
                                  simp only [Act.put, List.setIfInBounds_toArray, List.set_cons_zero, List.set_cons_succ, i64_w, i32_w]
                                  rfl
                                exact norm_ (by first | (simp only [putAll, Act.put, List.setIfInBounds_toArray, List.set_cons_zero, List.set_cons_succ]; done) | (simp only [putAll, Act.put, List.setIfInBounds_toArray, List.set_cons_zero, List.set_cons_succ]; rfl)) (hJ4_5 (v384) _ ⟨hHeld, (by (with_reducible repeat (first | apply Kd.R_alloc | apply Kd.R_drewN | apply Kd.R_drew)); exact HO382.out), (by (with_reducible repeat (first | apply Kd.R_alloc | apply Kd.R_drewN | apply Kd.R_drew)); exact HO385.out), (by (with_reducible repeat (first | refine blk_drewN ?_ _ | refine blk_drew ?_ | refine blk_alloc ?_ _)); exact BK376.out), (by (with_reducible repeat (first | refine blk_drewN ?_ _ | refine blk_drew ?_ | refine blk_alloc ?_ _)); exact BK377.out), (by repeat (first | (with_reducible first | exact HB.out | apply below_alloc | apply pw_below_drewN | apply below_drew1 | refine below_set ?_ GE376.out | refine below_set ?_ GE377.out) | exact HB.out))⟩)
                              · skip
                                refine goes_ Try.func20 (by kernel_rfl) rfl #[.agg #[.int .i64 t370, .float .f64 t371, .string t372], .agg #[.int .i64 t373, .float .f64 t374, .string t375]] (by rfl) rfl rfl (by (try simp only [List.map_toArray, List.map_cons, List.map_nil]); first | done | rfl | (simp only [List.length_drop, List.length_take]; rfl)) ?_
                                with_reducible refine (datum_Eq.calls t370 t371 t372 t373 t374 t375 t386 _ A34.out).mono ?_
                                rintro e w42 ⟨rfl, hb⟩
                                refine ⟨_, rfl, ?_⟩
                                have n0_ := Aside0.mk (Kd.R_below (by (with_reducible repeat (first | apply Kd.R_alloc | apply Kd.R_drewN | apply Kd.R_drew)); exact HO382.out) hb)
                                have n1_ := Aside0.mk (Kd.R_below (by (with_reducible repeat (first | apply Kd.R_alloc | apply Kd.R_drewN | apply Kd.R_drew)); exact HO385.out) hb)
                                have n2_ := Aside0.mk (blk_below (g := gb376) (o := .cells #[.int .i64 t370, .float .f64 t371, .string t372] 27 (0, 0)) (by (with_reducible repeat (first | refine blk_drewN ?_ _ | refine blk_drew ?_ | refine blk_alloc ?_ _)); exact BK376.out) hb)
                                have n3_ := Aside0.mk (blk_below (g := gb377) (o := .cells #[.int .i64 t373, .float .f64 t374, .string t375] 27 (0, 0)) (by (with_reducible repeat (first | refine blk_drewN ?_ _ | refine blk_drew ?_ | refine blk_alloc ?_ _)); exact BK377.out) hb)
                                have n4_ := Aside0.mk (below_step (by repeat (first | (with_reducible first | exact HB.out | apply below_alloc | apply pw_below_drewN | apply below_drew1 | refine below_set ?_ GE376.out | refine below_set ?_ GE377.out) | exact HB.out)) hb)
                                clear HO382
                                clear HO385
                                clear BK376
                                clear BK377
                                clear HB
                                have HO382 := n0_
                                have HO385 := n1_
                                have BK376 := n2_
                                have BK377 := n3_
                                have HB := n4_
                                clear n0_ n1_ n2_ n3_ n4_
                                (try clear hb)
                                (try clear hb2)
                                (try clear hk)
                                (try clear hi)
                                refine hK.out _ _ ⟨(blk_cell BK376.out 0).trans rfl, (blk_cell BK376.out 1).trans rfl, (blk_cell BK376.out 2).trans rfl, (blk_cell BK377.out 0).trans rfl, (blk_cell BK377.out 1).trans rfl, (blk_cell BK377.out 2).trans rfl⟩ (fun hHeld => ?_)
                                clear hK K
                                refine norm_ (a' := ?_) ?_ ?_
                                rotate_left
                                · show Act.put _ (some 44) _ = _
                                  simp only [Act.put, List.setIfInBounds_toArray, List.set_cons_zero, List.set_cons_succ, i64_w, i32_w]
                                  rfl
                                exact norm_ (by first | (simp only [putAll, Act.put, List.setIfInBounds_toArray, List.set_cons_zero, List.set_cons_succ]; done) | (simp only [putAll, Act.put, List.setIfInBounds_toArray, List.set_cons_zero, List.set_cons_succ]; rfl)) (hJ4_9 (v384) _ ⟨hHeld, (by (with_reducible repeat (first | apply Kd.R_alloc | apply Kd.R_drewN | apply Kd.R_drew)); exact HO382.out), (by (with_reducible repeat (first | apply Kd.R_alloc | apply Kd.R_drewN | apply Kd.R_drew)); exact HO385.out), (by (with_reducible repeat (first | refine blk_drewN ?_ _ | refine blk_drew ?_ | refine blk_alloc ?_ _)); exact BK376.out), (by (with_reducible repeat (first | refine blk_drewN ?_ _ | refine blk_drew ?_ | refine blk_alloc ?_ _)); exact BK377.out), (by repeat (first | (with_reducible first | exact HB.out | apply below_alloc | apply pw_below_drewN | apply below_drew1 | refine below_set ?_ GE376.out | refine below_set ?_ GE377.out) | exact HB.out))⟩)
                          · skip
                            rintro _ w41 ⟨hS_, h0_, h1_, h2_, h3_⟩
                            have n0_ : Aside0 (Kd.R (Kd.int .u8) 5 w41 w.heap.size (fun _ => True) v381 t380) := ⟨h0_⟩
                            have n1_ : Aside0 (w41.heap[gb376]? = some (.cells #[.int .i64 t370, .float .f64 t371, .string t372] 27 (0, 0))) := ⟨h1_⟩
                            have n2_ : Aside0 (w41.heap[gb377]? = some (.cells #[.int .i64 t373, .float .f64 t374, .string t375] 27 (0, 0))) := ⟨h2_⟩
                            have n3_ : Aside0 (Below w.heap.size w w41) := ⟨h3_⟩
                            clear BK376
                            clear BK377
                            clear HB
                            clear h0_ h1_ h2_ h3_
                            have HO382 := n0_
                            have BK376 := n1_
                            have BK377 := n2_
                            have HB := n3_
                            clear n0_ n1_ n2_ n3_
                            have hHeld : w41.cell? ⟨gb376, 0, none⟩ = some (.int .i64 t370) ∧ w41.cell? ⟨gb376, 1, none⟩ = some (.float .f64 t371) ∧ w41.cell? ⟨gb376, 2, none⟩ = some (.string t372) ∧ w41.cell? ⟨gb377, 0, none⟩ = some (.int .i64 t373) ∧ w41.cell? ⟨gb377, 1, none⟩ = some (.float .f64 t374) ∧ w41.cell? ⟨gb377, 2, none⟩ = some (.string t375) := hS_
                            refine norm_ (a' := ?_) ?_ ?_
                            rotate_left
                            · simp only [putAll, Act.put, List.setIfInBounds_toArray, List.set_cons_zero, List.set_cons_succ]
                              rfl
                            refine one_ (i := 4) (N := some 39) #[true, true, true, true, true, false, false, true, true, false, false, false, false, false, false, false, false, false, false, false, false] rfl rfl (one_of HT_.out (by kernel_rfl)) (by decide) (fun K hK => ?_)
                            refine goes_ Try.func15 (by kernel_rfl) rfl #[.slice none 0 0, .agg #[.int .i64 t373, .float .f64 t374, .string t375]] (by rfl) rfl rfl (by (try simp only [List.map_toArray, List.map_cons, List.map_nil]); first | done | rfl | (simp only [List.length_drop, List.length_take]; rfl)) ?_
                            refine (datum_Put.calls kj10 (fun k_ => some k_ = (.slice none 0 0 : Value).ownBlock) (.slice none 0 0) ([] : List Int) t373 t374 t375 t383 w _ ?side1 ?side2 A33.out).mono ?_
                            (case side1 => repeat (first | (with_reducible first | exact HB.out | apply below_alloc | apply pw_below_drewN | apply below_drew1 | refine below_set ?_ GE376.out | refine below_set ?_ GE377.out) | exact HB.out))
                            (case side2 => exact Kd.R_nil _ _ _ _ _)
                            rintro e w42 ⟨v384, rfl, ho0, hb, hkp⟩
                            refine ⟨_, rfl, ?_⟩
                            have n0_ := Aside0.mk (blk_kept (by (with_reducible repeat (first | refine blk_drewN ?_ _ | refine blk_drew ?_ | refine blk_alloc ?_ _)); exact BK376.out) hkp (fun hs_ => (fun e_ => by simp [Value.ownBlock] at e_) hs_))
                            have n1_ := Aside0.mk (blk_kept (by (with_reducible repeat (first | refine blk_drewN ?_ _ | refine blk_drew ?_ | refine blk_alloc ?_ _)); exact BK377.out) hkp (fun hs_ => (fun e_ => by simp [Value.ownBlock] at e_) hs_))
                            have n2_ := Aside0.mk (Kd.R_mono (ok' := fun k_ => some k_ ≠ (v384 : Value).ownBlock) (Kd.R_keptB (HO382.out) hkp (fun k_ hk_ hs_ => (fun e_ => by simp [Value.ownBlock] at e_) hs_)) (fun k_ hk_ => fun e_ => Or.elim (ho0.1 k_ e_.symm) (fun hs_ => hk_.2.1 hs_) (fun hn_ => Nat.not_le.2 hk_.2.2 hn_)))
                            have n3_ := Aside0.mk (Kd.R_mono (ok' := fun k_ => some k_ ≠ (v381 : Value).ownBlock) ho0 (fun k_ hk_ => Or.elim hk_ (fun hs_ => absurd hs_ (by simp [Value.ownBlock])) (fun hn_ => (Kd.fresh' (Kd.R_lt (by (with_reducible repeat (first | apply Kd.R_alloc | apply Kd.R_drewN | apply Kd.R_drew)); exact HO382.out)) k_ hn_))))
                            have n4_ := Aside0.mk (hb)
                            clear BK376
                            clear BK377
                            clear HO382
                            clear HB
                            have BK376 := n0_
                            have BK377 := n1_
                            have HO382 := n2_
                            have HO385 := n3_
                            have HB := n4_
                            clear n0_ n1_ n2_ n3_ n4_
                            (try clear hb)
                            (try clear hkp)
                            (try clear ho0)
                            refine hK.out _ _ ⟨(blk_cell BK376.out 0).trans rfl, (blk_cell BK376.out 1).trans rfl, (blk_cell BK376.out 2).trans rfl, (blk_cell BK377.out 0).trans rfl, (blk_cell BK377.out 1).trans rfl, (blk_cell BK377.out 2).trans rfl⟩ (fun hHeld => ?_)
                            clear hK K
                            refine norm_ (a' := ?_) ?_ ?_
                            rotate_left
                            · show Act.put _ (some 39) _ = _
                              simp only [Act.put, List.setIfInBounds_toArray, List.set_cons_zero, List.set_cons_succ, i64_w, i32_w]
                              rfl
                            exact norm_ (by first | (simp only [putAll, Act.put, List.setIfInBounds_toArray, List.set_cons_zero, List.set_cons_succ]; done) | (simp only [putAll, Act.put, List.setIfInBounds_toArray, List.set_cons_zero, List.set_cons_succ]; rfl)) (hJ2_4 (v384) _ ⟨hHeld, (by (with_reducible repeat (first | apply Kd.R_alloc | apply Kd.R_drewN | apply Kd.R_drew)); exact HO382.out), (by (with_reducible repeat (first | apply Kd.R_alloc | apply Kd.R_drewN | apply Kd.R_drew)); exact HO385.out), (by (with_reducible repeat (first | refine blk_drewN ?_ _ | refine blk_drew ?_ | refine blk_alloc ?_ _)); exact BK376.out), (by (with_reducible repeat (first | refine blk_drewN ?_ _ | refine blk_drew ?_ | refine blk_alloc ?_ _)); exact BK377.out), (by repeat (first | (with_reducible first | exact HB.out | apply below_alloc | apply pw_below_drewN | apply below_drew1 | refine below_set ?_ GE376.out | refine below_set ?_ GE377.out) | exact HB.out))⟩)
                        · skip
                          rintro v384 w42 ⟨hS_, h0_, h1_, h2_, h3_, h4_⟩
                          have n0_ : Aside0 (Kd.R (Kd.int .u8) 5 w42 w.heap.size (fun k_ => some k_ ≠ (v384 : Value).ownBlock) v381 t380) := ⟨h0_⟩
                          have n1_ : Aside0 (Kd.R (Kd.int .u8) 5 w42 w.heap.size (fun k_ => some k_ ≠ (v381 : Value).ownBlock) v384 t383) := ⟨h1_⟩
                          have n2_ : Aside0 (w42.heap[gb376]? = some (.cells #[.int .i64 t370, .float .f64 t371, .string t372] 27 (0, 0))) := ⟨h2_⟩
                          have n3_ : Aside0 (w42.heap[gb377]? = some (.cells #[.int .i64 t373, .float .f64 t374, .string t375] 27 (0, 0))) := ⟨h3_⟩
                          have n4_ : Aside0 (Below w.heap.size w w42) := ⟨h4_⟩
                          clear BK376
                          clear BK377
                          clear HB
                          clear h0_ h1_ h2_ h3_ h4_
                          have HO382 := n0_
                          have HO385 := n1_
                          have BK376 := n2_
                          have BK377 := n3_
                          have HB := n4_
                          clear n0_ n1_ n2_ n3_ n4_
                          have hHeld : w42.cell? ⟨gb376, 0, none⟩ = some (.int .i64 t370) ∧ w42.cell? ⟨gb376, 1, none⟩ = some (.float .f64 t371) ∧ w42.cell? ⟨gb376, 2, none⟩ = some (.string t372) ∧ w42.cell? ⟨gb377, 0, none⟩ = some (.int .i64 t373) ∧ w42.cell? ⟨gb377, 1, none⟩ = some (.float .f64 t374) ∧ w42.cell? ⟨gb377, 2, none⟩ = some (.string t375) := hS_
                          refine norm_ (a' := ?_) ?_ ?_
                          rotate_left
                          · simp only [putAll, Act.put, List.setIfInBounds_toArray, List.set_cons_zero, List.set_cons_succ]
                            rfl
                          refine two_ (i := 2) (j := 5) (Ni := some 37) (Nj := some 40) #[true, true, true, true, true, false, false, true, true, true, false, false, false, false, false, false, false, false, false, false, false] #[true, true, false, true, true, true, false, true, true, true, false, false, false, false, false, false, false, false, false, false, false] rfl rfl rfl rfl (two_of HT_.out (by kernel_rfl)) (by decide) (by decide) (fun K hK => ?_) (fun K hK => ?_)
                          · skip
                            have hcv43 := own_string (P := Try.prog) Try.underlying23 Try.underlying5 Try.underlying9 (Kd.own_of_R HO382.out)
                            refine value_ (w1 := ?_) (v := ?_) (by rfl) rfl ?_ ?_
                            rotate_left 2
                            · go_simp
                              constructor
                              · rfl
                              · rfl
                            clear hcv43
                            refine hK.out _ _ ⟨(blk_cell BK376.out 0).trans rfl, (blk_cell BK376.out 1).trans rfl, (blk_cell BK376.out 2).trans rfl, (blk_cell BK377.out 0).trans rfl, (blk_cell BK377.out 1).trans rfl, (blk_cell BK377.out 2).trans rfl⟩ (fun hHeld => ?_)
                            clear hK K
                            refine norm_ (a' := ?_) ?_ ?_
                            rotate_left
                            · show Act.put _ (some 37) _ = _
                              simp only [Act.put, List.setIfInBounds_toArray, List.set_cons_zero, List.set_cons_succ, i64_w, i32_w]
                              rfl
                            exact norm_ (by first | (simp only [putAll, Act.put, List.setIfInBounds_toArray, List.set_cons_zero, List.set_cons_succ]; done) | (simp only [putAll, Act.put, List.setIfInBounds_toArray, List.set_cons_zero, List.set_cons_succ]; rfl)) (hJ2_4_9 (v384) _ ⟨hHeld, (by (with_reducible repeat (first | apply Kd.R_alloc | apply Kd.R_drewN | apply Kd.R_drew)); exact HO382.out), (by (with_reducible repeat (first | apply Kd.R_alloc | apply Kd.R_drewN | apply Kd.R_drew)); exact HO385.out), (by (with_reducible repeat (first | refine blk_drewN ?_ _ | refine blk_drew ?_ | refine blk_alloc ?_ _)); exact BK376.out), (by (with_reducible repeat (first | refine blk_drewN ?_ _ | refine blk_drew ?_ | refine blk_alloc ?_ _)); exact BK377.out), (by repeat (first | (with_reducible first | exact HB.out | apply below_alloc | apply pw_below_drewN | apply below_drew1 | refine below_set ?_ GE376.out | refine below_set ?_ GE377.out) | exact HB.out))⟩)
                          · skip
                            have hcv43 := own_string (P := Try.prog) Try.underlying23 Try.underlying5 Try.underlying9 (Kd.own_of_R HO385.out)
                            refine value_ (w1 := ?_) (v := ?_) (by rfl) rfl ?_ ?_
                            rotate_left 2
                            · go_simp
                              constructor
                              · rfl
                              · rfl
                            clear hcv43
                            refine hK.out _ _ ⟨(blk_cell BK376.out 0).trans rfl, (blk_cell BK376.out 1).trans rfl, (blk_cell BK376.out 2).trans rfl, (blk_cell BK377.out 0).trans rfl, (blk_cell BK377.out 1).trans rfl, (blk_cell BK377.out 2).trans rfl⟩ (fun hHeld => ?_)
                            clear hK K
                            refine norm_ (a' := ?_) ?_ ?_
                            rotate_left
                            · show Act.put _ (some 40) _ = _
                              simp only [Act.put, List.setIfInBounds_toArray, List.set_cons_zero, List.set_cons_succ, i64_w, i32_w]
                              rfl
                            exact norm_ (by first | (simp only [putAll, Act.put, List.setIfInBounds_toArray, List.set_cons_zero, List.set_cons_succ]; done) | (simp only [putAll, Act.put, List.setIfInBounds_toArray, List.set_cons_zero, List.set_cons_succ]; rfl)) (hJ4_5_9 (v384) _ ⟨hHeld, (by (with_reducible repeat (first | apply Kd.R_alloc | apply Kd.R_drewN | apply Kd.R_drew)); exact HO382.out), (by (with_reducible repeat (first | apply Kd.R_alloc | apply Kd.R_drewN | apply Kd.R_drew)); exact HO385.out), (by (with_reducible repeat (first | refine blk_drewN ?_ _ | refine blk_drew ?_ | refine blk_alloc ?_ _)); exact BK376.out), (by (with_reducible repeat (first | refine blk_drewN ?_ _ | refine blk_drew ?_ | refine blk_alloc ?_ _)); exact BK377.out), (by repeat (first | (with_reducible first | exact HB.out | apply below_alloc | apply pw_below_drewN | apply below_drew1 | refine below_set ?_ GE376.out | refine below_set ?_ GE377.out) | exact HB.out))⟩)
                      · skip
                        rintro v384 w42 ⟨hS_, h0_, h1_, h2_, h3_, h4_⟩
                        have n0_ : Aside0 (Kd.R (Kd.int .u8) 5 w42 w.heap.size (fun k_ => some k_ ≠ (v384 : Value).ownBlock) v381 t380) := ⟨h0_⟩
                        have n1_ : Aside0 (Kd.R (Kd.int .u8) 5 w42 w.heap.size (fun k_ => some k_ ≠ (v381 : Value).ownBlock) v384 t383) := ⟨h1_⟩
                        have n2_ : Aside0 (w42.heap[gb376]? = some (.cells #[.int .i64 t370, .float .f64 t371, .string t372] 27 (0, 0))) := ⟨h2_⟩
                        have n3_ : Aside0 (w42.heap[gb377]? = some (.cells #[.int .i64 t373, .float .f64 t374, .string t375] 27 (0, 0))) := ⟨h3_⟩
                        have n4_ : Aside0 (Below w.heap.size w w42) := ⟨h4_⟩
                        clear BK376
                        clear BK377
                        clear HB
                        clear h0_ h1_ h2_ h3_ h4_
                        have HO382 := n0_
                        have HO385 := n1_
                        have BK376 := n2_
                        have BK377 := n3_
                        have HB := n4_
                        clear n0_ n1_ n2_ n3_ n4_
                        have hHeld : w42.cell? ⟨gb376, 0, none⟩ = some (.int .i64 t370) ∧ w42.cell? ⟨gb376, 1, none⟩ = some (.float .f64 t371) ∧ w42.cell? ⟨gb376, 2, none⟩ = some (.string t372) ∧ w42.cell? ⟨gb377, 0, none⟩ = some (.int .i64 t373) ∧ w42.cell? ⟨gb377, 1, none⟩ = some (.float .f64 t374) ∧ w42.cell? ⟨gb377, 2, none⟩ = some (.string t375) := hS_
                        refine norm_ (a' := ?_) ?_ ?_
                        rotate_left
                        · simp only [putAll, Act.put, List.setIfInBounds_toArray, List.set_cons_zero, List.set_cons_succ]
                          rfl
                        refine two_ (i := 2) (j := 9) (Ni := some 37) (Nj := some 44) #[true, true, true, true, true, true, false, true, true, false, false, false, false, false, false, false, false, false, false, false, false] #[true, true, false, true, true, true, false, true, true, true, false, false, false, false, false, false, false, false, false, false, false] rfl rfl rfl rfl (two_of HT_.out (by kernel_rfl)) (by decide) (by decide) (fun K hK => ?_) (fun K hK => ?_)
                        · skip
                          have hcv43 := own_string (P := Try.prog) Try.underlying23 Try.underlying5 Try.underlying9 (Kd.own_of_R HO382.out)
                          refine value_ (w1 := ?_) (v := ?_) (by rfl) rfl ?_ ?_
                          rotate_left 2
                          · go_simp
                            constructor
                            · rfl
                            · rfl
                          clear hcv43
                          refine hK.out _ _ ⟨(blk_cell BK376.out 0).trans rfl, (blk_cell BK376.out 1).trans rfl, (blk_cell BK376.out 2).trans rfl, (blk_cell BK377.out 0).trans rfl, (blk_cell BK377.out 1).trans rfl, (blk_cell BK377.out 2).trans rfl⟩ (fun hHeld => ?_)
                          clear hK K
                          refine norm_ (a' := ?_) ?_ ?_
                          rotate_left
                          · show Act.put _ (some 37) _ = _
                            simp only [Act.put, List.setIfInBounds_toArray, List.set_cons_zero, List.set_cons_succ, i64_w, i32_w]
                            rfl
                          refine pure_ (i := 6) (N := some 41) (v := ?_) (a' := ?_) #[true, true, true, true, true, true, true, true, true, false, false, false, false, false, false, false, false, false, false, false, false] rfl rfl (any_of HT_.out (by kernel_rfl)) (fun _ _ _ h => h) (Or.inl ⟨by rfl, ?_⟩) ?_ ?_
                          rotate_left
                          · intro w'
                            go_simp
                            with_reducible rfl
                          rotate_left
                          · simp only [Act.put, List.setIfInBounds_toArray, List.set_cons_zero, List.set_cons_succ, i64_w, i32_w]
                            rfl
                          exact norm_ (by first | (simp only [putAll, Act.put, List.setIfInBounds_toArray, List.set_cons_zero, List.set_cons_succ]; done) | (simp only [putAll, Act.put, List.setIfInBounds_toArray, List.set_cons_zero, List.set_cons_succ]; rfl)) (hJ2_4_5 (v384) _ ⟨hHeld, (by (with_reducible repeat (first | apply Kd.R_alloc | apply Kd.R_drewN | apply Kd.R_drew)); exact HO382.out), (by (with_reducible repeat (first | apply Kd.R_alloc | apply Kd.R_drewN | apply Kd.R_drew)); exact HO385.out), (by (with_reducible repeat (first | refine blk_drewN ?_ _ | refine blk_drew ?_ | refine blk_alloc ?_ _)); exact BK376.out), (by (with_reducible repeat (first | refine blk_drewN ?_ _ | refine blk_drew ?_ | refine blk_alloc ?_ _)); exact BK377.out), (by repeat (first | (with_reducible first | exact HB.out | apply below_alloc | apply pw_below_drewN | apply below_drew1 | refine below_set ?_ GE376.out | refine below_set ?_ GE377.out) | exact HB.out))⟩)
                        · skip
                          refine goes_ Try.func20 (by kernel_rfl) rfl #[.agg #[.int .i64 t370, .float .f64 t371, .string t372], .agg #[.int .i64 t373, .float .f64 t374, .string t375]] (by rfl) rfl rfl (by (try simp only [List.map_toArray, List.map_cons, List.map_nil]); first | done | rfl | (simp only [List.length_drop, List.length_take]; rfl)) ?_
                          with_reducible refine (datum_Eq.calls t370 t371 t372 t373 t374 t375 t386 _ A34.out).mono ?_
                          rintro e w43 ⟨rfl, hb⟩
                          refine ⟨_, rfl, ?_⟩
                          have n0_ := Aside0.mk (Kd.R_below (by (with_reducible repeat (first | apply Kd.R_alloc | apply Kd.R_drewN | apply Kd.R_drew)); exact HO382.out) hb)
                          have n1_ := Aside0.mk (Kd.R_below (by (with_reducible repeat (first | apply Kd.R_alloc | apply Kd.R_drewN | apply Kd.R_drew)); exact HO385.out) hb)
                          have n2_ := Aside0.mk (blk_below (g := gb376) (o := .cells #[.int .i64 t370, .float .f64 t371, .string t372] 27 (0, 0)) (by (with_reducible repeat (first | refine blk_drewN ?_ _ | refine blk_drew ?_ | refine blk_alloc ?_ _)); exact BK376.out) hb)
                          have n3_ := Aside0.mk (blk_below (g := gb377) (o := .cells #[.int .i64 t373, .float .f64 t374, .string t375] 27 (0, 0)) (by (with_reducible repeat (first | refine blk_drewN ?_ _ | refine blk_drew ?_ | refine blk_alloc ?_ _)); exact BK377.out) hb)
                          have n4_ := Aside0.mk (below_step (by repeat (first | (with_reducible first | exact HB.out | apply below_alloc | apply pw_below_drewN | apply below_drew1 | refine below_set ?_ GE376.out | refine below_set ?_ GE377.out) | exact HB.out)) hb)
                          clear HO382
                          clear HO385
                          clear BK376
                          clear BK377
                          clear HB
                          have HO382 := n0_
                          have HO385 := n1_
                          have BK376 := n2_
                          have BK377 := n3_
                          have HB := n4_
                          clear n0_ n1_ n2_ n3_ n4_
                          (try clear hb)
                          (try clear hb2)
                          (try clear hk)
                          (try clear hi)
                          refine hK.out _ _ ⟨(blk_cell BK376.out 0).trans rfl, (blk_cell BK376.out 1).trans rfl, (blk_cell BK376.out 2).trans rfl, (blk_cell BK377.out 0).trans rfl, (blk_cell BK377.out 1).trans rfl, (blk_cell BK377.out 2).trans rfl⟩ (fun hHeld => ?_)
                          clear hK K
                          refine norm_ (a' := ?_) ?_ ?_
                          rotate_left
                          · show Act.put _ (some 44) _ = _
                            simp only [Act.put, List.setIfInBounds_toArray, List.set_cons_zero, List.set_cons_succ, i64_w, i32_w]
                            rfl
                          exact norm_ (by first | (simp only [putAll, Act.put, List.setIfInBounds_toArray, List.set_cons_zero, List.set_cons_succ]; done) | (simp only [putAll, Act.put, List.setIfInBounds_toArray, List.set_cons_zero, List.set_cons_succ]; rfl)) (hJ4_5_9 (v384) _ ⟨hHeld, (by (with_reducible repeat (first | apply Kd.R_alloc | apply Kd.R_drewN | apply Kd.R_drew)); exact HO382.out), (by (with_reducible repeat (first | apply Kd.R_alloc | apply Kd.R_drewN | apply Kd.R_drew)); exact HO385.out), (by (with_reducible repeat (first | refine blk_drewN ?_ _ | refine blk_drew ?_ | refine blk_alloc ?_ _)); exact BK376.out), (by (with_reducible repeat (first | refine blk_drewN ?_ _ | refine blk_drew ?_ | refine blk_alloc ?_ _)); exact BK377.out), (by repeat (first | (with_reducible first | exact HB.out | apply below_alloc | apply pw_below_drewN | apply below_drew1 | refine below_set ?_ GE376.out | refine below_set ?_ GE377.out) | exact HB.out))⟩)
                    · skip
                      rintro v384 w42 ⟨hS_, h0_, h1_, h2_, h3_, h4_⟩
                      have n0_ : Aside0 (Kd.R (Kd.int .u8) 5 w42 w.heap.size (fun k_ => some k_ ≠ (v384 : Value).ownBlock) v381 t380) := ⟨h0_⟩
                      have n1_ : Aside0 (Kd.R (Kd.int .u8) 5 w42 w.heap.size (fun k_ => some k_ ≠ (v381 : Value).ownBlock) v384 t383) := ⟨h1_⟩
                      have n2_ : Aside0 (w42.heap[gb376]? = some (.cells #[.int .i64 t370, .float .f64 t371, .string t372] 27 (0, 0))) := ⟨h2_⟩
                      have n3_ : Aside0 (w42.heap[gb377]? = some (.cells #[.int .i64 t373, .float .f64 t374, .string t375] 27 (0, 0))) := ⟨h3_⟩
                      have n4_ : Aside0 (Below w.heap.size w w42) := ⟨h4_⟩
                      clear BK376
                      clear BK377
                      clear HB
                      clear h0_ h1_ h2_ h3_ h4_
                      have HO382 := n0_
                      have HO385 := n1_
                      have BK376 := n2_
                      have BK377 := n3_
                      have HB := n4_
                      clear n0_ n1_ n2_ n3_ n4_
                      have hHeld : w42.cell? ⟨gb376, 0, none⟩ = some (.int .i64 t370) ∧ w42.cell? ⟨gb376, 1, none⟩ = some (.float .f64 t371) ∧ w42.cell? ⟨gb376, 2, none⟩ = some (.string t372) ∧ w42.cell? ⟨gb377, 0, none⟩ = some (.int .i64 t373) ∧ w42.cell? ⟨gb377, 1, none⟩ = some (.float .f64 t374) ∧ w42.cell? ⟨gb377, 2, none⟩ = some (.string t375) := hS_
                      refine norm_ (a' := ?_) ?_ ?_
                      rotate_left
                      · simp only [putAll, Act.put, List.setIfInBounds_toArray, List.set_cons_zero, List.set_cons_succ]
                        rfl
                      refine two_ (i := 5) (j := 9) (Ni := some 40) (Nj := some 44) #[true, true, true, true, true, true, false, true, true, false, false, false, false, false, false, false, false, false, false, false, false] #[true, true, true, true, true, false, false, true, true, true, false, false, false, false, false, false, false, false, false, false, false] rfl rfl rfl rfl (two_of HT_.out (by kernel_rfl)) (by decide) (by decide) (fun K hK => ?_) (fun K hK => ?_)
                      · skip
                        have hcv43 := own_string (P := Try.prog) Try.underlying23 Try.underlying5 Try.underlying9 (Kd.own_of_R HO385.out)
                        refine value_ (w1 := ?_) (v := ?_) (by rfl) rfl ?_ ?_
                        rotate_left 2
                        · go_simp
                          constructor
                          · rfl
                          · rfl
                        clear hcv43
                        refine hK.out _ _ ⟨(blk_cell BK376.out 0).trans rfl, (blk_cell BK376.out 1).trans rfl, (blk_cell BK376.out 2).trans rfl, (blk_cell BK377.out 0).trans rfl, (blk_cell BK377.out 1).trans rfl, (blk_cell BK377.out 2).trans rfl⟩ (fun hHeld => ?_)
                        clear hK K
                        refine norm_ (a' := ?_) ?_ ?_
                        rotate_left
                        · show Act.put _ (some 40) _ = _
                          simp only [Act.put, List.setIfInBounds_toArray, List.set_cons_zero, List.set_cons_succ, i64_w, i32_w]
                          rfl
                        refine pure_ (i := 6) (N := some 41) (v := ?_) (a' := ?_) #[true, true, true, true, true, true, true, true, true, false, false, false, false, false, false, false, false, false, false, false, false] rfl rfl (any_of HT_.out (by kernel_rfl)) (fun _ _ _ h => h) (Or.inl ⟨by rfl, ?_⟩) ?_ ?_
                        rotate_left
                        · intro w'
                          go_simp
                          with_reducible rfl
                        rotate_left
                        · simp only [Act.put, List.setIfInBounds_toArray, List.set_cons_zero, List.set_cons_succ, i64_w, i32_w]
                          rfl
                        exact norm_ (by first | (simp only [putAll, Act.put, List.setIfInBounds_toArray, List.set_cons_zero, List.set_cons_succ]; done) | (simp only [putAll, Act.put, List.setIfInBounds_toArray, List.set_cons_zero, List.set_cons_succ]; rfl)) (hJ2_4_5 (v384) _ ⟨hHeld, (by (with_reducible repeat (first | apply Kd.R_alloc | apply Kd.R_drewN | apply Kd.R_drew)); exact HO382.out), (by (with_reducible repeat (first | apply Kd.R_alloc | apply Kd.R_drewN | apply Kd.R_drew)); exact HO385.out), (by (with_reducible repeat (first | refine blk_drewN ?_ _ | refine blk_drew ?_ | refine blk_alloc ?_ _)); exact BK376.out), (by (with_reducible repeat (first | refine blk_drewN ?_ _ | refine blk_drew ?_ | refine blk_alloc ?_ _)); exact BK377.out), (by repeat (first | (with_reducible first | exact HB.out | apply below_alloc | apply pw_below_drewN | apply below_drew1 | refine below_set ?_ GE376.out | refine below_set ?_ GE377.out) | exact HB.out))⟩)
                      · skip
                        refine goes_ Try.func20 (by kernel_rfl) rfl #[.agg #[.int .i64 t370, .float .f64 t371, .string t372], .agg #[.int .i64 t373, .float .f64 t374, .string t375]] (by rfl) rfl rfl (by (try simp only [List.map_toArray, List.map_cons, List.map_nil]); first | done | rfl | (simp only [List.length_drop, List.length_take]; rfl)) ?_
                        with_reducible refine (datum_Eq.calls t370 t371 t372 t373 t374 t375 t386 _ A34.out).mono ?_
                        rintro e w43 ⟨rfl, hb⟩
                        refine ⟨_, rfl, ?_⟩
                        have n0_ := Aside0.mk (Kd.R_below (by (with_reducible repeat (first | apply Kd.R_alloc | apply Kd.R_drewN | apply Kd.R_drew)); exact HO382.out) hb)
                        have n1_ := Aside0.mk (Kd.R_below (by (with_reducible repeat (first | apply Kd.R_alloc | apply Kd.R_drewN | apply Kd.R_drew)); exact HO385.out) hb)
                        have n2_ := Aside0.mk (blk_below (g := gb376) (o := .cells #[.int .i64 t370, .float .f64 t371, .string t372] 27 (0, 0)) (by (with_reducible repeat (first | refine blk_drewN ?_ _ | refine blk_drew ?_ | refine blk_alloc ?_ _)); exact BK376.out) hb)
                        have n3_ := Aside0.mk (blk_below (g := gb377) (o := .cells #[.int .i64 t373, .float .f64 t374, .string t375] 27 (0, 0)) (by (with_reducible repeat (first | refine blk_drewN ?_ _ | refine blk_drew ?_ | refine blk_alloc ?_ _)); exact BK377.out) hb)
                        have n4_ := Aside0.mk (below_step (by repeat (first | (with_reducible first | exact HB.out | apply below_alloc | apply pw_below_drewN | apply below_drew1 | refine below_set ?_ GE376.out | refine below_set ?_ GE377.out) | exact HB.out)) hb)
                        clear HO382
                        clear HO385
                        clear BK376
                        clear BK377
                        clear HB
                        have HO382 := n0_
                        have HO385 := n1_
                        have BK376 := n2_
                        have BK377 := n3_
                        have HB := n4_
                        clear n0_ n1_ n2_ n3_ n4_
                        (try clear hb)
                        (try clear hb2)
                        (try clear hk)
                        (try clear hi)
                        refine hK.out _ _ ⟨(blk_cell BK376.out 0).trans rfl, (blk_cell BK376.out 1).trans rfl, (blk_cell BK376.out 2).trans rfl, (blk_cell BK377.out 0).trans rfl, (blk_cell BK377.out 1).trans rfl, (blk_cell BK377.out 2).trans rfl⟩ (fun hHeld => ?_)
                        clear hK K
                        refine norm_ (a' := ?_) ?_ ?_
                        rotate_left
                        · show Act.put _ (some 44) _ = _
                          simp only [Act.put, List.setIfInBounds_toArray, List.set_cons_zero, List.set_cons_succ, i64_w, i32_w]
                          rfl
                        exact norm_ (by first | (simp only [putAll, Act.put, List.setIfInBounds_toArray, List.set_cons_zero, List.set_cons_succ]; done) | (simp only [putAll, Act.put, List.setIfInBounds_toArray, List.set_cons_zero, List.set_cons_succ]; rfl)) (hJ2_4_9 (v384) _ ⟨hHeld, (by (with_reducible repeat (first | apply Kd.R_alloc | apply Kd.R_drewN | apply Kd.R_drew)); exact HO382.out), (by (with_reducible repeat (first | apply Kd.R_alloc | apply Kd.R_drewN | apply Kd.R_drew)); exact HO385.out), (by (with_reducible repeat (first | refine blk_drewN ?_ _ | refine blk_drew ?_ | refine blk_alloc ?_ _)); exact BK376.out), (by (with_reducible repeat (first | refine blk_drewN ?_ _ | refine blk_drew ?_ | refine blk_alloc ?_ _)); exact BK377.out), (by repeat (first | (with_reducible first | exact HB.out | apply below_alloc | apply pw_below_drewN | apply below_drew1 | refine below_set ?_ GE376.out | refine below_set ?_ GE377.out) | exact HB.out))⟩)
                  · skip
                    rintro v384 w43 ⟨hS_, h0_, h1_, h2_, h3_, h4_⟩
                    have n0_ : Aside0 (Kd.R (Kd.int .u8) 5 w43 w.heap.size (fun k_ => some k_ ≠ (v384 : Value).ownBlock) v381 t380) := ⟨h0_⟩
                    have n1_ : Aside0 (Kd.R (Kd.int .u8) 5 w43 w.heap.size (fun k_ => some k_ ≠ (v381 : Value).ownBlock) v384 t383) := ⟨h1_⟩
                    have n2_ : Aside0 (w43.heap[gb376]? = some (.cells #[.int .i64 t370, .float .f64 t371, .string t372] 27 (0, 0))) := ⟨h2_⟩
                    have n3_ : Aside0 (w43.heap[gb377]? = some (.cells #[.int .i64 t373, .float .f64 t374, .string t375] 27 (0, 0))) := ⟨h3_⟩
                    have n4_ : Aside0 (Below w.heap.size w w43) := ⟨h4_⟩
                    clear BK376
                    clear BK377
                    clear HB
                    clear h0_ h1_ h2_ h3_ h4_
                    have HO382 := n0_
                    have HO385 := n1_
                    have BK376 := n2_
                    have BK377 := n3_
                    have HB := n4_
                    clear n0_ n1_ n2_ n3_ n4_
                    have hHeld : w43.cell? ⟨gb376, 0, none⟩ = some (.int .i64 t370) ∧ w43.cell? ⟨gb376, 1, none⟩ = some (.float .f64 t371) ∧ w43.cell? ⟨gb376, 2, none⟩ = some (.string t372) ∧ w43.cell? ⟨gb377, 0, none⟩ = some (.int .i64 t373) ∧ w43.cell? ⟨gb377, 1, none⟩ = some (.float .f64 t374) ∧ w43.cell? ⟨gb377, 2, none⟩ = some (.string t375) := hS_
                    refine norm_ (a' := ?_) ?_ ?_
                    rotate_left
                    · simp only [putAll, Act.put, List.setIfInBounds_toArray, List.set_cons_zero, List.set_cons_succ]
                      rfl
                    refine one_ (i := 2) (N := some 37) #[true, true, true, true, true, true, false, true, true, true, false, false, false, false, false, false, false, false, false, false, false] rfl rfl (one_of HT_.out (by kernel_rfl)) (by decide) (fun K hK => ?_)
                    have hcv44 := own_string (P := Try.prog) Try.underlying23 Try.underlying5 Try.underlying9 (Kd.own_of_R HO382.out)
                    refine value_ (w1 := ?_) (v := ?_) (by rfl) rfl ?_ ?_
                    rotate_left 2
                    · go_simp
                      constructor
                      · rfl
                      · rfl
                    clear hcv44
                    refine hK.out _ _ ⟨(blk_cell BK376.out 0).trans rfl, (blk_cell BK376.out 1).trans rfl, (blk_cell BK376.out 2).trans rfl, (blk_cell BK377.out 0).trans rfl, (blk_cell BK377.out 1).trans rfl, (blk_cell BK377.out 2).trans rfl⟩ (fun hHeld => ?_)
                    clear hK K
                    refine norm_ (a' := ?_) ?_ ?_
                    rotate_left
                    · show Act.put _ (some 37) _ = _
                      simp only [Act.put, List.setIfInBounds_toArray, List.set_cons_zero, List.set_cons_succ, i64_w, i32_w]
                      rfl
                    refine pure_ (i := 6) (N := some 41) (v := ?_) (a' := ?_) #[true, true, true, true, true, true, true, true, true, true, false, false, false, false, false, false, false, false, false, false, false] rfl rfl (any_of HT_.out (by kernel_rfl)) (fun _ _ _ h => h) (Or.inl ⟨by rfl, ?_⟩) ?_ ?_
                    rotate_left
                    · intro w'
                      go_simp
                      with_reducible rfl
                    rotate_left
                    · simp only [Act.put, List.setIfInBounds_toArray, List.set_cons_zero, List.set_cons_succ, i64_w, i32_w]
                      rfl
                    exact norm_ (by first | (simp only [putAll, Act.put, List.setIfInBounds_toArray, List.set_cons_zero, List.set_cons_succ]; done) | (simp only [putAll, Act.put, List.setIfInBounds_toArray, List.set_cons_zero, List.set_cons_succ]; rfl)) (hJ2_4_5_9 (v384) _ ⟨hHeld, (by (with_reducible repeat (first | apply Kd.R_alloc | apply Kd.R_drewN | apply Kd.R_drew)); exact HO382.out), (by (with_reducible repeat (first | apply Kd.R_alloc | apply Kd.R_drewN | apply Kd.R_drew)); exact HO385.out), (by (with_reducible repeat (first | refine blk_drewN ?_ _ | refine blk_drew ?_ | refine blk_alloc ?_ _)); exact BK376.out), (by (with_reducible repeat (first | refine blk_drewN ?_ _ | refine blk_drew ?_ | refine blk_alloc ?_ _)); exact BK377.out), (by repeat (first | (with_reducible first | exact HB.out | apply below_alloc | apply pw_below_drewN | apply below_drew1 | refine below_set ?_ GE376.out | refine below_set ?_ GE377.out) | exact HB.out))⟩)
                · skip
                  rintro v384 w43 ⟨hS_, h0_, h1_, h2_, h3_, h4_⟩
                  have n0_ : Aside0 (Kd.R (Kd.int .u8) 5 w43 w.heap.size (fun k_ => some k_ ≠ (v384 : Value).ownBlock) v381 t380) := ⟨h0_⟩
                  have n1_ : Aside0 (Kd.R (Kd.int .u8) 5 w43 w.heap.size (fun k_ => some k_ ≠ (v381 : Value).ownBlock) v384 t383) := ⟨h1_⟩
                  have n2_ : Aside0 (w43.heap[gb376]? = some (.cells #[.int .i64 t370, .float .f64 t371, .string t372] 27 (0, 0))) := ⟨h2_⟩
                  have n3_ : Aside0 (w43.heap[gb377]? = some (.cells #[.int .i64 t373, .float .f64 t374, .string t375] 27 (0, 0))) := ⟨h3_⟩
                  have n4_ : Aside0 (Below w.heap.size w w43) := ⟨h4_⟩
                  clear BK376
                  clear BK377
                  clear HB
                  clear h0_ h1_ h2_ h3_ h4_
                  have HO382 := n0_
                  have HO385 := n1_
                  have BK376 := n2_
                  have BK377 := n3_
                  have HB := n4_
                  clear n0_ n1_ n2_ n3_ n4_
                  have hHeld : w43.cell? ⟨gb376, 0, none⟩ = some (.int .i64 t370) ∧ w43.cell? ⟨gb376, 1, none⟩ = some (.float .f64 t371) ∧ w43.cell? ⟨gb376, 2, none⟩ = some (.string t372) ∧ w43.cell? ⟨gb377, 0, none⟩ = some (.int .i64 t373) ∧ w43.cell? ⟨gb377, 1, none⟩ = some (.float .f64 t374) ∧ w43.cell? ⟨gb377, 2, none⟩ = some (.string t375) := hS_
                  refine norm_ (a' := ?_) ?_ ?_
                  rotate_left
                  · simp only [putAll, Act.put, List.setIfInBounds_toArray, List.set_cons_zero, List.set_cons_succ]
                    rfl
                  refine one_ (i := 5) (N := some 40) #[true, true, true, true, true, true, false, true, true, true, false, false, false, false, false, false, false, false, false, false, false] rfl rfl (one_of HT_.out (by kernel_rfl)) (by decide) (fun K hK => ?_)
                  have hcv44 := own_string (P := Try.prog) Try.underlying23 Try.underlying5 Try.underlying9 (Kd.own_of_R HO385.out)
                  refine value_ (w1 := ?_) (v := ?_) (by rfl) rfl ?_ ?_
                  rotate_left 2
                  · go_simp
                    constructor
                    · rfl
                    · rfl
                  clear hcv44
                  refine hK.out _ _ ⟨(blk_cell BK376.out 0).trans rfl, (blk_cell BK376.out 1).trans rfl, (blk_cell BK376.out 2).trans rfl, (blk_cell BK377.out 0).trans rfl, (blk_cell BK377.out 1).trans rfl, (blk_cell BK377.out 2).trans rfl⟩ (fun hHeld => ?_)
                  clear hK K
                  refine norm_ (a' := ?_) ?_ ?_
                  rotate_left
                  · show Act.put _ (some 40) _ = _
                    simp only [Act.put, List.setIfInBounds_toArray, List.set_cons_zero, List.set_cons_succ, i64_w, i32_w]
                    rfl
                  refine pure_ (i := 6) (N := some 41) (v := ?_) (a' := ?_) #[true, true, true, true, true, true, true, true, true, true, false, false, false, false, false, false, false, false, false, false, false] rfl rfl (any_of HT_.out (by kernel_rfl)) (fun _ _ _ h => h) (Or.inl ⟨by rfl, ?_⟩) ?_ ?_
                  rotate_left
                  · intro w'
                    go_simp
                    with_reducible rfl
                  rotate_left
                  · simp only [Act.put, List.setIfInBounds_toArray, List.set_cons_zero, List.set_cons_succ, i64_w, i32_w]
                    rfl
                  exact norm_ (by first | (simp only [putAll, Act.put, List.setIfInBounds_toArray, List.set_cons_zero, List.set_cons_succ]; done) | (simp only [putAll, Act.put, List.setIfInBounds_toArray, List.set_cons_zero, List.set_cons_succ]; rfl)) (hJ2_4_5_9 (v384) _ ⟨hHeld, (by (with_reducible repeat (first | apply Kd.R_alloc | apply Kd.R_drewN | apply Kd.R_drew)); exact HO382.out), (by (with_reducible repeat (first | apply Kd.R_alloc | apply Kd.R_drewN | apply Kd.R_drew)); exact HO385.out), (by (with_reducible repeat (first | refine blk_drewN ?_ _ | refine blk_drew ?_ | refine blk_alloc ?_ _)); exact BK376.out), (by (with_reducible repeat (first | refine blk_drewN ?_ _ | refine blk_drew ?_ | refine blk_alloc ?_ _)); exact BK377.out), (by repeat (first | (with_reducible first | exact HB.out | apply below_alloc | apply pw_below_drewN | apply below_drew1 | refine below_set ?_ GE376.out | refine below_set ?_ GE377.out) | exact HB.out))⟩)
              · skip
                rintro v384 w43 ⟨hS_, h0_, h1_, h2_, h3_, h4_⟩
                have n0_ : Aside0 (Kd.R (Kd.int .u8) 5 w43 w.heap.size (fun k_ => some k_ ≠ (v384 : Value).ownBlock) v381 t380) := ⟨h0_⟩
                have n1_ : Aside0 (Kd.R (Kd.int .u8) 5 w43 w.heap.size (fun k_ => some k_ ≠ (v381 : Value).ownBlock) v384 t383) := ⟨h1_⟩
                have n2_ : Aside0 (w43.heap[gb376]? = some (.cells #[.int .i64 t370, .float .f64 t371, .string t372] 27 (0, 0))) := ⟨h2_⟩
                have n3_ : Aside0 (w43.heap[gb377]? = some (.cells #[.int .i64 t373, .float .f64 t374, .string t375] 27 (0, 0))) := ⟨h3_⟩
                have n4_ : Aside0 (Below w.heap.size w w43) := ⟨h4_⟩
                clear BK376
                clear BK377
                clear HB
                clear h0_ h1_ h2_ h3_ h4_
                have HO382 := n0_
                have HO385 := n1_
                have BK376 := n2_
                have BK377 := n3_
                have HB := n4_
                clear n0_ n1_ n2_ n3_ n4_
                have hHeld : w43.cell? ⟨gb376, 0, none⟩ = some (.int .i64 t370) ∧ w43.cell? ⟨gb376, 1, none⟩ = some (.float .f64 t371) ∧ w43.cell? ⟨gb376, 2, none⟩ = some (.string t372) ∧ w43.cell? ⟨gb377, 0, none⟩ = some (.int .i64 t373) ∧ w43.cell? ⟨gb377, 1, none⟩ = some (.float .f64 t374) ∧ w43.cell? ⟨gb377, 2, none⟩ = some (.string t375) := hS_
                refine norm_ (a' := ?_) ?_ ?_
                rotate_left
                · simp only [putAll, Act.put, List.setIfInBounds_toArray, List.set_cons_zero, List.set_cons_succ]
                  rfl
                refine one_ (i := 9) (N := some 44) #[true, true, true, true, true, true, true, true, true, true, false, false, false, false, false, false, false, false, false, false, false] rfl rfl (one_of HT_.out (by kernel_rfl)) (by decide) (fun K hK => ?_)
                refine goes_ Try.func20 (by kernel_rfl) rfl #[.agg #[.int .i64 t370, .float .f64 t371, .string t372], .agg #[.int .i64 t373, .float .f64 t374, .string t375]] (by rfl) rfl rfl (by (try simp only [List.map_toArray, List.map_cons, List.map_nil]); first | done | rfl | (simp only [List.length_drop, List.length_take]; rfl)) ?_
                with_reducible refine (datum_Eq.calls t370 t371 t372 t373 t374 t375 t386 _ A34.out).mono ?_
                rintro e w44 ⟨rfl, hb⟩
                refine ⟨_, rfl, ?_⟩
                have n0_ := Aside0.mk (Kd.R_below (by (with_reducible repeat (first | apply Kd.R_alloc | apply Kd.R_drewN | apply Kd.R_drew)); exact HO382.out) hb)
                have n1_ := Aside0.mk (Kd.R_below (by (with_reducible repeat (first | apply Kd.R_alloc | apply Kd.R_drewN | apply Kd.R_drew)); exact HO385.out) hb)
                have n2_ := Aside0.mk (blk_below (g := gb376) (o := .cells #[.int .i64 t370, .float .f64 t371, .string t372] 27 (0, 0)) (by (with_reducible repeat (first | refine blk_drewN ?_ _ | refine blk_drew ?_ | refine blk_alloc ?_ _)); exact BK376.out) hb)
                have n3_ := Aside0.mk (blk_below (g := gb377) (o := .cells #[.int .i64 t373, .float .f64 t374, .string t375] 27 (0, 0)) (by (with_reducible repeat (first | refine blk_drewN ?_ _ | refine blk_drew ?_ | refine blk_alloc ?_ _)); exact BK377.out) hb)
                have n4_ := Aside0.mk (below_step (by repeat (first | (with_reducible first | exact HB.out | apply below_alloc | apply pw_below_drewN | apply below_drew1 | refine below_set ?_ GE376.out | refine below_set ?_ GE377.out) | exact HB.out)) hb)
                clear HO382
                clear HO385
                clear BK376
                clear BK377
                clear HB
                have HO382 := n0_
                have HO385 := n1_
                have BK376 := n2_
                have BK377 := n3_
                have HB := n4_
                clear n0_ n1_ n2_ n3_ n4_
                (try clear hb)
                (try clear hb2)
                (try clear hk)
                (try clear hi)
                refine hK.out _ _ ⟨(blk_cell BK376.out 0).trans rfl, (blk_cell BK376.out 1).trans rfl, (blk_cell BK376.out 2).trans rfl, (blk_cell BK377.out 0).trans rfl, (blk_cell BK377.out 1).trans rfl, (blk_cell BK377.out 2).trans rfl⟩ (fun hHeld => ?_)
                clear hK K
                refine norm_ (a' := ?_) ?_ ?_
                rotate_left
                · show Act.put _ (some 44) _ = _
                  simp only [Act.put, List.setIfInBounds_toArray, List.set_cons_zero, List.set_cons_succ, i64_w, i32_w]
                  rfl
                exact norm_ (by first | (simp only [putAll, Act.put, List.setIfInBounds_toArray, List.set_cons_zero, List.set_cons_succ]; done) | (simp only [putAll, Act.put, List.setIfInBounds_toArray, List.set_cons_zero, List.set_cons_succ]; rfl)) (hJ2_4_5_9 (v384) _ ⟨hHeld, (by (with_reducible repeat (first | apply Kd.R_alloc | apply Kd.R_drewN | apply Kd.R_drew)); exact HO382.out), (by (with_reducible repeat (first | apply Kd.R_alloc | apply Kd.R_drewN | apply Kd.R_drew)); exact HO385.out), (by (with_reducible repeat (first | refine blk_drewN ?_ _ | refine blk_drew ?_ | refine blk_alloc ?_ _)); exact BK376.out), (by (with_reducible repeat (first | refine blk_drewN ?_ _ | refine blk_drew ?_ | refine blk_alloc ?_ _)); exact BK377.out), (by repeat (first | (with_reducible first | exact HB.out | apply below_alloc | apply pw_below_drewN | apply below_drew1 | refine below_set ?_ GE376.out | refine below_set ?_ GE377.out) | exact HB.out))⟩)
            rintro v384 w44 ⟨hS_, h0_, h1_, h2_, h3_, h4_⟩
            have n0_ : Aside0 (Kd.R (Kd.int .u8) 5 w44 w.heap.size (fun k_ => some k_ ≠ (v384 : Value).ownBlock) v381 t380) := ⟨h0_⟩
            have n1_ : Aside0 (Kd.R (Kd.int .u8) 5 w44 w.heap.size (fun k_ => some k_ ≠ (v381 : Value).ownBlock) v384 t383) := ⟨h1_⟩
            have n2_ : Aside0 (w44.heap[gb376]? = some (.cells #[.int .i64 t370, .float .f64 t371, .string t372] 27 (0, 0))) := ⟨h2_⟩
            have n3_ : Aside0 (w44.heap[gb377]? = some (.cells #[.int .i64 t373, .float .f64 t374, .string t375] 27 (0, 0))) := ⟨h3_⟩
            have n4_ : Aside0 (Below w.heap.size w w44) := ⟨h4_⟩
            clear BK376
            clear BK377
            clear HB
            clear h0_ h1_ h2_ h3_ h4_
            have HO382 := n0_
            have HO385 := n1_
            have BK376 := n2_
            have BK377 := n3_
            have HB := n4_
            clear n0_ n1_ n2_ n3_ n4_
            have hHeld : w44.cell? ⟨gb376, 0, none⟩ = some (.int .i64 t370) ∧ w44.cell? ⟨gb376, 1, none⟩ = some (.float .f64 t371) ∧ w44.cell? ⟨gb376, 2, none⟩ = some (.string t372) ∧ w44.cell? ⟨gb377, 0, none⟩ = some (.int .i64 t373) ∧ w44.cell? ⟨gb377, 1, none⟩ = some (.float .f64 t374) ∧ w44.cell? ⟨gb377, 2, none⟩ = some (.string t375) := hS_
            refine norm_ (a' := ?_) ?_ ?_
            rotate_left
            · simp only [putAll, Act.put, List.setIfInBounds_toArray, List.set_cons_zero, List.set_cons_succ]
              rfl
            refine pure_ (i := 10) (N := some 45) (v := ?_) (a' := ?_) #[true, true, true, true, true, true, true, true, true, true, true, false, false, false, false, false, false, false, false, false, false] rfl rfl (any_of HT_.out (by kernel_rfl)) (fun _ _ _ h => h) (Or.inl ⟨by rfl, ?_⟩) ?_ ?_
            rotate_left
            · intro w'
              go_simp
              with_reducible rfl
            rotate_left
            · simp only [Act.put, List.setIfInBounds_toArray, List.set_cons_zero, List.set_cons_succ, i64_w, i32_w]
              rfl
            refine pure_ (i := 11) (N := some 46) (v := ?_) (a' := ?_) #[true, true, true, true, true, true, true, true, true, true, true, true, false, false, false, false, false, false, false, false, false] rfl rfl (any_of HT_.out (by kernel_rfl)) (fun _ _ _ h => h) (Or.inl ⟨by rfl, ?_⟩) ?_ ?_
            rotate_left
            · intro w'
              go_simp
              with_reducible rfl
            rotate_left
            · simp only [Act.put, List.setIfInBounds_toArray, List.set_cons_zero, List.set_cons_succ, i64_w, i32_w]
              rfl
            refine take_ (i := 12) (N := some 47) (v := ?_) (a' := ?_) #[true, true, true, true, true, true, true, true, true, true, true, true, true, false, false, false, false, false, false, false, false] rfl rfl (take_ofW HT_.out HW_.out (by kernel_rfl)) (fun _ _ _ h => h) (Or.inl ⟨by rfl, ?_⟩) hHeld ?_ ?_
            rotate_left
            · rintro w' ⟨s0, s1, s2, s3, s4, s5⟩
              go_simp
              with_reducible rfl
            rotate_left
            · simp only [Act.put, List.setIfInBounds_toArray, List.set_cons_zero, List.set_cons_succ, i64_w, i32_w]
              rfl
            refine take_ (i := 13) (N := some 48) (v := ?_) (a' := ?_) #[true, true, true, true, true, true, true, true, true, true, true, true, true, true, false, false, false, false, false, false, false] rfl rfl (take_ofW HT_.out HW_.out (by kernel_rfl)) (fun _ _ _ h => h) (Or.inl ⟨by rfl, ?_⟩) hHeld ?_ ?_
            rotate_left
            · rintro w' ⟨s0, s1, s2, s3, s4, s5⟩
              go_simp
              with_reducible rfl
            rotate_left
            · simp only [Act.put, List.setIfInBounds_toArray, List.set_cons_zero, List.set_cons_succ, i64_w, i32_w]
              rfl
            refine take_ (i := 15) (N := some 50) (v := ?_) (a' := ?_) #[true, true, true, true, true, true, true, true, true, true, true, true, true, true, false, true, false, false, false, false, false] rfl rfl (take_ofW HT_.out HW_.out (by kernel_rfl)) (fun _ _ _ h => h) (Or.inl ⟨by rfl, ?_⟩) hHeld ?_ ?_
            rotate_left
            · rintro w' ⟨s0, s1, s2, s3, s4, s5⟩
              go_simp
              with_reducible rfl
            rotate_left
            · simp only [Act.put, List.setIfInBounds_toArray, List.set_cons_zero, List.set_cons_succ, i64_w, i32_w]
              rfl
            refine take_ (i := 16) (N := some 51) (v := ?_) (a' := ?_) #[true, true, true, true, true, true, true, true, true, true, true, true, true, true, false, true, true, false, false, false, false] rfl rfl (take_ofW HT_.out HW_.out (by kernel_rfl)) (fun _ _ _ h => h) (Or.inl ⟨by rfl, ?_⟩) hHeld ?_ ?_
            rotate_left
            · rintro w' ⟨s0, s1, s2, s3, s4, s5⟩
              go_simp
              with_reducible rfl
            rotate_left
            · simp only [Act.put, List.setIfInBounds_toArray, List.set_cons_zero, List.set_cons_succ, i64_w, i32_w]
              rfl
            refine one_ (i := 14) (N := some 49) #[true, true, true, true, true, true, true, true, true, true, true, true, true, true, true, true, true, false, false, false, false] rfl rfl (one_of HT_.out (by kernel_rfl)) (by decide) (fun K hK => ?_)
            refine goes_ Try.func20 (by kernel_rfl) rfl #[.agg #[.int .i64 t370, .float .f64 t371, .string t372], .agg #[.int .i64 t373, .float .f64 t374, .string t375]] (by rfl) rfl rfl (by (try simp only [List.map_toArray, List.map_cons, List.map_nil]); first | done | rfl | (simp only [List.length_drop, List.length_take]; rfl)) ?_
            with_reducible refine (datum_Eq.calls t370 t371 t372 t373 t374 t375 t386 _ A36.out).mono ?_
            rintro e w45 ⟨rfl, hb⟩
            refine ⟨_, rfl, ?_⟩
            have n0_ := Aside0.mk (Kd.R_below (by (with_reducible repeat (first | apply Kd.R_alloc | apply Kd.R_drewN | apply Kd.R_drew)); exact HO382.out) hb)
            have n1_ := Aside0.mk (Kd.R_below (by (with_reducible repeat (first | apply Kd.R_alloc | apply Kd.R_drewN | apply Kd.R_drew)); exact HO385.out) hb)
            have n2_ := Aside0.mk (blk_below (g := gb376) (o := .cells #[.int .i64 t370, .float .f64 t371, .string t372] 27 (0, 0)) (by (with_reducible repeat (first | refine blk_drewN ?_ _ | refine blk_drew ?_ | refine blk_alloc ?_ _)); exact BK376.out) hb)
            have n3_ := Aside0.mk (blk_below (g := gb377) (o := .cells #[.int .i64 t373, .float .f64 t374, .string t375] 27 (0, 0)) (by (with_reducible repeat (first | refine blk_drewN ?_ _ | refine blk_drew ?_ | refine blk_alloc ?_ _)); exact BK377.out) hb)
            have n4_ := Aside0.mk (below_step (by repeat (first | (with_reducible first | exact HB.out | apply below_alloc | apply pw_below_drewN | apply below_drew1 | refine below_set ?_ GE376.out | refine below_set ?_ GE377.out) | exact HB.out)) hb)
            clear HO382
            clear HO385
            clear BK376
            clear BK377
            clear HB
            have HO382 := n0_
            have HO385 := n1_
            have BK376 := n2_
            have BK377 := n3_
            have HB := n4_
            clear n0_ n1_ n2_ n3_ n4_
            (try clear hb)
            (try clear hb2)
            (try clear hk)
            (try clear hi)
            refine hK.out _ _ ⟨(blk_cell BK376.out 0).trans rfl, (blk_cell BK376.out 1).trans rfl, (blk_cell BK376.out 2).trans rfl, (blk_cell BK377.out 0).trans rfl, (blk_cell BK377.out 1).trans rfl, (blk_cell BK377.out 2).trans rfl⟩ (fun hHeld => ?_)
            clear hK K
            refine norm_ (a' := ?_) ?_ ?_
            rotate_left
            · show Act.put _ (some 49) _ = _
              simp only [Act.put, List.setIfInBounds_toArray, List.set_cons_zero, List.set_cons_succ, i64_w, i32_w]
              rfl
            refine one_ (i := 17) (N := some 52) #[true, true, true, true, true, true, true, true, true, true, true, true, true, true, true, true, true, true, false, false, false] rfl rfl (one_of HT_.out (by kernel_rfl)) (by decide) (fun K hK => ?_)
            refine goes_ Try.func20 (by kernel_rfl) rfl #[.agg #[.int .i64 t373, .float .f64 t374, .string t375], .agg #[.int .i64 t370, .float .f64 t371, .string t372]] (by rfl) rfl rfl (by (try simp only [List.map_toArray, List.map_cons, List.map_nil]); first | done | rfl | (simp only [List.length_drop, List.length_take]; rfl)) ?_
            with_reducible refine (datum_Eq.calls t373 t374 t375 t370 t371 t372 t388 _ A37.out).mono ?_
            rintro e w46 ⟨rfl, hb⟩
            refine ⟨_, rfl, ?_⟩
            have n0_ := Aside0.mk (Kd.R_below (by (with_reducible repeat (first | apply Kd.R_alloc | apply Kd.R_drewN | apply Kd.R_drew)); exact HO382.out) hb)
            have n1_ := Aside0.mk (Kd.R_below (by (with_reducible repeat (first | apply Kd.R_alloc | apply Kd.R_drewN | apply Kd.R_drew)); exact HO385.out) hb)
            have n2_ := Aside0.mk (blk_below (g := gb376) (o := .cells #[.int .i64 t370, .float .f64 t371, .string t372] 27 (0, 0)) (by (with_reducible repeat (first | refine blk_drewN ?_ _ | refine blk_drew ?_ | refine blk_alloc ?_ _)); exact BK376.out) hb)
            have n3_ := Aside0.mk (blk_below (g := gb377) (o := .cells #[.int .i64 t373, .float .f64 t374, .string t375] 27 (0, 0)) (by (with_reducible repeat (first | refine blk_drewN ?_ _ | refine blk_drew ?_ | refine blk_alloc ?_ _)); exact BK377.out) hb)
            have n4_ := Aside0.mk (below_step (by repeat (first | (with_reducible first | exact HB.out | apply below_alloc | apply pw_below_drewN | apply below_drew1 | refine below_set ?_ GE376.out | refine below_set ?_ GE377.out) | exact HB.out)) hb)
            clear HO382
            clear HO385
            clear BK376
            clear BK377
            clear HB
            have HO382 := n0_
            have HO385 := n1_
            have BK376 := n2_
            have BK377 := n3_
            have HB := n4_
            clear n0_ n1_ n2_ n3_ n4_
            (try clear hb)
            (try clear hb2)
            (try clear hk)
            (try clear hi)
            refine hK.out _ _ ⟨(blk_cell BK376.out 0).trans rfl, (blk_cell BK376.out 1).trans rfl, (blk_cell BK376.out 2).trans rfl, (blk_cell BK377.out 0).trans rfl, (blk_cell BK377.out 1).trans rfl, (blk_cell BK377.out 2).trans rfl⟩ (fun hHeld => ?_)
            clear hK K
            refine norm_ (a' := ?_) ?_ ?_
            rotate_left
            · show Act.put _ (some 52) _ = _
              simp only [Act.put, List.setIfInBounds_toArray, List.set_cons_zero, List.set_cons_succ, i64_w, i32_w]
              rfl
            refine pure_ (i := 18) (N := some 53) (v := ?_) (a' := ?_) #[true, true, true, true, true, true, true, true, true, true, true, true, true, true, true, true, true, true, true, false, false] rfl rfl (any_of HT_.out (by kernel_rfl)) (fun _ _ _ h => h) (Or.inl ⟨by rfl, ?_⟩) ?_ ?_
            rotate_left
            · intro w'
              go_simp
              with_reducible rfl
            rotate_left
            · simp only [Act.put, List.setIfInBounds_toArray, List.set_cons_zero, List.set_cons_succ, i64_w, i32_w]
              rfl
            refine pure_ (i := 19) (N := some 54) (v := ?_) (a' := ?_) #[true, true, true, true, true, true, true, true, true, true, true, true, true, true, true, true, true, true, true, true, false] rfl rfl (any_of HT_.out (by kernel_rfl)) (fun _ _ _ h => h) (Or.inl ⟨by rfl, ?_⟩) ?_ ?_
            rotate_left
            · intro w'
              go_simp
              with_reducible rfl
            rotate_left
            · simp only [Act.put, List.setIfInBounds_toArray, List.set_cons_zero, List.set_cons_succ, i64_w, i32_w]
              rfl
            refine pure_ (i := 20) (N := some 12) (v := ?_) (a' := ?_) #[true, true, true, true, true, true, true, true, true, true, true, true, true, true, true, true, true, true, true, true, true] rfl rfl (any_of HT_.out (by kernel_rfl)) (fun _ _ _ h => h) (Or.inl ⟨by rfl, ?_⟩) ?_ ?_
            rotate_left
            · intro w'
              go_simp
              with_reducible rfl
            rotate_left
            · simp only [Act.put, List.setIfInBounds_toArray, List.set_cons_zero, List.set_cons_succ, i64_w, i32_w]
              rfl
            refine done_ (done_of HT_.out (by kernel_rfl)) ?_
            try go_wp2
            go_ret
            exact ⟨by first | rfl | (simp [errW_none, errW_some] <;> rfl) | (simp [*, errW_none, errW_some] <;> rfl), by repeat (first | (with_reducible first | exact HB.out | apply below_alloc | apply pw_below_drewN | apply below_drew1 | refine below_set ?_ GE376.out | refine below_set ?_ GE377.out) | exact HB.out)⟩
          · rw [if_neg c35] at H
            have c35b0 : (((strOfNums t380).toList == (strOfNums t383).toList) == t386) = false := by simpa using c35
            (try (have c35b1 : decide (((strOfNums t380).toList == (strOfNums t383).toList) = t386) = false := by simpa using c35))
            (try (have c35b2 : (((strOfNums t380).toList == (strOfNums t383).toList) == t386) = false := by simpa using c35))
            (try (have c35b3 : ¬ (((strOfNums t380).toList == (strOfNums t383).toList) = t386) := by simpa using c35))
            clear c35
            exact absurd H (by simp)
  · replace c8 := Bool.eq_false_iff.mpr c8
    subst c8
    have H1 : (none) = some r := by rw [if_neg (show ¬ (false = true) by decide)] at H; exact H
    clear H
    have H := H1
    clear H1
    exact absurd H (by simp)

/-- THE ONE PURE STATEMENT of engrosslaw4_DatumTwins: yours. -/
def engrosslaw4_DatumTwins.Pure : Prop := ∀ (a0 : Int) (a1 : Int) (a2 : ByteArray) (a3 : Int) (a4 : Int) (a5 : ByteArray), (Lit.int .i64 a0).wf = true → (Lit.int .u64 a1).wf = true → a2.size ≤ 140737488351232 → (Lit.int .i64 a3).wf = true → (Lit.int .u64 a4).wf = true → a5.size ≤ 140737488351232 → ∃ k, engrosslaw4_DatumTwins.f k a0 a1 a2 a3 a4 a5 = some true
theorem engrosslaw4_DatumTwins.walk (P : engrosslaw4_DatumTwins.Pure) (a0 : Int) (a1 : Int) (a2 : ByteArray) (a3 : Int) (a4 : Int) (a5 : ByteArray) (w : World) (w0 : (Lit.int .i64 a0).wf = true) (w1 : (Lit.int .u64 a1).wf = true) (w2 : a2.size ≤ 140737488351232) (w3 : (Lit.int .i64 a3).wf = true) (w4 : (Lit.int .u64 a4).wf = true) (w5 : a5.size ≤ 140737488351232) :
    Calls Try.prog 6 #[.int .i64 a0, .int .u64 a1, .string a2, .int .i64 a3, .int .u64 a4, .string a5] w fun e w' => e = .returned (.bool true) ∧ Below w.heap.size w w' := by
  obtain ⟨k, h⟩ := P a0 a1 a2 a3 a4 a5 w0 w1 w2 w3 w4 w5
  refine (engrosslaw4_DatumTwins.calls k a0 a1 a2 a3 a4 a5 true w h).mono ?_
  rintro e w' ⟨rfl, hd⟩
  exact ⟨rfl, hd⟩

end Go.Proofs.Ythfpmpnedaliaaa.P
