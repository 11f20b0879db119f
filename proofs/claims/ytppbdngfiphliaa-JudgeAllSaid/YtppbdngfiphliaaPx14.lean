/- Functions of the program as Lean functions, and that each call answers as its function does. No condition. (Lines written by a generator of this session.) -/
import Derived.Test.YtppbdngfiphliaaPx0
import Derived.Test.YtppbdngfiphliaaPx3
import Derived.Test.YtppbdngfiphliaaPx4
import Derived.Test.YtppbdngfiphliaaPx7
import Derived.Test.YtppbdngfiphliaaPx8
import Derived.Test.YtppbdngfiphliaaPx9
import Derived.Test.YtppbdngfiphliaaPx10
import Derived.Test.YtppbdngfiphliaaPx11
import Derived.Test.YtppbdngfiphliaaPx12
import Derived.Test.YtppbdngfiphliaaPx13
namespace Go.Proofs.Ytppbdngfiphliaa.P
open Go.RowKit Go.Proofs.YtppbdngfiphliaaW.PrintWords Go.Proofs.YtppbdngfiphliaaW.PrintLast Go.Proofs.YtppbdngfiphliaaW.PrintMore
attribute [local go_sem] max2_int min2_int max_two min_two max_three min_three max_four min_four   -- for this text's walks alone
attribute [local go_sem] x_str_gtr x_str_leq x_str_geq ext_bits ext_frombits ext_neg x_store_float Instr.field asAgg
set_option linter.unusedVariables false
set_option linter.unusedSimpArgs false

/-! ### engrosslaw28_JudgeAll: function 3 -/
mutual
def engrosslaw28_JudgeAll.j0 : Nat → List (S38) → List (S38) → ByteArray → Bool → Option (Bool)
 | 0, _, _, _, _ => none
 | k + 1, x0, x1, x2, x53 => if x53 = true then (none) else ((judge_Val.f k x0 x2).bind fun bt286 => ((engrossref23_Val.f k x0 x2).bind fun bt291 => (if (bt286.2.2.2 != bt291.2.2.2) = true then (none) else ((engrossref1_EqVal.f bt286.1 bt286.2.1 bt286.2.2.1 bt291.1 bt291.2.1 bt291.2.2.1).bind fun t296 => (engrosslaw28_JudgeAll.j1 k x0 x1 (!t296))))))
def engrosslaw28_JudgeAll.j1 : Nat → List (S38) → List (S38) → Bool → Option (Bool)
 | 0, _, _, _ => none
 | k + 1, x0, x1, x74 => if x74 = true then (none) else ((judge_Over.f k x0 x1).bind fun t297 => ((engrosslaw28_sorted.f k x0).bind fun t300 => (if t300 = true then (engrosslaw28_JudgeAll.l0 k x1 t297 x0 0) else (some ((t297.length : Int) == 0)))))
def engrosslaw28_JudgeAll.l0 : Nat → List (S38) → List (S38) → List (S38) → Int → Option (Bool)
 | 0, _, _, _, _ => none
 | k + 1, x1, x14, x15, x16 => if x16 < (x1.length : Int) then (if 0 ≤ x16 then ((engrossref1_MayKey.f ((rd_T38 x1 x16).f0)).bind fun t304 => (if t304 = true then ((engrossref1_MayVal.f ((rd_T38 x1 x16).f1.f0) ((rd_T38 x1 x16).f1.f1) ((rd_T38 x1 x16).f1.f2)).bind fun t306 => (if t306 = true then ((engrossref23_Set.f k x15 ((rd_T38 x1 x16).f0) ((rd_T38 x1 x16).f1.f0) ((rd_T38 x1 x16).f1.f1) ((rd_T38 x1 x16).f1.f2)).bind fun t309 => (engrosslaw28_JudgeAll.l0 k x1 x14 t309 (wrap64 (x16 + 1)))) else (engrosslaw28_JudgeAll.l0 k x1 x14 x15 (wrap64 (x16 + 1))))) else (engrosslaw28_JudgeAll.l0 k x1 x14 x15 (wrap64 (x16 + 1))))) else (none)) else ((engrossref23_EqPairs.f k x14 x15).bind fun t301 => (if t301 = true then ((judge_Sorted.f k x14).bind fun t302 => (some t302)) else (none)))
end
def engrosslaw28_JudgeAll.f (k : Nat) (l0 : List (S38)) (l1 : List (S38)) (a2 : ByteArray) (a3 : ByteArray) : Option (Bool) := (engrosslaw28_begun.f k).bind fun t266 => (if t266 = true then ((engrosslaw28_Pairs.f k l0).bind fun t267 => ((engrosslaw28_Pairs.f k l1).bind fun t270 => ((engrosslaw1_Cut.f a2 20).bind fun t273 => ((engrosslaw1_Cut.f a3 20).bind fun t274 => ((judge_Sorted.f k t267).bind fun t275 => ((engrosslaw28_sorted.f k t267).bind fun t276 => (if (t275 != t276) = true then (none) else ((judge_Same.f k t267 t270).bind fun t277 => ((engrossref23_EqPairs.f k t267 t270).bind fun t278 => (if (t277 != t278) = true then (none) else ((judge_Part.f k t267 t273 t274).bind fun t279 => ((engrossref23_Part.f k t267 t273 t274).bind fun t282 => ((engrossref23_EqPairs.f k t279 t282).bind fun t285 => (engrosslaw28_JudgeAll.j0 k t267 t270 t273 (!t285))))))))))))))) else (none))
theorem engrosslaw28_JudgeAll.mono_l : ∀ k, (∀ y0 y1 y2 y3, LeO (engrosslaw28_JudgeAll.j0 k y0 y1 y2 y3) (engrosslaw28_JudgeAll.j0 (k + 1) y0 y1 y2 y3)) ∧ (∀ y0 y1 y2, LeO (engrosslaw28_JudgeAll.j1 k y0 y1 y2) (engrosslaw28_JudgeAll.j1 (k + 1) y0 y1 y2)) ∧ (∀ y0 y1 y2 y3, LeO (engrosslaw28_JudgeAll.l0 k y0 y1 y2 y3) (engrosslaw28_JudgeAll.l0 (k + 1) y0 y1 y2 y3))
 | 0 => ⟨fun _ _ _ _ r h => by simp [engrosslaw28_JudgeAll.j0] at h, fun _ _ _ r h => by simp [engrosslaw28_JudgeAll.j1] at h, fun _ _ _ _ r h => by simp [engrosslaw28_JudgeAll.l0] at h⟩
 | k + 1 => by
  obtain ⟨ih0, ih1, ih2⟩ := engrosslaw28_JudgeAll.mono_l k
  refine ⟨?_, ?_, ?_⟩
  ·intro y0 y1 y2 y3
   unfold engrosslaw28_JudgeAll.j0
   repeat' first
   | (with_reducible exact ih0 _ _ _ _)
   | (with_reducible exact ih1 _ _ _)
   | (with_reducible exact ih2 _ _ _ _)
   | (with_reducible exact engrosslaw28_Pairs.mono _ _)
   | (with_reducible exact engrosslaw28_begun.mono _)
   | (with_reducible exact engrosslaw28_sorted.mono _ _)
   | (with_reducible exact engrossref23_EqPairs.mono _ _ _)
   | (with_reducible exact engrossref23_Part.mono _ _ _ _)
   | (with_reducible exact engrossref23_Set.mono _ _ _ _ _ _)
   | (with_reducible exact engrossref23_Val.mono _ _ _)
   | (with_reducible exact judge_Over.mono _ _ _)
   | (with_reducible exact judge_Part.mono _ _ _ _)
   | (with_reducible exact judge_Same.mono _ _ _)
   | (with_reducible exact judge_Sorted.mono _ _)
   | (with_reducible exact judge_Val.mono _ _ _)
   | (with_reducible exact LeO.refl _)
   | (with_reducible exact LeO.none _)
   | (with_reducible refine LeO.ite ?_ ?_)
   | (with_reducible refine LeO.bind ?_ (fun _ => ?_))
   | exact ih0 _ _ _ _
   | exact ih1 _ _ _
   | exact ih2 _ _ _ _
   | exact engrosslaw28_Pairs.mono _ _
   | exact engrosslaw28_begun.mono _
   | exact engrosslaw28_sorted.mono _ _
   | exact engrossref23_EqPairs.mono _ _ _
   | exact engrossref23_Part.mono _ _ _ _
   | exact engrossref23_Set.mono _ _ _ _ _ _
   | exact engrossref23_Val.mono _ _ _
   | exact judge_Over.mono _ _ _
   | exact judge_Part.mono _ _ _ _
   | exact judge_Same.mono _ _ _
   | exact judge_Sorted.mono _ _
   | exact judge_Val.mono _ _ _
   | exact LeO.none _
   | refine LeO.ite ?_ ?_
   | refine LeO.bind ?_ (fun _ => ?_)
  ·intro y0 y1 y2
   unfold engrosslaw28_JudgeAll.j1
   repeat' first
   | (with_reducible exact ih0 _ _ _ _)
   | (with_reducible exact ih1 _ _ _)
   | (with_reducible exact ih2 _ _ _ _)
   | (with_reducible exact engrosslaw28_Pairs.mono _ _)
   | (with_reducible exact engrosslaw28_begun.mono _)
   | (with_reducible exact engrosslaw28_sorted.mono _ _)
   | (with_reducible exact engrossref23_EqPairs.mono _ _ _)
   | (with_reducible exact engrossref23_Part.mono _ _ _ _)
   | (with_reducible exact engrossref23_Set.mono _ _ _ _ _ _)
   | (with_reducible exact engrossref23_Val.mono _ _ _)
   | (with_reducible exact judge_Over.mono _ _ _)
   | (with_reducible exact judge_Part.mono _ _ _ _)
   | (with_reducible exact judge_Same.mono _ _ _)
   | (with_reducible exact judge_Sorted.mono _ _)
   | (with_reducible exact judge_Val.mono _ _ _)
   | (with_reducible exact LeO.refl _)
   | (with_reducible exact LeO.none _)
   | (with_reducible refine LeO.ite ?_ ?_)
   | (with_reducible refine LeO.bind ?_ (fun _ => ?_))
   | exact ih0 _ _ _ _
   | exact ih1 _ _ _
   | exact ih2 _ _ _ _
   | exact engrosslaw28_Pairs.mono _ _
   | exact engrosslaw28_begun.mono _
   | exact engrosslaw28_sorted.mono _ _
   | exact engrossref23_EqPairs.mono _ _ _
   | exact engrossref23_Part.mono _ _ _ _
   | exact engrossref23_Set.mono _ _ _ _ _ _
   | exact engrossref23_Val.mono _ _ _
   | exact judge_Over.mono _ _ _
   | exact judge_Part.mono _ _ _ _
   | exact judge_Same.mono _ _ _
   | exact judge_Sorted.mono _ _
   | exact judge_Val.mono _ _ _
   | exact LeO.none _
   | refine LeO.ite ?_ ?_
   | refine LeO.bind ?_ (fun _ => ?_)
  ·intro y0 y1 y2 y3
   unfold engrosslaw28_JudgeAll.l0
   repeat' first
   | (with_reducible exact ih0 _ _ _ _)
   | (with_reducible exact ih1 _ _ _)
   | (with_reducible exact ih2 _ _ _ _)
   | (with_reducible exact engrosslaw28_Pairs.mono _ _)
   | (with_reducible exact engrosslaw28_begun.mono _)
   | (with_reducible exact engrosslaw28_sorted.mono _ _)
   | (with_reducible exact engrossref23_EqPairs.mono _ _ _)
   | (with_reducible exact engrossref23_Part.mono _ _ _ _)
   | (with_reducible exact engrossref23_Set.mono _ _ _ _ _ _)
   | (with_reducible exact engrossref23_Val.mono _ _ _)
   | (with_reducible exact judge_Over.mono _ _ _)
   | (with_reducible exact judge_Part.mono _ _ _ _)
   | (with_reducible exact judge_Same.mono _ _ _)
   | (with_reducible exact judge_Sorted.mono _ _)
   | (with_reducible exact judge_Val.mono _ _ _)
   | (with_reducible exact LeO.refl _)
   | (with_reducible exact LeO.none _)
   | (with_reducible refine LeO.ite ?_ ?_)
   | (with_reducible refine LeO.bind ?_ (fun _ => ?_))
   | exact ih0 _ _ _ _
   | exact ih1 _ _ _
   | exact ih2 _ _ _ _
   | exact engrosslaw28_Pairs.mono _ _
   | exact engrosslaw28_begun.mono _
   | exact engrosslaw28_sorted.mono _ _
   | exact engrossref23_EqPairs.mono _ _ _
   | exact engrossref23_Part.mono _ _ _ _
   | exact engrossref23_Set.mono _ _ _ _ _ _
   | exact engrossref23_Val.mono _ _ _
   | exact judge_Over.mono _ _ _
   | exact judge_Part.mono _ _ _ _
   | exact judge_Same.mono _ _ _
   | exact judge_Sorted.mono _ _
   | exact judge_Val.mono _ _ _
   | exact LeO.none _
   | refine LeO.ite ?_ ?_
   | refine LeO.bind ?_ (fun _ => ?_)
theorem engrosslaw28_JudgeAll.mono : ∀ a0 a1 a2 a3 k, LeO (engrosslaw28_JudgeAll.f k a0 a1 a2 a3) (engrosslaw28_JudgeAll.f (k + 1) a0 a1 a2 a3) := by
 intro a0 a1 a2 a3 k
 obtain ⟨ih0, ih1, ih2⟩ := engrosslaw28_JudgeAll.mono_l k
 unfold engrosslaw28_JudgeAll.f
 repeat' first
   | (with_reducible exact ih0 _ _ _ _)
   | (with_reducible exact ih1 _ _ _)
   | (with_reducible exact ih2 _ _ _ _)
   | (with_reducible exact engrosslaw28_Pairs.mono _ _)
   | (with_reducible exact engrosslaw28_begun.mono _)
   | (with_reducible exact engrosslaw28_sorted.mono _ _)
   | (with_reducible exact engrossref23_EqPairs.mono _ _ _)
   | (with_reducible exact engrossref23_Part.mono _ _ _ _)
   | (with_reducible exact engrossref23_Set.mono _ _ _ _ _ _)
   | (with_reducible exact engrossref23_Val.mono _ _ _)
   | (with_reducible exact judge_Over.mono _ _ _)
   | (with_reducible exact judge_Part.mono _ _ _ _)
   | (with_reducible exact judge_Same.mono _ _ _)
   | (with_reducible exact judge_Sorted.mono _ _)
   | (with_reducible exact judge_Val.mono _ _ _)
   | (with_reducible exact LeO.refl _)
   | (with_reducible exact LeO.none _)
   | (with_reducible refine LeO.ite ?_ ?_)
   | (with_reducible refine LeO.bind ?_ (fun _ => ?_))
   | exact ih0 _ _ _ _
   | exact ih1 _ _ _
   | exact ih2 _ _ _ _
   | exact engrosslaw28_Pairs.mono _ _
   | exact engrosslaw28_begun.mono _
   | exact engrosslaw28_sorted.mono _ _
   | exact engrossref23_EqPairs.mono _ _ _
   | exact engrossref23_Part.mono _ _ _ _
   | exact engrossref23_Set.mono _ _ _ _ _ _
   | exact engrossref23_Val.mono _ _ _
   | exact judge_Over.mono _ _ _
   | exact judge_Part.mono _ _ _ _
   | exact judge_Same.mono _ _ _
   | exact judge_Sorted.mono _ _
   | exact judge_Val.mono _ _ _
   | exact LeO.none _
   | refine LeO.ite ?_ ?_
   | refine LeO.bind ?_ (fun _ => ?_)
def engrosslaw28_JudgeAll.T19 : Bool × List (List Nat × List Nat) := (true, [([], []), ([], []), ([], []), ([1, 2], [1, 2]), ([3], [3]), ([4], [4]), ([], []), ([], []), ([6, 7], [6, 7]), ([8], [8]), ([9], [9]), ([0, 5, 10], [0, 5, 10]), ([11, 11, 0, 1, 2, 3, 4, 5, 6, 7, 8, 9, 10, 11], [0, 11])])
def engrosslaw28_JudgeAll.B19 : List Nat := [0, 0, 0, 6, 14, 30, 0, 0, 192, 448, 960, 2047, 4095]
theorem engrosslaw28_JudgeAll.tab19 : rtab .any (opsOf Try.f3 19) = engrosslaw28_JudgeAll.T19 := by kernel_rfl
theorem engrosslaw28_JudgeAll.bits19 : waitsOk engrosslaw28_JudgeAll.T19.2 engrosslaw28_JudgeAll.B19 = true := by kernel_rfl
set_option maxHeartbeats 8000000 in
set_option maxRecDepth 100000 in
theorem engrosslaw28_JudgeAll.calls (k : Nat) (A0 : Option Addr) (c0 : Nat) (l0 : List (S38)) (A1 : Option Addr) (c1 : Nat) (l1 : List (S38)) (a2 : ByteArray) (a3 : ByteArray) (r : Bool) (w : World) (hr0 : Kd.C k38 w A0 l0.length l0) (hc0 : l0.length ≤ c0) (hr1 : Kd.C k38 w A1 l1.length l1) (hc1 : l1.length ≤ c1) (h : engrosslaw28_JudgeAll.f k l0 l1 a2 a3 = some r) :
  Calls Try.prog 3 #[.slice A0 l0.length c0, .slice A1 l1.length c1, .string a2, .string a3] w fun e w' => e = .returned (.bool r) ∧ Below w.heap.size w w' := by
 have hu31 := Try.underlying31
 have HR0 := Aside0.mk hr0
 have HC0 := Aside0.mk hc0
 clear hr0 hc0
 have HR1 := Aside0.mk hr1
 have HC1 := Aside0.mk hc1
 clear hr1 hc1
 have HB := Aside0.mk (Below.refl w.heap.size w)
 have H : ((engrosslaw28_begun.f k).bind fun t266 => (if t266 = true then ((engrosslaw28_Pairs.f k l0).bind fun t267 => ((engrosslaw28_Pairs.f k l1).bind fun t270 => ((engrosslaw1_Cut.f a2 20).bind fun t273 => ((engrosslaw1_Cut.f a3 20).bind fun t274 => ((judge_Sorted.f k t267).bind fun t275 => ((engrosslaw28_sorted.f k t267).bind fun t276 => (if (t275 != t276) = true then (none) else ((judge_Same.f k t267 t270).bind fun t277 => ((engrossref23_EqPairs.f k t267 t270).bind fun t278 => (if (t277 != t278) = true then (none) else ((judge_Part.f k t267 t273 t274).bind fun t279 => ((engrossref23_Part.f k t267 t273 t274).bind fun t282 => ((engrossref23_EqPairs.f k t279 t282).bind fun t285 => (engrosslaw28_JudgeAll.j0 k t267 t270 t273 (!t285))))))))))))))) else (none))) = some r := h
 clear h
 replace H := Option.bind_eq_some_iff.mp H
 obtain ⟨t266, A50, H⟩ := H
 replace H : (if t266 = true then ((engrosslaw28_Pairs.f k l0).bind fun t267 => ((engrosslaw28_Pairs.f k l1).bind fun t270 => ((engrosslaw1_Cut.f a2 20).bind fun t273 => ((engrosslaw1_Cut.f a3 20).bind fun t274 => ((judge_Sorted.f k t267).bind fun t275 => ((engrosslaw28_sorted.f k t267).bind fun t276 => (if (t275 != t276) = true then (none) else ((judge_Same.f k t267 t270).bind fun t277 => ((engrossref23_EqPairs.f k t267 t270).bind fun t278 => (if (t277 != t278) = true then (none) else ((judge_Part.f k t267 t273 t274).bind fun t279 => ((engrossref23_Part.f k t267 t273 t274).bind fun t282 => ((engrossref23_EqPairs.f k t279 t282).bind fun t285 => (engrosslaw28_JudgeAll.j0 k t267 t270 t273 (!t285))))))))))))))) else (none)) = some r := H
 have A5 := Aside0.mk A50
 clear A50
 by_cases c6 : t266 = true
 ·subst c6
  have H1 : ((engrosslaw28_Pairs.f k l0).bind fun t267 => ((engrosslaw28_Pairs.f k l1).bind fun t270 => ((engrosslaw1_Cut.f a2 20).bind fun t273 => ((engrosslaw1_Cut.f a3 20).bind fun t274 => ((judge_Sorted.f k t267).bind fun t275 => ((engrosslaw28_sorted.f k t267).bind fun t276 => (if (t275 != t276) = true then (none) else ((judge_Same.f k t267 t270).bind fun t277 => ((engrossref23_EqPairs.f k t267 t270).bind fun t278 => (if (t277 != t278) = true then (none) else ((judge_Part.f k t267 t273 t274).bind fun t279 => ((engrossref23_Part.f k t267 t273 t274).bind fun t282 => ((engrossref23_EqPairs.f k t279 t282).bind fun t285 => (engrosslaw28_JudgeAll.j0 k t267 t270 t273 (!t285))))))))))))))) = some r := by rw [if_pos rfl] at H; exact H
  clear H
  have H := H1
  clear H1
  replace H := Option.bind_eq_some_iff.mp H
  obtain ⟨t267, A70, H⟩ := H
  replace H : ((engrosslaw28_Pairs.f k l1).bind fun t270 => ((engrosslaw1_Cut.f a2 20).bind fun t273 => ((engrosslaw1_Cut.f a3 20).bind fun t274 => ((judge_Sorted.f k t267).bind fun t275 => ((engrosslaw28_sorted.f k t267).bind fun t276 => (if (t275 != t276) = true then (none) else ((judge_Same.f k t267 t270).bind fun t277 => ((engrossref23_EqPairs.f k t267 t270).bind fun t278 => (if (t277 != t278) = true then (none) else ((judge_Part.f k t267 t273 t274).bind fun t279 => ((engrossref23_Part.f k t267 t273 t274).bind fun t282 => ((engrossref23_EqPairs.f k t279 t282).bind fun t285 => (engrosslaw28_JudgeAll.j0 k t267 t270 t273 (!t285)))))))))))))) = some r := H
  have A7 := Aside0.mk A70
  clear A70
  replace H := Option.bind_eq_some_iff.mp H
  obtain ⟨t270, A80, H⟩ := H
  replace H : ((engrosslaw1_Cut.f a2 20).bind fun t273 => ((engrosslaw1_Cut.f a3 20).bind fun t274 => ((judge_Sorted.f k t267).bind fun t275 => ((engrosslaw28_sorted.f k t267).bind fun t276 => (if (t275 != t276) = true then (none) else ((judge_Same.f k t267 t270).bind fun t277 => ((engrossref23_EqPairs.f k t267 t270).bind fun t278 => (if (t277 != t278) = true then (none) else ((judge_Part.f k t267 t273 t274).bind fun t279 => ((engrossref23_Part.f k t267 t273 t274).bind fun t282 => ((engrossref23_EqPairs.f k t279 t282).bind fun t285 => (engrosslaw28_JudgeAll.j0 k t267 t270 t273 (!t285))))))))))))) = some r := H
  have A8 := Aside0.mk A80
  clear A80
  replace H := Option.bind_eq_some_iff.mp H
  obtain ⟨t273, A90, H⟩ := H
  replace H : ((engrosslaw1_Cut.f a3 20).bind fun t274 => ((judge_Sorted.f k t267).bind fun t275 => ((engrosslaw28_sorted.f k t267).bind fun t276 => (if (t275 != t276) = true then (none) else ((judge_Same.f k t267 t270).bind fun t277 => ((engrossref23_EqPairs.f k t267 t270).bind fun t278 => (if (t277 != t278) = true then (none) else ((judge_Part.f k t267 t273 t274).bind fun t279 => ((engrossref23_Part.f k t267 t273 t274).bind fun t282 => ((engrossref23_EqPairs.f k t279 t282).bind fun t285 => (engrosslaw28_JudgeAll.j0 k t267 t270 t273 (!t285)))))))))))) = some r := H
  have A9 := Aside0.mk A90
  clear A90
  replace H := Option.bind_eq_some_iff.mp H
  obtain ⟨t274, A100, H⟩ := H
  replace H : ((judge_Sorted.f k t267).bind fun t275 => ((engrosslaw28_sorted.f k t267).bind fun t276 => (if (t275 != t276) = true then (none) else ((judge_Same.f k t267 t270).bind fun t277 => ((engrossref23_EqPairs.f k t267 t270).bind fun t278 => (if (t277 != t278) = true then (none) else ((judge_Part.f k t267 t273 t274).bind fun t279 => ((engrossref23_Part.f k t267 t273 t274).bind fun t282 => ((engrossref23_EqPairs.f k t279 t282).bind fun t285 => (engrosslaw28_JudgeAll.j0 k t267 t270 t273 (!t285))))))))))) = some r := H
  have A10 := Aside0.mk A100
  clear A100
  have HC11 := Aside0.mk H
  clear H
  go_enter Try.func3, Try.ntmps3
  go_upto_region 5 with (first | ((with_reducible refine gate_callee (f := 7) rfl ?_); refine goesL_ (some 17) rfl rfl Try.func7 (by kernel_rfl) rfl #[] rfl (by (try simp only [List.map_toArray, List.map_cons, List.map_nil]); first | done | rfl | (simp only [List.length_drop, List.length_take]; rfl)) ?_; (with_reducible refine (engrosslaw28_begun.calls k  true _ A5.out).mono ?_); rintro e w12 ⟨rfl, hb⟩; refine ⟨_, rfl, ?_⟩; replace HB := bW HB hb; (try clear hb); (try clear hb2); (try clear hk); (try clear hi)) | ((with_reducible refine gate_callee (f := 8) rfl ?_); refine goesL_ (some 21) rfl rfl Try.func8 (by kernel_rfl) rfl #[.slice A0 l0.length c0] rfl (by (try simp only [List.map_toArray, List.map_cons, List.map_nil]); first | done | rfl | (simp only [List.length_drop, List.length_take]; rfl)) ?_; (with_reducible refine (engrosslaw28_Pairs.calls k _ _ l0 t267 _ ?side1 ?side2 A7.out).mono ?_); (case side1 => repeat (first | exact (Kd.C_below HR0.out HB.out) | (with_reducible refine Kd.C_alloc ?_ _) | (with_reducible refine Kd.C_drewN ?_ _) | (with_reducible refine Kd.C_drew ?_))); (case side2 => exact HC0.out); rintro e w13 ⟨v268, rfl, ho0, hb⟩; refine ⟨_, rfl, ?_⟩; have HO269 := Aside0.mk (Kd.R_lower ho0 (below_size (bC HB))); replace HB := bW HB hb; (try clear hb); (try clear hb2); (try clear hk); (try clear hi); (try clear ho0)) | ((with_reducible refine gate_callee (f := 8) rfl ?_); refine goesL_ (some 23) rfl rfl Try.func8 (by kernel_rfl) rfl #[.slice A1 l1.length c1] rfl (by (try simp only [List.map_toArray, List.map_cons, List.map_nil]); first | done | rfl | (simp only [List.length_drop, List.length_take]; rfl)) ?_; (with_reducible refine (engrosslaw28_Pairs.calls k _ _ l1 t270 _ ?side1 ?side2 A8.out).mono ?_); (case side1 => repeat (first | exact (Kd.C_below HR1.out HB.out) | (with_reducible refine Kd.C_alloc ?_ _) | (with_reducible refine Kd.C_drewN ?_ _) | (with_reducible refine Kd.C_drew ?_))); (case side2 => exact HC1.out); rintro e w14 ⟨v271, rfl, ho0, hb⟩; refine ⟨_, rfl, ?_⟩; have HO272 := Aside0.mk (Kd.R_lower (Kd.R_new' ho0 (Kd.R_lt (by (with_reducible repeat (first | apply Kd.R_alloc | apply Kd.R_drewN | apply Kd.R_drew)); exact HO269.out))) (below_size (bC HB))); replace HO269 := Aside0.mk (Kd.R_elder' (by (with_reducible repeat (first | apply Kd.R_alloc | apply Kd.R_drewN | apply Kd.R_drew)); exact HO269.out) (Kd.R_base ho0) hb); replace HB := bW HB hb; (try clear hb); (try clear hb2); (try clear hk); (try clear hi); (try clear ho0)) | ((with_reducible refine gate_callee (f := 9) rfl ?_); refine goesL_ (some 25) rfl rfl Try.func9 (by kernel_rfl) rfl #[.string a2, .int .i64 20] rfl (by (try simp only [List.map_toArray, List.map_cons, List.map_nil]); first | done | rfl | (simp only [List.length_drop, List.length_take]; rfl)) ?_; (with_reducible refine (engrosslaw1_Cut.calls a2 20 t273 _ A9.out).mono ?_); rintro e w' ⟨rfl, ⟨nd, rfl⟩⟩; refine ⟨_, rfl, ?_⟩) | ((with_reducible refine gate_callee (f := 9) rfl ?_); refine goesL_ (some 27) rfl rfl Try.func9 (by kernel_rfl) rfl #[.string a3, .int .i64 20] rfl (by (try simp only [List.map_toArray, List.map_cons, List.map_nil]); first | done | rfl | (simp only [List.length_drop, List.length_take]; rfl)) ?_; (with_reducible refine (engrosslaw1_Cut.calls a3 20 t274 _ A10.out).mono ?_); rintro e w' ⟨rfl, ⟨nd, rfl⟩⟩; refine ⟨_, rfl, ?_⟩))
  (try (rw [drewN_self w14]; generalize hq_ : World.drewN w14 _ = w14; have n0_ : Aside0 (Kd.R k38 38 w14 w.heap.size (fun k_ => some k_ ≠ (v271 : Value).ownBlock) v268 t267) := ⟨by rw [← hq_]; exact (by (with_reducible repeat (first | apply Kd.R_alloc | apply Kd.R_drewN | apply Kd.R_drew)); exact Kd.R_mono HO269.out (fun _ hk => hk.2))⟩; have n1_ : Aside0 (Kd.R k38 38 w14 w.heap.size (fun k_ => some k_ ≠ (v268 : Value).ownBlock) v271 t270) := ⟨by rw [← hq_]; exact (by (with_reducible repeat (first | apply Kd.R_alloc | apply Kd.R_drewN | apply Kd.R_drew)); exact Kd.R_mono HO272.out (fun _ hk => hk.2))⟩; have n2_ := bH HB hq_.symm; clear HO269 HO272 HB hq_; have HO269 := n0_; have HO272 := n1_; have HB := n2_; clear n0_ n1_ n2_))
  (try simp only [Act.put, List.setIfInBounds_toArray, List.set_cons_zero, List.set_cons_succ])
  go_cut [53] (fun v53 wc => ∃ (kq : Nat) (x53_10 : Bool), v53 = .bool x53_10 ∧ Aside0 (engrosslaw28_JudgeAll.j0 kq t267 t270 t273 x53_10 = some r) ∧ Aside0 (kq ≤ k) ∧ Aside0 (Kd.R k38 38 wc w.heap.size (fun k_ => some k_ ≠ (v271 : Value).ownBlock) v268 t267) ∧ Aside0 (Kd.R k38 38 wc w.heap.size (fun k_ => some k_ ≠ (v268 : Value).ownBlock) v271 t270) ∧ Aside0 (Below w.heap.size w wc))
  case first =>
   have H := HC11.out
   clear HC11
   replace H := Option.bind_eq_some_iff.mp H
   obtain ⟨t275, A150, H⟩ := H
   replace H : ((engrosslaw28_sorted.f k t267).bind fun t276 => (if (t275 != t276) = true then (none) else ((judge_Same.f k t267 t270).bind fun t277 => ((engrossref23_EqPairs.f k t267 t270).bind fun t278 => (if (t277 != t278) = true then (none) else ((judge_Part.f k t267 t273 t274).bind fun t279 => ((engrossref23_Part.f k t267 t273 t274).bind fun t282 => ((engrossref23_EqPairs.f k t279 t282).bind fun t285 => (engrosslaw28_JudgeAll.j0 k t267 t270 t273 (!t285)))))))))) = some r := H
   have A15 := Aside0.mk A150
   clear A150
   replace H := Option.bind_eq_some_iff.mp H
   obtain ⟨t276, A160, H⟩ := H
   replace H : (if (t275 != t276) = true then (none) else ((judge_Same.f k t267 t270).bind fun t277 => ((engrossref23_EqPairs.f k t267 t270).bind fun t278 => (if (t277 != t278) = true then (none) else ((judge_Part.f k t267 t273 t274).bind fun t279 => ((engrossref23_Part.f k t267 t273 t274).bind fun t282 => ((engrossref23_EqPairs.f k t279 t282).bind fun t285 => (engrosslaw28_JudgeAll.j0 k t267 t270 t273 (!t285))))))))) = some r := H
   have A16 := Aside0.mk A160
   clear A160
   by_cases c17 : (t275 != t276) = true
   ·rw [if_pos c17] at H
    exact absurd H (by simp)
   ·rw [if_neg c17] at H
    have c17b0 : (t275 != t276) = false := by simpa using c17
    (try (have c17b1 : decide (t275 = t276) = true := by simpa using c17))
    (try (have c17b2 : (t275 == t276) = true := by simpa using c17))
    clear c17
    (first | rw [c17b0] | (simp only [i64_w, i32_w]; rw [c17b0]) | skip)
    replace H := Option.bind_eq_some_iff.mp H
    obtain ⟨t277, A180, H⟩ := H
    replace H : ((engrossref23_EqPairs.f k t267 t270).bind fun t278 => (if (t277 != t278) = true then (none) else ((judge_Part.f k t267 t273 t274).bind fun t279 => ((engrossref23_Part.f k t267 t273 t274).bind fun t282 => ((engrossref23_EqPairs.f k t279 t282).bind fun t285 => (engrosslaw28_JudgeAll.j0 k t267 t270 t273 (!t285))))))) = some r := H
    have A18 := Aside0.mk A180
    clear A180
    replace H := Option.bind_eq_some_iff.mp H
    obtain ⟨t278, A190, H⟩ := H
    replace H : (if (t277 != t278) = true then (none) else ((judge_Part.f k t267 t273 t274).bind fun t279 => ((engrossref23_Part.f k t267 t273 t274).bind fun t282 => ((engrossref23_EqPairs.f k t279 t282).bind fun t285 => (engrosslaw28_JudgeAll.j0 k t267 t270 t273 (!t285)))))) = some r := H
    have A19 := Aside0.mk A190
    clear A190
    by_cases c20 : (t277 != t278) = true
    ·rw [if_pos c20] at H
     exact absurd H (by simp)
    ·rw [if_neg c20] at H
     have c20b0 : (t277 != t278) = false := by simpa using c20
     (try (have c20b1 : decide (t277 = t278) = true := by simpa using c20))
     (try (have c20b2 : (t277 == t278) = true := by simpa using c20))
     clear c20
     replace H := Option.bind_eq_some_iff.mp H
     obtain ⟨t279, A210, H⟩ := H
     replace H : ((engrossref23_Part.f k t267 t273 t274).bind fun t282 => ((engrossref23_EqPairs.f k t279 t282).bind fun t285 => (engrosslaw28_JudgeAll.j0 k t267 t270 t273 (!t285)))) = some r := H
     have A21 := Aside0.mk A210
     clear A210
     replace H := Option.bind_eq_some_iff.mp H
     obtain ⟨t282, A220, H⟩ := H
     replace H : ((engrossref23_EqPairs.f k t279 t282).bind fun t285 => (engrosslaw28_JudgeAll.j0 k t267 t270 t273 (!t285))) = some r := H
     have A22 := Aside0.mk A220
     clear A220
     replace H := Option.bind_eq_some_iff.mp H
     obtain ⟨t285, A230, H⟩ := H
     replace H : (engrosslaw28_JudgeAll.j0 k t267 t270 t273 (!t285)) = some r := H
     have A23 := Aside0.mk A230
     clear A230
     have H' := Aside0.mk H
     clear H
     obtain ⟨Ao24, co24, eo24⟩ := Kd.R_slice HO269.out
     subst eo24
     go_wp2_with (first | ((with_reducible refine gate_callee (f := 10) rfl ?_); refine goesL_ (some 29) rfl rfl Try.func10 (by kernel_rfl) rfl #[.slice Ao24 t267.length co24] rfl (by (try simp only [List.map_toArray, List.map_cons, List.map_nil]); first | done | rfl | (simp only [List.length_drop, List.length_take]; rfl)) ?_; (with_reducible refine (judge_Sorted.calls k _ _ t267 t275 _ ?side1 ?side2 A15.out).mono ?_); (case side1 => repeat (first | exact (Kd.R_reads' HO269.out).2.2 | (with_reducible refine Kd.C_alloc ?_ _) | (with_reducible refine Kd.C_drewN ?_ _) | (with_reducible refine Kd.C_drew ?_))); (case side2 => exact (Kd.R_reads' HO269.out).2.1); rintro e w25 ⟨rfl, hb⟩; refine ⟨_, rfl, ?_⟩; replace HO269 := Aside0.mk (Kd.R_below (by (with_reducible repeat (first | apply Kd.R_alloc | apply Kd.R_drewN | apply Kd.R_drew)); exact HO269.out) hb); replace HO272 := Aside0.mk (Kd.R_below (by (with_reducible repeat (first | apply Kd.R_alloc | apply Kd.R_drewN | apply Kd.R_drew)); exact HO272.out) hb); replace HB := bW HB hb; (try clear hb); (try clear hb2); (try clear hk); (try clear hi)) | ((with_reducible refine gate_callee (f := 11) rfl ?_); refine goesL_ (some 31) rfl rfl Try.func11 (by kernel_rfl) rfl #[.slice Ao24 t267.length co24] rfl (by (try simp only [List.map_toArray, List.map_cons, List.map_nil]); first | done | rfl | (simp only [List.length_drop, List.length_take]; rfl)) ?_; (with_reducible refine (engrosslaw28_sorted.calls k _ _ t267 t276 _ ?side1 ?side2 A16.out).mono ?_); (case side1 => repeat (first | exact (Kd.R_reads' HO269.out).2.2 | (with_reducible refine Kd.C_alloc ?_ _) | (with_reducible refine Kd.C_drewN ?_ _) | (with_reducible refine Kd.C_drew ?_))); (case side2 => exact (Kd.R_reads' HO269.out).2.1); rintro e w26 ⟨rfl, hb⟩; refine ⟨_, rfl, ?_⟩; replace HO269 := Aside0.mk (Kd.R_below (by (with_reducible repeat (first | apply Kd.R_alloc | apply Kd.R_drewN | apply Kd.R_drew)); exact HO269.out) hb); replace HO272 := Aside0.mk (Kd.R_below (by (with_reducible repeat (first | apply Kd.R_alloc | apply Kd.R_drewN | apply Kd.R_drew)); exact HO272.out) hb); replace HB := bW HB hb; (try clear hb); (try clear hb2); (try clear hk); (try clear hi); obtain ⟨Ao27, co27, eo27⟩ := Kd.R_slice HO272.out; subst eo27) | (go_at_call 12; (with_reducible refine (judge_Same.calls k _ _ t267 _ _ t270 t277 _ ?side1 ?side2 ?side3 ?side4 A18.out).mono ?_); (case side1 => repeat (first | exact (Kd.R_reads' HO269.out).2.2 | (with_reducible refine Kd.C_alloc ?_ _) | (with_reducible refine Kd.C_drewN ?_ _) | (with_reducible refine Kd.C_drew ?_))); (case side2 => exact (Kd.R_reads' HO269.out).2.1); (case side3 => repeat (first | exact (Kd.R_reads' HO272.out).2.2 | (with_reducible refine Kd.C_alloc ?_ _) | (with_reducible refine Kd.C_drewN ?_ _) | (with_reducible refine Kd.C_drew ?_))); (case side4 => exact (Kd.R_reads' HO272.out).2.1); rintro e w28 ⟨rfl, hb⟩; replace HO269 := Aside0.mk (Kd.R_below (by (with_reducible repeat (first | apply Kd.R_alloc | apply Kd.R_drewN | apply Kd.R_drew)); exact HO269.out) hb); replace HO272 := Aside0.mk (Kd.R_below (by (with_reducible repeat (first | apply Kd.R_alloc | apply Kd.R_drewN | apply Kd.R_drew)); exact HO272.out) hb); replace HB := bW HB hb; (try clear hb); (try clear hb2); (try clear hk); (try clear hi)) | (go_at_call 13; (with_reducible refine (engrossref23_EqPairs.calls k _ _ t267 _ _ t270 t278 _ ?side1 ?side2 ?side3 ?side4 A19.out).mono ?_); (case side1 => repeat (first | exact (Kd.R_reads' HO269.out).2.2 | (with_reducible refine Kd.C_alloc ?_ _) | (with_reducible refine Kd.C_drewN ?_ _) | (with_reducible refine Kd.C_drew ?_))); (case side2 => exact (Kd.R_reads' HO269.out).2.1); (case side3 => repeat (first | exact (Kd.R_reads' HO272.out).2.2 | (with_reducible refine Kd.C_alloc ?_ _) | (with_reducible refine Kd.C_drewN ?_ _) | (with_reducible refine Kd.C_drew ?_))); (case side4 => exact (Kd.R_reads' HO272.out).2.1); rintro e w29 ⟨rfl, hb⟩; replace HO269 := Aside0.mk (Kd.R_below (by (with_reducible repeat (first | apply Kd.R_alloc | apply Kd.R_drewN | apply Kd.R_drew)); exact HO269.out) hb); replace HO272 := Aside0.mk (Kd.R_below (by (with_reducible repeat (first | apply Kd.R_alloc | apply Kd.R_drewN | apply Kd.R_drew)); exact HO272.out) hb); replace HB := bW HB hb; (try clear hb); (try clear hb2); (try clear hk); (try clear hi)) | (go_at_call 14; (with_reducible refine (judge_Part.calls k _ _ t267 t273 t274 t279 _ ?side1 ?side2 A21.out).mono ?_); (case side1 => repeat (first | exact (Kd.R_reads' HO269.out).2.2 | (with_reducible refine Kd.C_alloc ?_ _) | (with_reducible refine Kd.C_drewN ?_ _) | (with_reducible refine Kd.C_drew ?_))); (case side2 => exact (Kd.R_reads' HO269.out).2.1); rintro e w30 ⟨v280, rfl, ho0, hb⟩; have HO281 := Aside0.mk (Kd.R_lower (Kd.R_new' (Kd.R_new' ho0 (Kd.R_lt (by (with_reducible repeat (first | apply Kd.R_alloc | apply Kd.R_drewN | apply Kd.R_drew)); exact HO269.out))) (Kd.R_lt (by (with_reducible repeat (first | apply Kd.R_alloc | apply Kd.R_drewN | apply Kd.R_drew)); exact HO272.out))) (below_size (bC HB))); replace HO269 := Aside0.mk (Kd.R_elder' (by (with_reducible repeat (first | apply Kd.R_alloc | apply Kd.R_drewN | apply Kd.R_drew)); exact HO269.out) (Kd.R_base ho0) hb); replace HO272 := Aside0.mk (Kd.R_elder' (by (with_reducible repeat (first | apply Kd.R_alloc | apply Kd.R_drewN | apply Kd.R_drew)); exact HO272.out) (Kd.R_base ho0) hb); replace HB := bW HB hb; (try clear hb); (try clear hb2); (try clear hk); (try clear hi); (try clear ho0)) | (go_at_call 15; (with_reducible refine (engrossref23_Part.calls k _ _ t267 t273 t274 t282 _ ?side1 ?side2 A22.out).mono ?_); (case side1 => repeat (first | exact (Kd.R_reads' HO269.out).2.2 | (with_reducible refine Kd.C_alloc ?_ _) | (with_reducible refine Kd.C_drewN ?_ _) | (with_reducible refine Kd.C_drew ?_))); (case side2 => exact (Kd.R_reads' HO269.out).2.1); rintro e w31 ⟨v283, rfl, ho0, hb⟩; have HO284 := Aside0.mk (Kd.R_lower (Kd.R_new' (Kd.R_new' (Kd.R_new' ho0 (Kd.R_lt (by (with_reducible repeat (first | apply Kd.R_alloc | apply Kd.R_drewN | apply Kd.R_drew)); exact HO269.out))) (Kd.R_lt (by (with_reducible repeat (first | apply Kd.R_alloc | apply Kd.R_drewN | apply Kd.R_drew)); exact HO272.out))) (Kd.R_lt (by (with_reducible repeat (first | apply Kd.R_alloc | apply Kd.R_drewN | apply Kd.R_drew)); exact HO281.out))) (below_size (bC HB))); replace HO269 := Aside0.mk (Kd.R_elder' (by (with_reducible repeat (first | apply Kd.R_alloc | apply Kd.R_drewN | apply Kd.R_drew)); exact HO269.out) (Kd.R_base ho0) hb); replace HO272 := Aside0.mk (Kd.R_elder' (by (with_reducible repeat (first | apply Kd.R_alloc | apply Kd.R_drewN | apply Kd.R_drew)); exact HO272.out) (Kd.R_base ho0) hb); replace HO281 := Aside0.mk (Kd.R_elder' (by (with_reducible repeat (first | apply Kd.R_alloc | apply Kd.R_drewN | apply Kd.R_drew)); exact HO281.out) (Kd.R_base ho0) hb); replace HB := bW HB hb; (try clear hb); (try clear hb2); (try clear hk); (try clear hi); (try clear ho0); obtain ⟨Ao32, co32, eo32⟩ := Kd.R_slice HO281.out; subst eo32; obtain ⟨Ao33, co33, eo33⟩ := Kd.R_slice HO284.out; subst eo33) | (go_at_call 13; (with_reducible refine (engrossref23_EqPairs.calls k _ _ t279 _ _ t282 t285 _ ?side1 ?side2 ?side3 ?side4 A23.out).mono ?_); (case side1 => repeat (first | exact (Kd.R_reads' HO281.out).2.2 | (with_reducible refine Kd.C_alloc ?_ _) | (with_reducible refine Kd.C_drewN ?_ _) | (with_reducible refine Kd.C_drew ?_))); (case side2 => exact (Kd.R_reads' HO281.out).2.1); (case side3 => repeat (first | exact (Kd.R_reads' HO284.out).2.2 | (with_reducible refine Kd.C_alloc ?_ _) | (with_reducible refine Kd.C_drewN ?_ _) | (with_reducible refine Kd.C_drew ?_))); (case side4 => exact (Kd.R_reads' HO284.out).2.1); rintro e w34 ⟨rfl, hb⟩; replace HO269 := Aside0.mk (Kd.R_below (by (with_reducible repeat (first | apply Kd.R_alloc | apply Kd.R_drewN | apply Kd.R_drew)); exact HO269.out) hb); replace HO272 := Aside0.mk (Kd.R_below (by (with_reducible repeat (first | apply Kd.R_alloc | apply Kd.R_drewN | apply Kd.R_drew)); exact HO272.out) hb); replace HO281 := Aside0.mk (Kd.R_below (by (with_reducible repeat (first | apply Kd.R_alloc | apply Kd.R_drewN | apply Kd.R_drew)); exact HO281.out) hb); replace HO284 := Aside0.mk (Kd.R_below (by (with_reducible repeat (first | apply Kd.R_alloc | apply Kd.R_drewN | apply Kd.R_drew)); exact HO284.out) hb); replace HB := bW HB hb; (try clear hb); (try clear hb2); (try clear hk); (try clear hi)))
     go_meet
     case rel => exact ⟨_, (!t285), (by first | rfl | (simp; done) | (simp [*]; done)), H', ⟨by first | omega | exact Nat.le_refl _⟩, ⟨by (with_reducible repeat (first | apply Kd.R_alloc | apply Kd.R_drewN | apply Kd.R_drew)); exact Kd.R_mono HO269.out (fun _ hk => by first | exact hk.1.1.2 | exact hk.1.1 | exact hk.1.2 | exact hk.2 | exact hk.1)⟩, ⟨by (with_reducible repeat (first | apply Kd.R_alloc | apply Kd.R_drewN | apply Kd.R_drew)); exact Kd.R_mono HO272.out (fun _ hk => by first | exact hk.1.1.2 | exact hk.1.1 | exact hk.1.2 | exact hk.2 | exact hk.1)⟩, ⟨by repeat (first | (with_reducible first | exact HB.out | apply below_alloc | apply pw_below_drewN | apply below_drew1) | exact HB.out)⟩⟩
  case rest =>
   clear HC11
   try clear c1
   try clear c2
   try clear p2
   try clear c3
   try clear c6
   try clear c7
   try clear c8
   try clear c9
   try clear c10
   try clear c11
   try clear c17
   try clear c17b0
   try clear c17b1
   try clear c17b2
   try clear c20
   try clear c20b0
   try clear c20b1
   try clear c20b2
   obtain ⟨kq, x53_10, rfl, HA, HJ10, HO_0, HO_1, HB⟩ := hcut
   cases kq with
   | zero => exact absurd HA.out (by simp [engrosslaw28_JudgeAll.j0])
   | succ kj10 =>
    have H := HA.out
    clear HA
    simp only [engrosslaw28_JudgeAll.j0] at H
    by_cases c35 : x53_10 = true
    ·subst c35
     have H1 : (none) = some r := by rw [if_pos rfl] at H; exact H
     clear H
     have H := H1
     clear H1
     exact absurd H (by simp)
    ·replace c35 := Bool.eq_false_iff.mpr c35
     subst c35
     have H1 : ((judge_Val.f kj10 t267 t273).bind fun bt286 => ((engrossref23_Val.f kj10 t267 t273).bind fun bt291 => (if (bt286.2.2.2 != bt291.2.2.2) = true then (none) else ((engrossref1_EqVal.f bt286.1 bt286.2.1 bt286.2.2.1 bt291.1 bt291.2.1 bt291.2.2.1).bind fun t296 => (engrosslaw28_JudgeAll.j1 kj10 t267 t270 (!t296)))))) = some r := by rw [if_neg (show ¬ (false = true) by decide)] at H; exact H
     clear H
     have H := H1
     clear H1
     replace H := Option.bind_eq_some_iff.mp H
     obtain ⟨⟨t286, t287, t288, t289⟩, A360, H⟩ := H
     replace H : ((engrossref23_Val.f kj10 t267 t273).bind fun bt291 => (if (t289 != bt291.2.2.2) = true then (none) else ((engrossref1_EqVal.f t286 t287 t288 bt291.1 bt291.2.1 bt291.2.2.1).bind fun t296 => (engrosslaw28_JudgeAll.j1 kj10 t267 t270 (!t296))))) = some r := H
     have A36 := Aside0.mk A360
     clear A360
     replace H := Option.bind_eq_some_iff.mp H
     obtain ⟨⟨t291, t292, t293, t294⟩, A370, H⟩ := H
     replace H : (if (t289 != t294) = true then (none) else ((engrossref1_EqVal.f t286 t287 t288 t291 t292 t293).bind fun t296 => (engrosslaw28_JudgeAll.j1 kj10 t267 t270 (!t296)))) = some r := H
     have A37 := Aside0.mk A370
     clear A370
     have HC38 := Aside0.mk H
     clear H
     obtain ⟨Ao39, co39, eo39⟩ := Kd.R_slice HO_0.out
     subst eo39
     go_upto_region 9 with (first | ((with_reducible refine gate_callee (f := 16) rfl ?_); refine goesL_ (some 57) rfl rfl Try.func16 (by kernel_rfl) rfl #[.slice Ao39 t267.length co39, .string t273] rfl (by (try simp only [List.map_toArray, List.map_cons, List.map_nil]); first | done | rfl | (simp only [List.length_drop, List.length_take]; rfl)) ?_; (with_reducible refine (judge_Val.calls kj10 _ _ t267 t273 t286 t287 t288 t289 _ ?side1 ?side2 A36.out).mono ?_); (case side1 => repeat (first | exact (Kd.R_reads' HO_0.out).2.2 | (with_reducible refine Kd.C_alloc ?_ _) | (with_reducible refine Kd.C_drewN ?_ _) | (with_reducible refine Kd.C_drew ?_))); (case side2 => exact (Kd.R_reads' HO_0.out).2.1); rintro e w40 ⟨rfl, hb⟩; refine ⟨_, rfl, ?_⟩; replace HO_0 := Aside0.mk (Kd.R_below (by (with_reducible repeat (first | apply Kd.R_alloc | apply Kd.R_drewN | apply Kd.R_drew)); exact HO_0.out) hb); replace HO_1 := Aside0.mk (Kd.R_below (by (with_reducible repeat (first | apply Kd.R_alloc | apply Kd.R_drewN | apply Kd.R_drew)); exact HO_1.out) hb); replace HB := bW HB hb; (try clear hb); (try clear hb2); (try clear hk); (try clear hi)) | ((with_reducible refine gate_dst (N := 10) rfl ?_); refine box_event ?hg (N := 10) ?hd (cs := #[.int .i64 0, .float .f64 0, .string (⟨#[]⟩ : ByteArray)]) (t := 31) ?hr ?_; (case hd => rfl); (case hg => rfl); (case hr => first | (go_simp; done) | (go_simp; rfl)); intro gb290 hg w41 hbox hb; have BK290 := Aside0.mk (hbox); have GW290 := bZ HB hg; have GE290 := bZ HB hg; replace HO_0 := Aside0.mk (Kd.R_below (by (with_reducible repeat (first | apply Kd.R_alloc | apply Kd.R_drewN | apply Kd.R_drew)); exact HO_0.out) hb); replace HO_1 := Aside0.mk (Kd.R_below (by (with_reducible repeat (first | apply Kd.R_alloc | apply Kd.R_drewN | apply Kd.R_drew)); exact HO_1.out) hb); replace HB := bW HB hb; clear hb hbox hg; obtain ⟨hcz42_0, hcz42_1, hcz42_2, hfz42_0, hfz42_1, hfz42_2⟩ := bf3 (w := w41) BK290) | ((with_reducible refine gate_callee (f := 17) rfl ?_); refine goesL_ (some 63) rfl rfl Try.func17 (by kernel_rfl) rfl #[.slice Ao39 t267.length co39, .string t273] rfl (by (try simp only [List.map_toArray, List.map_cons, List.map_nil]); first | done | rfl | (simp only [List.length_drop, List.length_take]; rfl)) ?_; (with_reducible refine (engrossref23_Val.calls kj10 _ _ t267 t273 t291 t292 t293 t294 _ ?side1 ?side2 A37.out).mono ?_); (case side1 => refine (Kd.R_reads' (e := 38) (base := w.heap.size) (ok := fun k_ => some k_ ≠ (v271 : Value).ownBlock) (n := t267.length) (c := co39) ?_).2.2; exact (by (with_reducible repeat (first | apply Kd.R_alloc | apply Kd.R_drewN | apply Kd.R_drew)); exact (Kd.R_mono (Kd.R_far (p := ⟨gb290, 2, none⟩) (Kd.R_far (p := ⟨gb290, 1, none⟩) (Kd.R_far (p := ⟨gb290, 0, none⟩) (Kd.R_types HO_0.out BK290.out (by decide)) (fun _ hk => hk.2) (.int .i64 t286)) (fun _ hk => hk.2) (.float .f64 t287)) (fun _ hk => hk.2) (.string t288)) (fun _ h_ => h_.1)))); (case side2 => exact (Kd.R_reads' HO_0.out).2.1); rintro e w43 ⟨rfl, hb⟩; refine ⟨_, rfl, ?_⟩; replace HO_0 := Aside0.mk (Kd.R_below (by (with_reducible repeat (first | apply Kd.R_alloc | apply Kd.R_drewN | apply Kd.R_drew)); exact (Kd.R_mono (Kd.R_far (p := ⟨gb290, 2, none⟩) (Kd.R_far (p := ⟨gb290, 1, none⟩) (Kd.R_far (p := ⟨gb290, 0, none⟩) (Kd.R_types HO_0.out BK290.out (by decide)) (fun _ hk => hk.2) (.int .i64 t286)) (fun _ hk => hk.2) (.float .f64 t287)) (fun _ hk => hk.2) (.string t288)) (fun _ h_ => h_.1))) hb); replace HO_1 := Aside0.mk (Kd.R_below (by (with_reducible repeat (first | apply Kd.R_alloc | apply Kd.R_drewN | apply Kd.R_drew)); exact (Kd.R_mono (Kd.R_far (p := ⟨gb290, 2, none⟩) (Kd.R_far (p := ⟨gb290, 1, none⟩) (Kd.R_far (p := ⟨gb290, 0, none⟩) (Kd.R_types HO_1.out BK290.out (by decide)) (fun _ hk => hk.2) (.int .i64 t286)) (fun _ hk => hk.2) (.float .f64 t287)) (fun _ hk => hk.2) (.string t288)) (fun _ h_ => h_.1))) hb); replace BK290 := Aside0.mk (blk_below (g := gb290) (o := .cells #[.int .i64 t286, .float .f64 t287, .string t288] 31 (0, 0)) (bR BK290) hb); replace HB := bW HB hb; (try clear hb); (try clear hb2); (try clear hk); (try clear hi)) | ((with_reducible refine gate_dst (N := 12) rfl ?_); refine box_event ?hg (N := 12) ?hd (cs := #[.int .i64 0, .float .f64 0, .string (⟨#[]⟩ : ByteArray)]) (t := 31) ?hr ?_; (case hd => rfl); (case hg => rfl); (case hr => first | (go_simp; done) | (go_simp; rfl)); intro gb295 hg w44 hbox hb; have BK295 := Aside0.mk (hbox); have GW295 := bZ HB hg; have GE295 := bZ HB hg; have NB290_295 := bL BK290 hg; have NB295_290 := bG BK290 hg; replace HO_0 := Aside0.mk (Kd.R_below (by (with_reducible repeat (first | apply Kd.R_alloc | apply Kd.R_drewN | apply Kd.R_drew)); exact HO_0.out) hb); replace HO_1 := Aside0.mk (Kd.R_below (by (with_reducible repeat (first | apply Kd.R_alloc | apply Kd.R_drewN | apply Kd.R_drew)); exact HO_1.out) hb); replace BK290 := bB BK290 hb; replace HB := bW HB hb; clear hb hbox hg; have hnb45 := NB295_290.out; have hnc45 := NB290_295.out; obtain ⟨hcz46_0, hcz46_1, hcz46_2, hfz46_0, hfz46_1, hfz46_2⟩ := bf3 (w := w44) BK295))
     (try simp only [Act.put, List.setIfInBounds_toArray, List.set_cons_zero, List.set_cons_succ])
     go_cut [74] (fun v74 wc => ∃ (kq : Nat) (x74_37 : Bool), v74 = .bool x74_37 ∧ Aside0 (engrosslaw28_JudgeAll.j1 kq t267 t270 x74_37 = some r) ∧ Aside0 (kq ≤ kj10) ∧ Aside0 (Kd.R k38 38 wc w.heap.size (fun k_ => some k_ ≠ (v271 : Value).ownBlock) (.slice Ao39 t267.length co39) t267) ∧ Aside0 (Kd.R k38 38 wc w.heap.size (fun k_ => some k_ ≠ ((.slice Ao39 t267.length co39) : Value).ownBlock) v271 t270) ∧ Aside0 (wc.heap[gb290]? = some (.cells #[.int .i64 t286, .float .f64 t287, .string t288] 31 (0, 0))) ∧ Aside0 (wc.heap[gb295]? = some (.cells #[.int .i64 t291, .float .f64 t292, .string t293] 31 (0, 0))) ∧ Aside0 (Below w.heap.size w wc))
     case first =>
      have H := HC38.out
      clear HC38
      by_cases c47 : (t289 != t294) = true
      ·rw [if_pos c47] at H
       exact absurd H (by simp)
      ·rw [if_neg c47] at H
       have c47b0 : (t289 != t294) = false := by simpa using c47
       (try (have c47b1 : decide (t289 = t294) = true := by simpa using c47))
       (try (have c47b2 : (t289 == t294) = true := by simpa using c47))
       clear c47
       (first | rw [c47b0] | (simp only [i64_w, i32_w]; rw [c47b0]) | skip)
       replace H := Option.bind_eq_some_iff.mp H
       obtain ⟨t296, A480, H⟩ := H
       replace H : (engrosslaw28_JudgeAll.j1 kj10 t267 t270 (!t296)) = some r := H
       have A48 := Aside0.mk A480
       clear A480
       have H' := Aside0.mk H
       clear H
       have hnb49 := NB290_295.out
       have hnc49 := NB295_290.out
       obtain ⟨hcz50_0, hcz50_1, hcz50_2, hfz50_0, hfz50_1, hfz50_2⟩ := bf3 (w := w44) BK290
       obtain ⟨hcz51_0, hcz51_1, hcz51_2, hfz51_0, hfz51_1, hfz51_2⟩ := bf3 (w := w44) BK295
       go_wp2_with (first | (go_at_call 18; (with_reducible refine (engrossref1_EqVal.calls t286 t287 t288 t291 t292 t293 t296 _ A48.out).mono ?_); rintro e w52 ⟨rfl, hb⟩; replace HO_0 := Aside0.mk (Kd.R_below (by (with_reducible repeat (first | apply Kd.R_alloc | apply Kd.R_drewN | apply Kd.R_drew)); exact (Kd.R_mono (Kd.R_far (p := ⟨gb295, 2, none⟩) (Kd.R_far (p := ⟨gb295, 1, none⟩) (Kd.R_far (p := ⟨gb295, 0, none⟩) (Kd.R_types HO_0.out BK295.out (by decide)) (fun _ hk => hk.2) (.int .i64 t291)) (fun _ hk => hk.2) (.float .f64 t292)) (fun _ hk => hk.2) (.string t293)) (fun _ h_ => h_.1))) hb); replace HO_1 := Aside0.mk (Kd.R_below (by (with_reducible repeat (first | apply Kd.R_alloc | apply Kd.R_drewN | apply Kd.R_drew)); exact (Kd.R_mono (Kd.R_far (p := ⟨gb295, 2, none⟩) (Kd.R_far (p := ⟨gb295, 1, none⟩) (Kd.R_far (p := ⟨gb295, 0, none⟩) (Kd.R_types HO_1.out BK295.out (by decide)) (fun _ hk => hk.2) (.int .i64 t291)) (fun _ hk => hk.2) (.float .f64 t292)) (fun _ hk => hk.2) (.string t293)) (fun _ h_ => h_.1))) hb); replace BK290 := bB BK290 hb; replace BK295 := Aside0.mk (blk_below (g := gb295) (o := .cells #[.int .i64 t291, .float .f64 t292, .string t293] 31 (0, 0)) (bR BK295) hb); replace HB := bW HB hb; (try clear hb); (try clear hb2); (try clear hk); (try clear hi)))
       go_meet
       case rel => exact ⟨_, (!t296), (by first | rfl | (simp; done) | (simp [*]; done)), H', ⟨by have := HJ10.out; first | omega | exact Nat.le_refl _⟩, ⟨by (with_reducible repeat (first | apply Kd.R_alloc | apply Kd.R_drewN | apply Kd.R_drew)); exact HO_0.out⟩, ⟨by (with_reducible repeat (first | apply Kd.R_alloc | apply Kd.R_drewN | apply Kd.R_drew)); exact HO_1.out⟩, ⟨by (with_reducible repeat (first | refine blk_drewN ?_ _ | refine blk_drew ?_ | refine blk_alloc ?_ _)); exact BK290.out⟩, ⟨by (with_reducible repeat (first | refine blk_drewN ?_ _ | refine blk_drew ?_ | refine blk_alloc ?_ _)); exact BK295.out⟩, ⟨by repeat (first | (with_reducible first | exact HB.out | apply below_alloc | apply pw_below_drewN | apply below_drew1 | refine below_set ?_ GE290.out | refine below_set ?_ GE295.out) | exact HB.out)⟩⟩
     case rest =>
      clear HC38
      try clear c1
      try clear c2
      try clear p2
      try clear c3
      try clear c4
      try clear c6
      try clear c7
      try clear c8
      try clear c9
      try clear c10
      try clear c11
      try clear c16
      try clear c17
      try clear c17b0
      try clear c17b1
      try clear c17b2
      try clear c20
      try clear c20b0
      try clear c20b1
      try clear c20b2
      try clear c35
      try clear c45
      try clear c47
      try clear c47b0
      try clear c47b1
      try clear c47b2
      try clear c49
      try clear hcz42_0
      try clear hcz42_1
      try clear hcz42_2
      try clear hcz46_0
      try clear hcz46_1
      try clear hcz46_2
      try clear hcz50_0
      try clear hcz50_1
      try clear hcz50_2
      try clear hcz51_0
      try clear hcz51_1
      try clear hcz51_2
      try clear hfz42_0
      try clear hfz42_1
      try clear hfz42_2
      try clear hfz46_0
      try clear hfz46_1
      try clear hfz46_2
      try clear hfz50_0
      try clear hfz50_1
      try clear hfz50_2
      try clear hfz51_0
      try clear hfz51_1
      try clear hfz51_2
      try clear p2
      obtain ⟨kq, x74_37, rfl, HA, HJ37, HO_0, HO_1, BK290, BK295, HB⟩ := hcut
      cases kq with
      | zero => exact absurd HA.out (by simp [engrosslaw28_JudgeAll.j1])
      | succ kj37 =>
       have H := HA.out
       clear HA
       simp only [engrosslaw28_JudgeAll.j1] at H
       by_cases c53 : x74_37 = true
       ·subst c53
        have H1 : (none) = some r := by rw [if_pos rfl] at H; exact H
        clear H
        have H := H1
        clear H1
        exact absurd H (by simp)
       ·replace c53 := Bool.eq_false_iff.mpr c53
        subst c53
        have H1 : ((judge_Over.f kj37 t267 t270).bind fun t297 => ((engrosslaw28_sorted.f kj37 t267).bind fun t300 => (if t300 = true then (engrosslaw28_JudgeAll.l0 kj37 t270 t297 t267 0) else (some ((t297.length : Int) == 0))))) = some r := by rw [if_neg (show ¬ (false = true) by decide)] at H; exact H
        clear H
        have H := H1
        clear H1
        replace H := Option.bind_eq_some_iff.mp H
        obtain ⟨t297, A540, H⟩ := H
        replace H : ((engrosslaw28_sorted.f kj37 t267).bind fun t300 => (if t300 = true then (engrosslaw28_JudgeAll.l0 kj37 t270 t297 t267 0) else (some ((t297.length : Int) == 0)))) = some r := H
        have A54 := Aside0.mk A540
        clear A540
        replace H := Option.bind_eq_some_iff.mp H
        obtain ⟨t300, A550, H⟩ := H
        replace H : (if t300 = true then (engrosslaw28_JudgeAll.l0 kj37 t270 t297 t267 0) else (some ((t297.length : Int) == 0))) = some r := H
        have A55 := Aside0.mk A550
        clear A550
        by_cases c56 : t300 = true
        ·subst c56
         have H1 : (engrosslaw28_JudgeAll.l0 kj37 t270 t297 t267 0) = some r := by rw [if_pos rfl] at H; exact H
         clear H
         have H := H1
         clear H1
         have H' := Aside0.mk H
         clear H
         obtain ⟨Ao57, co57, eo57⟩ := Kd.R_slice HO_1.out
         subst eo57
         go_wp2_with (first | ((with_reducible refine gate_callee (f := 19) rfl ?_); refine goesL_ (some 77) rfl rfl Try.func19 (by kernel_rfl) rfl #[.slice Ao39 t267.length co39, .slice Ao57 t270.length co57] rfl (by (try simp only [List.map_toArray, List.map_cons, List.map_nil]); first | done | rfl | (simp only [List.length_drop, List.length_take]; rfl)) ?_; (with_reducible refine (judge_Over.calls kj37 _ _ t267 _ _ t270 t297 _ ?side1 ?side2 ?side3 ?side4 A54.out).mono ?_); (case side1 => repeat (first | exact (Kd.R_reads' HO_0.out).2.2 | (with_reducible refine Kd.C_alloc ?_ _) | (with_reducible refine Kd.C_drewN ?_ _) | (with_reducible refine Kd.C_drew ?_))); (case side2 => exact (Kd.R_reads' HO_0.out).2.1); (case side3 => repeat (first | exact (Kd.R_reads' HO_1.out).2.2 | (with_reducible refine Kd.C_alloc ?_ _) | (with_reducible refine Kd.C_drewN ?_ _) | (with_reducible refine Kd.C_drew ?_))); (case side4 => exact (Kd.R_reads' HO_1.out).2.1); rintro e w58 ⟨v298, rfl, ho0, hb⟩; refine ⟨_, rfl, ?_⟩; have HO299 := Aside0.mk (Kd.R_lower (Kd.R_new' (Kd.R_new' ho0 (Kd.R_lt (by (with_reducible repeat (first | apply Kd.R_alloc | apply Kd.R_drewN | apply Kd.R_drew)); exact HO_0.out))) (Kd.R_lt (by (with_reducible repeat (first | apply Kd.R_alloc | apply Kd.R_drewN | apply Kd.R_drew)); exact HO_1.out))) (below_size (bC HB))); replace HO_0 := Aside0.mk (Kd.R_elder' (by (with_reducible repeat (first | apply Kd.R_alloc | apply Kd.R_drewN | apply Kd.R_drew)); exact HO_0.out) (Kd.R_base ho0) hb); replace HO_1 := Aside0.mk (Kd.R_elder' (by (with_reducible repeat (first | apply Kd.R_alloc | apply Kd.R_drewN | apply Kd.R_drew)); exact HO_1.out) (Kd.R_base ho0) hb); replace BK290 := bB BK290 hb; replace BK295 := bB BK295 hb; replace HB := bW HB hb; (try clear hb); (try clear hb2); (try clear hk); (try clear hi); (try clear ho0)) | ((with_reducible refine gate_callee (f := 11) rfl ?_); refine goesL_ (some 79) rfl rfl Try.func11 (by kernel_rfl) rfl #[.slice Ao39 t267.length co39] rfl (by (try simp only [List.map_toArray, List.map_cons, List.map_nil]); first | done | rfl | (simp only [List.length_drop, List.length_take]; rfl)) ?_; (with_reducible refine (engrosslaw28_sorted.calls kj37 _ _ t267 true _ ?side1 ?side2 A55.out).mono ?_); (case side1 => repeat (first | exact (Kd.R_reads' HO_0.out).2.2 | (with_reducible refine Kd.C_alloc ?_ _) | (with_reducible refine Kd.C_drewN ?_ _) | (with_reducible refine Kd.C_drew ?_))); (case side2 => exact (Kd.R_reads' HO_0.out).2.1); rintro e w59 ⟨rfl, hb⟩; refine ⟨_, rfl, ?_⟩; replace HO_0 := Aside0.mk (Kd.R_below (by (with_reducible repeat (first | apply Kd.R_alloc | apply Kd.R_drewN | apply Kd.R_drew)); exact HO_0.out) hb); replace HO_1 := Aside0.mk (Kd.R_below (by (with_reducible repeat (first | apply Kd.R_alloc | apply Kd.R_drewN | apply Kd.R_drew)); exact HO_1.out) hb); replace HO299 := Aside0.mk (Kd.R_below (by (with_reducible repeat (first | apply Kd.R_alloc | apply Kd.R_drewN | apply Kd.R_drew)); exact HO299.out) hb); replace BK290 := bB BK290 hb; replace BK295 := bB BK295 hb; replace HB := bW HB hb; (try clear hb); (try clear hb2); (try clear hk); (try clear hi)))
         go_loopg [15, 16] kj37 (fun kq v15 v16 w' => ∃ (x15_3 : List (S38)) (x16_3 : Int), v16 = .int .i64 x16_3 ∧ Aside0 (engrosslaw28_JudgeAll.l0 kq t270 t297 x15_3 x16_3 = some r) ∧ Aside0 (kq ≤ kj37) ∧ Aside0 (Kd.R k38 38 w' w.heap.size (fun k_ => some k_ ≠ (v298 : Value).ownBlock ∧ some k_ ≠ (v15 : Value).ownBlock) (.slice Ao57 t270.length co57) t270) ∧ Aside0 (Kd.R k38 38 w' w.heap.size (fun k_ => some k_ ≠ ((.slice Ao57 t270.length co57) : Value).ownBlock ∧ some k_ ≠ (v15 : Value).ownBlock) v298 t297) ∧ Aside0 (Kd.R k38 38 w' w.heap.size (fun k_ => some k_ ≠ ((.slice Ao57 t270.length co57) : Value).ownBlock ∧ some k_ ≠ (v298 : Value).ownBlock) v15 x15_3) ∧ Aside0 (w'.heap[gb290]? = some (.cells #[.int .i64 t286, .float .f64 t287, .string t288] 31 (0, 0))) ∧ Aside0 (w'.heap[gb295]? = some (.cells #[.int .i64 t291, .float .f64 t292, .string t293] 31 (0, 0))) ∧ Aside0 (Below w.heap.size w w'))
         case atStart => exact ⟨(t267), (0), (by first | rfl | (simp; done) | (simp [*]; done)), H', ⟨Nat.le_refl _⟩, ⟨by (with_reducible repeat (first | apply Kd.R_alloc | apply Kd.R_drewN | apply Kd.R_drew)); exact Kd.R_mono HO_1.out (fun _ hk => ⟨hk.2, hk.1⟩)⟩, ⟨by (with_reducible repeat (first | apply Kd.R_alloc | apply Kd.R_drewN | apply Kd.R_drew)); exact Kd.R_mono HO299.out (fun _ hk => ⟨hk.2, hk.1.2⟩)⟩, ⟨by (with_reducible repeat (first | apply Kd.R_alloc | apply Kd.R_drewN | apply Kd.R_drew)); exact HO_0.out⟩, ⟨by (with_reducible repeat (first | refine blk_drewN ?_ _ | refine blk_drew ?_ | refine blk_alloc ?_ _)); exact BK290.out⟩, ⟨by (with_reducible repeat (first | refine blk_drewN ?_ _ | refine blk_drew ?_ | refine blk_alloc ?_ _)); exact BK295.out⟩, ⟨by repeat (first | (with_reducible first | exact HB.out | apply below_alloc | apply pw_below_drewN | apply below_drew1 | refine below_set ?_ GE290.out | refine below_set ?_ GE295.out) | exact HB.out)⟩⟩
         case round =>
          clear H'
          try clear c1
          try clear c2
          try clear p2
          try clear c3
          try clear c4
          try clear c5
          try clear c6
          try clear c7
          try clear c8
          try clear c9
          try clear c10
          try clear c11
          try clear c16
          try clear c17
          try clear c17b0
          try clear c17b1
          try clear c17b2
          try clear c19
          try clear c20
          try clear c20b0
          try clear c20b1
          try clear c20b2
          try clear c35
          try clear c45
          try clear c47
          try clear c47b0
          try clear c47b1
          try clear c47b2
          try clear c49
          try clear c53
          try clear c56
          try clear hcz42_0
          try clear hcz42_1
          try clear hcz42_2
          try clear hcz46_0
          try clear hcz46_1
          try clear hcz46_2
          try clear hcz50_0
          try clear hcz50_1
          try clear hcz50_2
          try clear hcz51_0
          try clear hcz51_1
          try clear hcz51_2
          try clear hfz42_0
          try clear hfz42_1
          try clear hfz42_2
          try clear hfz46_0
          try clear hfz46_1
          try clear hfz46_2
          try clear hfz50_0
          try clear hfz50_1
          try clear hfz50_2
          try clear hfz51_0
          try clear hfz51_1
          try clear hfz51_2
          try clear p2
          obtain ⟨x15_3, x16_3, rfl, HA, HK3, HO_1, HO_14, HO_15, BK290, BK295, HB⟩ := hrel
          cases gk with
          | zero => exact absurd HA.out (by simp [engrosslaw28_JudgeAll.l0])
          | succ k3 =>
           have H := HA.out
           clear HA
           simp only [engrosslaw28_JudgeAll.l0] at H
           by_cases c60 : x16_3 < (t270.length : Int)
           ·rw [if_pos c60] at H
            have c60b0 : decide (x16_3 < (t270.length : Int)) = true := decide_eq_true c60
            clear c60
            by_cases c61 : 0 ≤ x16_3
            ·rw [if_pos c61] at H
             have c61b0 : decide (0 ≤ x16_3) = true := decide_eq_true c61
             clear c61
             replace H := Option.bind_eq_some_iff.mp H
             obtain ⟨t304, A620, H⟩ := H
             replace H : (if t304 = true then ((engrossref1_MayVal.f ((rd_T38 t270 x16_3).f1.f0) ((rd_T38 t270 x16_3).f1.f1) ((rd_T38 t270 x16_3).f1.f2)).bind fun t306 => (if t306 = true then ((engrossref23_Set.f k3 x15_3 ((rd_T38 t270 x16_3).f0) ((rd_T38 t270 x16_3).f1.f0) ((rd_T38 t270 x16_3).f1.f1) ((rd_T38 t270 x16_3).f1.f2)).bind fun t309 => (engrosslaw28_JudgeAll.l0 k3 t270 t297 t309 (wrap64 (x16_3 + 1)))) else (engrosslaw28_JudgeAll.l0 k3 t270 t297 x15_3 (wrap64 (x16_3 + 1))))) else (engrosslaw28_JudgeAll.l0 k3 t270 t297 x15_3 (wrap64 (x16_3 + 1)))) = some r := H
             have A62 := Aside0.mk A620
             clear A620
             by_cases c63 : t304 = true
             ·subst c63
              have H1 : ((engrossref1_MayVal.f ((rd_T38 t270 x16_3).f1.f0) ((rd_T38 t270 x16_3).f1.f1) ((rd_T38 t270 x16_3).f1.f2)).bind fun t306 => (if t306 = true then ((engrossref23_Set.f k3 x15_3 ((rd_T38 t270 x16_3).f0) ((rd_T38 t270 x16_3).f1.f0) ((rd_T38 t270 x16_3).f1.f1) ((rd_T38 t270 x16_3).f1.f2)).bind fun t309 => (engrosslaw28_JudgeAll.l0 k3 t270 t297 t309 (wrap64 (x16_3 + 1)))) else (engrosslaw28_JudgeAll.l0 k3 t270 t297 x15_3 (wrap64 (x16_3 + 1))))) = some r := by rw [if_pos rfl] at H; exact H
              clear H
              have H := H1
              clear H1
              replace H := Option.bind_eq_some_iff.mp H
              obtain ⟨t306, A640, H⟩ := H
              replace H : (if t306 = true then ((engrossref23_Set.f k3 x15_3 ((rd_T38 t270 x16_3).f0) ((rd_T38 t270 x16_3).f1.f0) ((rd_T38 t270 x16_3).f1.f1) ((rd_T38 t270 x16_3).f1.f2)).bind fun t309 => (engrosslaw28_JudgeAll.l0 k3 t270 t297 t309 (wrap64 (x16_3 + 1)))) else (engrosslaw28_JudgeAll.l0 k3 t270 t297 x15_3 (wrap64 (x16_3 + 1)))) = some r := H
              have A64 := Aside0.mk A640
              clear A640
              by_cases c65 : t306 = true
              ·subst c65
               have H1 : ((engrossref23_Set.f k3 x15_3 ((rd_T38 t270 x16_3).f0) ((rd_T38 t270 x16_3).f1.f0) ((rd_T38 t270 x16_3).f1.f1) ((rd_T38 t270 x16_3).f1.f2)).bind fun t309 => (engrosslaw28_JudgeAll.l0 k3 t270 t297 t309 (wrap64 (x16_3 + 1)))) = some r := by rw [if_pos rfl] at H; exact H
               clear H
               have H := H1
               clear H1
               replace H := Option.bind_eq_some_iff.mp H
               obtain ⟨t309, A660, H⟩ := H
               replace H : (engrosslaw28_JudgeAll.l0 k3 t270 t297 t309 (wrap64 (x16_3 + 1))) = some r := H
               have A66 := Aside0.mk A660
               clear A660
               have H' := Aside0.mk H
               clear H
               have p303 : 0 ≤ (x16_3 : Int) := of_decide_eq_true (by first | (with_reducible assumption) | assumption)
               have q303 : x16_3 < (t270.length : Int) := of_decide_eq_true (by first | (with_reducible assumption) | assumption)
               obtain ⟨ad303, e303, hx303_0, hx303_1, hx303_2, hx303_3⟩ := at_T38 (Kd.R_reads' HO_1.out).2.2 x16_3 p303 q303
               cases e303
               replace p303 := eq_true p303
               replace q303 := eq_true q303
               try go_wp2_with (first | ((with_reducible refine gate_callee (f := 20) rfl ?_); refine goesL_ (some 96) rfl rfl Try.func20 (by kernel_rfl) rfl #[.string ((rd_T38 t270 x16_3).f0)] rfl (by (try simp only [List.map_toArray, List.map_cons, List.map_nil]); first | done | rfl | (simp only [List.length_drop, List.length_take]; rfl)) ?_; (with_reducible refine (engrossref1_MayKey.calls ((rd_T38 t270 x16_3).f0) true _ A62.out).mono ?_); rintro e w' ⟨rfl, ⟨nd, rfl⟩⟩; refine ⟨_, rfl, ?_⟩; have p305 : 0 ≤ (x16_3 : Int) := of_decide_eq_true (by first | (with_reducible assumption) | assumption); have q305 : x16_3 < (t270.length : Int) := of_decide_eq_true (by first | (with_reducible assumption) | assumption); obtain ⟨ad305, e305, hx305_0, hx305_1, hx305_2, hx305_3⟩ := at_T38 (Kd.R_reads' HO_1.out).2.2 x16_3 p305 q305; obtain rfl : ad303 = ad305 := (by injection e305); replace p305 := eq_true p305; replace q305 := eq_true q305) | (go_at_call 21; (with_reducible refine (engrossref1_MayVal.calls ((rd_T38 t270 x16_3).f1.f0) ((rd_T38 t270 x16_3).f1.f1) ((rd_T38 t270 x16_3).f1.f2) true _ A64.out).mono ?_); rintro e w67 ⟨rfl, hb⟩; replace HO_1 := Aside0.mk (Kd.R_below (by (with_reducible repeat (first | apply Kd.R_alloc | apply Kd.R_drewN | apply Kd.R_drew)); exact HO_1.out) hb); replace HO_14 := Aside0.mk (Kd.R_below (by (with_reducible repeat (first | apply Kd.R_alloc | apply Kd.R_drewN | apply Kd.R_drew)); exact HO_14.out) hb); replace HO_15 := Aside0.mk (Kd.R_below (by (with_reducible repeat (first | apply Kd.R_alloc | apply Kd.R_drewN | apply Kd.R_drew)); exact HO_15.out) hb); replace BK290 := bB BK290 hb; replace BK295 := bB BK295 hb; replace HB := bW HB hb; (try clear hb); (try clear hb2); (try clear hk); (try clear hi)))
               replace HO_1 := Aside0.mk (Kd.R_drew HO_1.out)
               replace HO_14 := Aside0.mk (Kd.R_drew HO_14.out)
               replace HO_15 := Aside0.mk (Kd.R_drew HO_15.out)
               replace BK290 := Aside0.mk (blk_drew BK290.out)
               replace BK295 := Aside0.mk (blk_drew BK295.out)
               replace HB := Aside0.mk (below_drew1 HB.out)
               have p307 : 0 ≤ (x16_3 : Int) := of_decide_eq_true (by first | (with_reducible assumption) | assumption)
               have q307 : x16_3 < (t270.length : Int) := of_decide_eq_true (by first | (with_reducible assumption) | assumption)
               obtain ⟨ad307, e307, hx307_0, hx307_1, hx307_2, hx307_3⟩ := at_T38 (Kd.R_reads' HO_1.out).2.2 x16_3 p307 q307
               obtain rfl : ad303 = ad307 := (by injection e307)
               replace p307 := eq_true p307
               replace q307 := eq_true q307
               have p308 : 0 ≤ (x16_3 : Int) := of_decide_eq_true (by first | (with_reducible assumption) | assumption)
               have q308 : x16_3 < (t270.length : Int) := of_decide_eq_true (by first | (with_reducible assumption) | assumption)
               obtain ⟨ad308, e308, hx308_0, hx308_1, hx308_2, hx308_3⟩ := at_T38 (Kd.R_reads' HO_1.out).2.2 x16_3 p308 q308
               obtain rfl : ad303 = ad308 := (by injection e308)
               replace p308 := eq_true p308
               replace q308 := eq_true q308
               obtain ⟨Ao69, co69, eo69⟩ := Kd.R_slice HO_15.out
               (first | subst eo69 | (injection eo69 with f1_ f2_ f3_; have f4_ := f1_.symm; have f5_ := f3_.symm; clear f1_ f2_ f3_; subst f4_; subst f5_))
               refine start_ (n := 13) (S := fun w' => w'.cell? (ad303.add ((x16_3).toNat * 4)) = some (.string ((rd_T38 t270 x16_3).f0)) ∧ w'.cell? ⟨(ad303.add ((x16_3).toNat * 4)).block, (ad303.add ((x16_3).toNat * 4)).off + 1, none⟩ = some (.int .i64 ((rd_T38 t270 x16_3).f1.f0)) ∧ w'.cell? ⟨(ad303.add ((x16_3).toNat * 4)).block, (ad303.add ((x16_3).toNat * 4)).off + 2, none⟩ = some (.float .f64 ((rd_T38 t270 x16_3).f1.f1)) ∧ w'.cell? ⟨(ad303.add ((x16_3).toNat * 4)).block, (ad303.add ((x16_3).toNat * 4)).off + 3, none⟩ = some (.string ((rd_T38 t270 x16_3).f1.f2)) ∧ w'.cell? (ad303.add ((x16_3).toNat * 4)) = some (.string ((rd_T38 t270 x16_3).f0)) ∧ w'.cell? ⟨(ad303.add ((x16_3).toNat * 4)).block, (ad303.add ((x16_3).toNat * 4)).off + 1, none⟩ = some (.int .i64 ((rd_T38 t270 x16_3).f1.f0)) ∧ w'.cell? ⟨(ad303.add ((x16_3).toNat * 4)).block, (ad303.add ((x16_3).toNat * 4)).off + 2, none⟩ = some (.float .f64 ((rd_T38 t270 x16_3).f1.f1)) ∧ w'.cell? ⟨(ad303.add ((x16_3).toNat * 4)).block, (ad303.add ((x16_3).toNat * 4)).off + 3, none⟩ = some (.string ((rd_T38 t270 x16_3).f1.f2))) (ds := []) #[false, false, false, false, false, false, false, false, false, false, false, false, false] (by kernel_rfl) rfl rfl ⟨hx307_0, hx307_1, hx307_2, hx307_3, hx308_0, hx308_1, hx308_2, hx308_3⟩ (fun hHeld => ?_); refine with_tabW engrosslaw28_JudgeAll.tab19 engrosslaw28_JudgeAll.bits19 (fun HT_ HW_ => ?_)
               generalize w67.drew = w68 at HO_1 HO_14 HO_15 BK290 BK295 HB hx307_0 hx307_1 hx307_2 hx307_3 hx308_0 hx308_1 hx308_2 hx308_3 hHeld ⊢
               refine pure_ (i := 0) (N := some 105) (v := ?_) (a' := ?_) #[true, false, false, false, false, false, false, false, false, false, false, false, false] rfl rfl (any_of HT_.out (by kernel_rfl)) (fun _ _ _ h => h) (Or.inl ⟨by rfl, ?_⟩) ?_ ?_
               rotate_left
               ·intro w'
                go_simp
                with_reducible rfl
               rotate_left
               ·simp only [Act.put, List.setIfInBounds_toArray, List.set_cons_zero, List.set_cons_succ, i64_w, i32_w]
                rfl
               refine pure_ (i := 1) (N := some 106) (v := ?_) (a' := ?_) #[true, true, false, false, false, false, false, false, false, false, false, false, false] rfl rfl (any_of HT_.out (by kernel_rfl)) (fun _ _ _ h => h) (Or.inl ⟨by rfl, ?_⟩) ?_ ?_
               rotate_left
               ·intro w'
                go_simp
                with_reducible rfl
               rotate_left
               ·simp only [Act.put, List.setIfInBounds_toArray, List.set_cons_zero, List.set_cons_succ, i64_w, i32_w]
                rfl
               refine pure_ (i := 2) (N := some 107) (v := ?_) (a' := ?_) #[true, true, true, false, false, false, false, false, false, false, false, false, false] rfl rfl (any_of HT_.out (by kernel_rfl)) (fun _ _ _ h => h) (Or.inl ⟨by rfl, ?_⟩) ?_ ?_
               rotate_left
               ·intro w'
                go_simp
                with_reducible rfl
               rotate_left
               ·simp only [Act.put, List.setIfInBounds_toArray, List.set_cons_zero, List.set_cons_succ, i64_w, i32_w]
                rfl
               refine pure_ (i := 3) (N := some 108) (v := ?_) (a' := ?_) #[true, true, true, true, false, false, false, false, false, false, false, false, false] rfl rfl (any_of HT_.out (by kernel_rfl)) (fun _ _ _ h => h) (Or.inl ⟨by rfl, ?_⟩) ?_ ?_
               rotate_left
               ·intro w'
                go_simp
                with_reducible rfl
               rotate_left
               ·simp only [Act.put, List.setIfInBounds_toArray, List.set_cons_zero, List.set_cons_succ, i64_w, i32_w]
                rfl
               refine pure_ (i := 4) (N := some 109) (v := ?_) (a' := ?_) #[true, true, true, true, true, false, false, false, false, false, false, false, false] rfl rfl (any_of HT_.out (by kernel_rfl)) (fun _ _ _ h => h) (Or.inl ⟨by rfl, ?_⟩) ?_ ?_
               rotate_left
               ·intro w'
                go_simp
                with_reducible rfl
               rotate_left
               ·simp only [Act.put, List.setIfInBounds_toArray, List.set_cons_zero, List.set_cons_succ, i64_w, i32_w]
                rfl
               refine pure_ (i := 6) (N := some 111) (v := ?_) (a' := ?_) #[true, true, true, true, true, false, true, false, false, false, false, false, false] rfl rfl (any_of HT_.out (by kernel_rfl)) (fun _ _ _ h => h) (Or.inl ⟨by rfl, ?_⟩) ?_ ?_
               rotate_left
               ·intro w'
                go_simp
                with_reducible rfl
               rotate_left
               ·simp only [Act.put, List.setIfInBounds_toArray, List.set_cons_zero, List.set_cons_succ, i64_w, i32_w]
                rfl
               refine pure_ (i := 7) (N := some 112) (v := ?_) (a' := ?_) #[true, true, true, true, true, false, true, true, false, false, false, false, false] rfl rfl (any_of HT_.out (by kernel_rfl)) (fun _ _ _ h => h) (Or.inl ⟨by rfl, ?_⟩) ?_ ?_
               rotate_left
               ·intro w'
                go_simp
                with_reducible rfl
               rotate_left
               ·simp only [Act.put, List.setIfInBounds_toArray, List.set_cons_zero, List.set_cons_succ, i64_w, i32_w]
                rfl
               refine pure_ (i := 8) (N := some 113) (v := ?_) (a' := ?_) #[true, true, true, true, true, false, true, true, true, false, false, false, false] rfl rfl (any_of HT_.out (by kernel_rfl)) (fun _ _ _ h => h) (Or.inl ⟨by rfl, ?_⟩) ?_ ?_
               rotate_left
               ·intro w'
                go_simp
                with_reducible rfl
               rotate_left
               ·simp only [Act.put, List.setIfInBounds_toArray, List.set_cons_zero, List.set_cons_succ, i64_w, i32_w]
                rfl
               refine pure_ (i := 9) (N := some 114) (v := ?_) (a' := ?_) #[true, true, true, true, true, false, true, true, true, true, false, false, false] rfl rfl (any_of HT_.out (by kernel_rfl)) (fun _ _ _ h => h) (Or.inl ⟨by rfl, ?_⟩) ?_ ?_
               rotate_left
               ·intro w'
                go_simp
                with_reducible rfl
               rotate_left
               ·simp only [Act.put, List.setIfInBounds_toArray, List.set_cons_zero, List.set_cons_succ, i64_w, i32_w]
                rfl
               refine take_ (i := 5) (N := some 110) (v := ?_) (a' := ?_) #[true, true, true, true, true, true, true, true, true, true, false, false, false] rfl rfl (take_ofW HT_.out HW_.out (by kernel_rfl)) (fun _ _ _ h => h) (Or.inl ⟨by rfl, ?_⟩) hHeld ?_ ?_
               rotate_left
               ·rintro w' ⟨s0, s1, s2, s3, s4, s5, s6, s7⟩
                go_simp
                with_reducible rfl
               rotate_left
               ·simp only [Act.put, List.setIfInBounds_toArray, List.set_cons_zero, List.set_cons_succ, i64_w, i32_w]
                rfl
               refine take_ (i := 10) (N := some 115) (v := ?_) (a' := ?_) #[true, true, true, true, true, true, true, true, true, true, true, false, false] rfl rfl (take_ofW HT_.out HW_.out (by kernel_rfl)) (fun _ _ _ h => h) (Or.inl ⟨by rfl, ?_⟩) hHeld ?_ ?_
               rotate_left
               ·rintro w' ⟨s0, s1, s2, s3, s4, s5, s6, s7⟩
                go_simp
                with_reducible rfl
               rotate_left
               ·simp only [Act.put, List.setIfInBounds_toArray, List.set_cons_zero, List.set_cons_succ, i64_w, i32_w]
                rfl
               refine one_ (i := 11) (N := some 116) #[true, true, true, true, true, true, true, true, true, true, true, true, false] rfl rfl (one_of HT_.out (by kernel_rfl)) (by decide) (fun K hK => ?_)
               refine goes_ Try.func22 (by kernel_rfl) rfl #[.slice Ao69 x15_3.length co69, .string ((rd_T38 t270 x16_3).f0), .agg #[.int .i64 ((rd_T38 t270 x16_3).f1.f0), .float .f64 ((rd_T38 t270 x16_3).f1.f1), .string ((rd_T38 t270 x16_3).f1.f2)]] (by rfl) rfl rfl (by (try simp only [List.map_toArray, List.map_cons, List.map_nil]); first | done | rfl | (simp only [List.length_drop, List.length_take]; rfl)) ?_
               with_reducible refine (engrossref23_Set.calls k3 _ _ x15_3 ((rd_T38 t270 x16_3).f0) ((rd_T38 t270 x16_3).f1.f0) ((rd_T38 t270 x16_3).f1.f1) ((rd_T38 t270 x16_3).f1.f2) t309 _ ?side1 ?side2 A66.out).mono ?_
               (case side1 => repeat (first | exact (Kd.R_reads' HO_15.out).2.2 | (with_reducible refine Kd.C_alloc ?_ _) | (with_reducible refine Kd.C_drewN ?_ _) | (with_reducible refine Kd.C_drew ?_)))
               (case side2 => exact (Kd.R_reads' HO_15.out).2.1)
               rintro e w70 ⟨v310, rfl, ho0, hb⟩
               have HS0_ := (hb.cell (World.block_lt_of_cell? _ _ (hHeld.1))).trans (hHeld.1)
               have HS1_ := (hb.cell (World.block_lt_of_cell? _ _ (hHeld.2.1))).trans (hHeld.2.1)
               have HS2_ := (hb.cell (World.block_lt_of_cell? _ _ (hHeld.2.2.1))).trans (hHeld.2.2.1)
               have HS3_ := (hb.cell (World.block_lt_of_cell? _ _ (hHeld.2.2.2.1))).trans (hHeld.2.2.2.1)
               have HS4_ := (hb.cell (World.block_lt_of_cell? _ _ (hHeld.2.2.2.2.1))).trans (hHeld.2.2.2.2.1)
               have HS5_ := (hb.cell (World.block_lt_of_cell? _ _ (hHeld.2.2.2.2.2.1))).trans (hHeld.2.2.2.2.2.1)
               have HS6_ := (hb.cell (World.block_lt_of_cell? _ _ (hHeld.2.2.2.2.2.2.1))).trans (hHeld.2.2.2.2.2.2.1)
               have HS7_ := (hb.cell (World.block_lt_of_cell? _ _ (hHeld.2.2.2.2.2.2.2))).trans (hHeld.2.2.2.2.2.2.2)
               refine ⟨_, rfl, ?_⟩
               have HO311 := Aside0.mk (Kd.R_lower (Kd.R_new' (Kd.R_new' (Kd.R_new' ho0 (Kd.R_lt (by (with_reducible repeat (first | apply Kd.R_alloc | apply Kd.R_drewN | apply Kd.R_drew)); exact HO_1.out))) (Kd.R_lt (by (with_reducible repeat (first | apply Kd.R_alloc | apply Kd.R_drewN | apply Kd.R_drew)); exact HO_14.out))) (Kd.R_lt (by (with_reducible repeat (first | apply Kd.R_alloc | apply Kd.R_drewN | apply Kd.R_drew)); exact HO_15.out))) (below_size (bC HB)))
               replace HO_1 := Aside0.mk (Kd.R_elder' (by (with_reducible repeat (first | apply Kd.R_alloc | apply Kd.R_drewN | apply Kd.R_drew)); exact HO_1.out) (Kd.R_base ho0) hb)
               replace HO_14 := Aside0.mk (Kd.R_elder' (by (with_reducible repeat (first | apply Kd.R_alloc | apply Kd.R_drewN | apply Kd.R_drew)); exact HO_14.out) (Kd.R_base ho0) hb)
               replace HO_15 := Aside0.mk (Kd.R_elder' (by (with_reducible repeat (first | apply Kd.R_alloc | apply Kd.R_drewN | apply Kd.R_drew)); exact HO_15.out) (Kd.R_base ho0) hb)
               replace BK290 := bB BK290 hb
               replace BK295 := bB BK295 hb
               replace HB := bW HB hb
               (try clear hb)
               (try clear hb2)
               (try clear hk)
               (try clear hi)
               (try clear ho0)
               refine hK.out _ _ ⟨HS0_, HS1_, HS2_, HS3_, HS4_, HS5_, HS6_, HS7_⟩ (fun hHeld => ?_)
               clear hK K
               refine norm_ (a' := ?_) ?_ ?_
               rotate_left
               ·show Act.put _ (some 116) _ = _
                simp only [Act.put, List.setIfInBounds_toArray, List.set_cons_zero, List.set_cons_succ, i64_w, i32_w]
                rfl
               refine pure_ (i := 12) (N := some 15) (v := ?_) (a' := ?_) #[true, true, true, true, true, true, true, true, true, true, true, true, true] rfl rfl (any_of HT_.out (by kernel_rfl)) (fun _ _ _ h => h) (Or.inl ⟨by rfl, ?_⟩) ?_ ?_
               rotate_left
               ·intro w'
                go_simp
                with_reducible rfl
               rotate_left
               ·simp only [Act.put, List.setIfInBounds_toArray, List.set_cons_zero, List.set_cons_succ, i64_w, i32_w]
                rfl
               refine done_ (done_of HT_.out (by kernel_rfl)) ?_
               try go_wp2
               go_roundg k3
               case measure => have := HJ10.out; have := HJ37.out; have := HK3.out; omega
               case rel => exact ⟨(t309), (wrap64 (x16_3 + 1)), (by first | rfl | (simp; done) | (simp [*]; done)), H', ⟨by have := HJ10.out; have := HJ37.out; have := HK3.out; omega⟩, ⟨by (with_reducible repeat (first | apply Kd.R_alloc | apply Kd.R_drewN | apply Kd.R_drew)); exact Kd.R_mono HO_1.out (fun _ hk => ⟨hk.1.1, hk.2⟩)⟩, ⟨by (with_reducible repeat (first | apply Kd.R_alloc | apply Kd.R_drewN | apply Kd.R_drew)); exact Kd.R_mono HO_14.out (fun _ hk => ⟨hk.1.1, hk.2⟩)⟩, ⟨by (with_reducible repeat (first | apply Kd.R_alloc | apply Kd.R_drewN | apply Kd.R_drew)); exact Kd.R_mono HO311.out (fun _ hk => ⟨hk.1.1.2, hk.1.2⟩)⟩, ⟨by (with_reducible repeat (first | refine blk_drewN ?_ _ | refine blk_drew ?_ | refine blk_alloc ?_ _)); exact BK290.out⟩, ⟨by (with_reducible repeat (first | refine blk_drewN ?_ _ | refine blk_drew ?_ | refine blk_alloc ?_ _)); exact BK295.out⟩, ⟨by repeat (first | (with_reducible first | exact HB.out | apply below_alloc | apply pw_below_drewN | apply below_drew1 | refine below_set ?_ GE290.out | refine below_set ?_ GE295.out) | exact HB.out)⟩⟩
              ·replace c65 := Bool.eq_false_iff.mpr c65
               subst c65
               have H1 : (engrosslaw28_JudgeAll.l0 k3 t270 t297 x15_3 (wrap64 (x16_3 + 1))) = some r := by rw [if_neg (show ¬ (false = true) by decide)] at H; exact H
               clear H
               have H := H1
               clear H1
               have H' := Aside0.mk H
               clear H
               have p303 : 0 ≤ (x16_3 : Int) := of_decide_eq_true (by first | (with_reducible assumption) | assumption)
               have q303 : x16_3 < (t270.length : Int) := of_decide_eq_true (by first | (with_reducible assumption) | assumption)
               obtain ⟨ad303, e303, hx303_0, hx303_1, hx303_2, hx303_3⟩ := at_T38 (Kd.R_reads' HO_1.out).2.2 x16_3 p303 q303
               cases e303
               replace p303 := eq_true p303
               replace q303 := eq_true q303
               go_wp2_with (first | ((with_reducible refine gate_callee (f := 20) rfl ?_); refine goesL_ (some 96) rfl rfl Try.func20 (by kernel_rfl) rfl #[.string ((rd_T38 t270 x16_3).f0)] rfl (by (try simp only [List.map_toArray, List.map_cons, List.map_nil]); first | done | rfl | (simp only [List.length_drop, List.length_take]; rfl)) ?_; (with_reducible refine (engrossref1_MayKey.calls ((rd_T38 t270 x16_3).f0) true _ A62.out).mono ?_); rintro e w' ⟨rfl, ⟨nd, rfl⟩⟩; refine ⟨_, rfl, ?_⟩; have p305 : 0 ≤ (x16_3 : Int) := of_decide_eq_true (by first | (with_reducible assumption) | assumption); have q305 : x16_3 < (t270.length : Int) := of_decide_eq_true (by first | (with_reducible assumption) | assumption); obtain ⟨ad305, e305, hx305_0, hx305_1, hx305_2, hx305_3⟩ := at_T38 (Kd.R_reads' HO_1.out).2.2 x16_3 p305 q305; obtain rfl : ad303 = ad305 := (by injection e305); replace p305 := eq_true p305; replace q305 := eq_true q305) | (go_at_call 21; (with_reducible refine (engrossref1_MayVal.calls ((rd_T38 t270 x16_3).f1.f0) ((rd_T38 t270 x16_3).f1.f1) ((rd_T38 t270 x16_3).f1.f2) false _ A64.out).mono ?_); rintro e w71 ⟨rfl, hb⟩; replace HO_1 := Aside0.mk (Kd.R_below (by (with_reducible repeat (first | apply Kd.R_alloc | apply Kd.R_drewN | apply Kd.R_drew)); exact HO_1.out) hb); replace HO_14 := Aside0.mk (Kd.R_below (by (with_reducible repeat (first | apply Kd.R_alloc | apply Kd.R_drewN | apply Kd.R_drew)); exact HO_14.out) hb); replace HO_15 := Aside0.mk (Kd.R_below (by (with_reducible repeat (first | apply Kd.R_alloc | apply Kd.R_drewN | apply Kd.R_drew)); exact HO_15.out) hb); replace BK290 := bB BK290 hb; replace BK295 := bB BK295 hb; replace HB := bW HB hb; (try clear hb); (try clear hb2); (try clear hk); (try clear hi)))
               go_roundg k3
               case measure => have := HJ10.out; have := HJ37.out; have := HK3.out; omega
               case rel => exact ⟨(x15_3), (wrap64 (x16_3 + 1)), (by first | rfl | (simp; done) | (simp [*]; done)), H', ⟨by have := HJ10.out; have := HJ37.out; have := HK3.out; omega⟩, ⟨by (with_reducible repeat (first | apply Kd.R_alloc | apply Kd.R_drewN | apply Kd.R_drew)); exact HO_1.out⟩, ⟨by (with_reducible repeat (first | apply Kd.R_alloc | apply Kd.R_drewN | apply Kd.R_drew)); exact HO_14.out⟩, ⟨by (with_reducible repeat (first | apply Kd.R_alloc | apply Kd.R_drewN | apply Kd.R_drew)); exact HO_15.out⟩, ⟨by (with_reducible repeat (first | refine blk_drewN ?_ _ | refine blk_drew ?_ | refine blk_alloc ?_ _)); exact BK290.out⟩, ⟨by (with_reducible repeat (first | refine blk_drewN ?_ _ | refine blk_drew ?_ | refine blk_alloc ?_ _)); exact BK295.out⟩, ⟨by repeat (first | (with_reducible first | exact HB.out | apply below_alloc | apply pw_below_drewN | apply below_drew1 | refine below_set ?_ GE290.out | refine below_set ?_ GE295.out) | exact HB.out)⟩⟩
             ·replace c63 := Bool.eq_false_iff.mpr c63
              subst c63
              have H1 : (engrosslaw28_JudgeAll.l0 k3 t270 t297 x15_3 (wrap64 (x16_3 + 1))) = some r := by rw [if_neg (show ¬ (false = true) by decide)] at H; exact H
              clear H
              have H := H1
              clear H1
              have H' := Aside0.mk H
              clear H
              have p303 : 0 ≤ (x16_3 : Int) := of_decide_eq_true (by first | (with_reducible assumption) | assumption)
              have q303 : x16_3 < (t270.length : Int) := of_decide_eq_true (by first | (with_reducible assumption) | assumption)
              obtain ⟨ad303, e303, hx303_0, hx303_1, hx303_2, hx303_3⟩ := at_T38 (Kd.R_reads' HO_1.out).2.2 x16_3 p303 q303
              cases e303
              replace p303 := eq_true p303
              replace q303 := eq_true q303
              go_wp2_with (first | ((with_reducible refine gate_callee (f := 20) rfl ?_); refine goesL_ (some 96) rfl rfl Try.func20 (by kernel_rfl) rfl #[.string ((rd_T38 t270 x16_3).f0)] rfl (by (try simp only [List.map_toArray, List.map_cons, List.map_nil]); first | done | rfl | (simp only [List.length_drop, List.length_take]; rfl)) ?_; (with_reducible refine (engrossref1_MayKey.calls ((rd_T38 t270 x16_3).f0) false _ A62.out).mono ?_); rintro e w' ⟨rfl, ⟨nd, rfl⟩⟩; refine ⟨_, rfl, ?_⟩))
              go_roundg k3
              case measure => have := HJ10.out; have := HJ37.out; have := HK3.out; omega
              case rel => exact ⟨(x15_3), (wrap64 (x16_3 + 1)), (by first | rfl | (simp; done) | (simp [*]; done)), H', ⟨by have := HJ10.out; have := HJ37.out; have := HK3.out; omega⟩, ⟨by (with_reducible repeat (first | apply Kd.R_alloc | apply Kd.R_drewN | apply Kd.R_drew)); exact HO_1.out⟩, ⟨by (with_reducible repeat (first | apply Kd.R_alloc | apply Kd.R_drewN | apply Kd.R_drew)); exact HO_14.out⟩, ⟨by (with_reducible repeat (first | apply Kd.R_alloc | apply Kd.R_drewN | apply Kd.R_drew)); exact HO_15.out⟩, ⟨by (with_reducible repeat (first | refine blk_drewN ?_ _ | refine blk_drew ?_ | refine blk_alloc ?_ _)); exact BK290.out⟩, ⟨by (with_reducible repeat (first | refine blk_drewN ?_ _ | refine blk_drew ?_ | refine blk_alloc ?_ _)); exact BK295.out⟩, ⟨by repeat (first | (with_reducible first | exact HB.out | apply below_alloc | apply pw_below_drewN | apply below_drew1 | refine below_set ?_ GE290.out | refine below_set ?_ GE295.out) | exact HB.out)⟩⟩
            ·rw [if_neg c61] at H
             exact absurd H (by simp)
           ·rw [if_neg c60] at H
            have c60b0 : decide (x16_3 < (t270.length : Int)) = false := decide_eq_false c60
            clear c60
            replace H := Option.bind_eq_some_iff.mp H
            obtain ⟨t301, A720, H⟩ := H
            replace H : (if t301 = true then ((judge_Sorted.f k3 t297).bind fun t302 => (some t302)) else (none)) = some r := H
            have A72 := Aside0.mk A720
            clear A720
            by_cases c73 : t301 = true
            ·subst c73
             have H1 : ((judge_Sorted.f k3 t297).bind fun t302 => (some t302)) = some r := by rw [if_pos rfl] at H; exact H
             clear H
             have H := H1
             clear H1
             replace H := Option.bind_eq_some_iff.mp H
             obtain ⟨t302, A740, H⟩ := H
             replace H : (some t302) = some r := H
             have A74 := Aside0.mk A740
             clear A740
             obtain rfl := Option.some.inj H
             obtain ⟨Ao75, co75, eo75⟩ := Kd.R_slice HO_14.out
             subst eo75
             obtain ⟨Ao76, co76, eo76⟩ := Kd.R_slice HO_15.out
             subst eo76
             go_wp2_with (first | ((with_reducible refine gate_callee (f := 13) rfl ?_); refine goesL_ (some 119) rfl rfl Try.func13 (by kernel_rfl) rfl #[.slice Ao75 t297.length co75, .slice Ao76 x15_3.length co76] rfl (by (try simp only [List.map_toArray, List.map_cons, List.map_nil]); first | done | rfl | (simp only [List.length_drop, List.length_take]; rfl)) ?_; (with_reducible refine (engrossref23_EqPairs.calls k3 _ _ t297 _ _ x15_3 true _ ?side1 ?side2 ?side3 ?side4 A72.out).mono ?_); (case side1 => repeat (first | exact (Kd.R_reads' HO_14.out).2.2 | (with_reducible refine Kd.C_alloc ?_ _) | (with_reducible refine Kd.C_drewN ?_ _) | (with_reducible refine Kd.C_drew ?_))); (case side2 => exact (Kd.R_reads' HO_14.out).2.1); (case side3 => repeat (first | exact (Kd.R_reads' HO_15.out).2.2 | (with_reducible refine Kd.C_alloc ?_ _) | (with_reducible refine Kd.C_drewN ?_ _) | (with_reducible refine Kd.C_drew ?_))); (case side4 => exact (Kd.R_reads' HO_15.out).2.1); rintro e w77 ⟨rfl, hb⟩; refine ⟨_, rfl, ?_⟩; replace HO_1 := Aside0.mk (Kd.R_below (by (with_reducible repeat (first | apply Kd.R_alloc | apply Kd.R_drewN | apply Kd.R_drew)); exact HO_1.out) hb); replace HO_14 := Aside0.mk (Kd.R_below (by (with_reducible repeat (first | apply Kd.R_alloc | apply Kd.R_drewN | apply Kd.R_drew)); exact HO_14.out) hb); replace HO_15 := Aside0.mk (Kd.R_below (by (with_reducible repeat (first | apply Kd.R_alloc | apply Kd.R_drewN | apply Kd.R_drew)); exact HO_15.out) hb); replace BK290 := bB BK290 hb; replace BK295 := bB BK295 hb; replace HB := bW HB hb; (try clear hb); (try clear hb2); (try clear hk); (try clear hi)) | (go_at_call 10; (with_reducible refine (judge_Sorted.calls k3 _ _ t297 t302 _ ?side1 ?side2 A74.out).mono ?_); (case side1 => repeat (first | exact (Kd.R_reads' HO_14.out).2.2 | (with_reducible refine Kd.C_alloc ?_ _) | (with_reducible refine Kd.C_drewN ?_ _) | (with_reducible refine Kd.C_drew ?_))); (case side2 => exact (Kd.R_reads' HO_14.out).2.1); rintro e w78 ⟨rfl, hb⟩; replace HO_1 := Aside0.mk (Kd.R_below (by (with_reducible repeat (first | apply Kd.R_alloc | apply Kd.R_drewN | apply Kd.R_drew)); exact HO_1.out) hb); replace HO_14 := Aside0.mk (Kd.R_below (by (with_reducible repeat (first | apply Kd.R_alloc | apply Kd.R_drewN | apply Kd.R_drew)); exact HO_14.out) hb); replace HO_15 := Aside0.mk (Kd.R_below (by (with_reducible repeat (first | apply Kd.R_alloc | apply Kd.R_drewN | apply Kd.R_drew)); exact HO_15.out) hb); replace BK290 := bB BK290 hb; replace BK295 := bB BK295 hb; replace HB := bW HB hb; (try clear hb); (try clear hb2); (try clear hk); (try clear hi)))
             go_ret
             exact ⟨by first | rfl | (simp [errW_none, errW_some] <;> rfl) | (simp [*, errW_none, errW_some] <;> rfl), by repeat (first | (with_reducible first | exact HB.out | apply below_alloc | apply pw_below_drewN | apply below_drew1 | refine below_set ?_ GE290.out | refine below_set ?_ GE295.out) | exact HB.out)⟩
            ·replace c73 := Bool.eq_false_iff.mpr c73
             subst c73
             have H1 : (none) = some r := by rw [if_neg (show ¬ (false = true) by decide)] at H; exact H
             clear H
             have H := H1
             clear H1
             exact absurd H (by simp)
        ·replace c56 := Bool.eq_false_iff.mpr c56
         subst c56
         have H1 : (some ((t297.length : Int) == 0)) = some r := by rw [if_neg (show ¬ (false = true) by decide)] at H; exact H
         clear H
         have H := H1
         clear H1
         obtain rfl := Option.some.inj H
         obtain ⟨Ao79, co79, eo79⟩ := Kd.R_slice HO_1.out
         subst eo79
         go_wp2_with (first | ((with_reducible refine gate_callee (f := 19) rfl ?_); refine goesL_ (some 77) rfl rfl Try.func19 (by kernel_rfl) rfl #[.slice Ao39 t267.length co39, .slice Ao79 t270.length co79] rfl (by (try simp only [List.map_toArray, List.map_cons, List.map_nil]); first | done | rfl | (simp only [List.length_drop, List.length_take]; rfl)) ?_; (with_reducible refine (judge_Over.calls kj37 _ _ t267 _ _ t270 t297 _ ?side1 ?side2 ?side3 ?side4 A54.out).mono ?_); (case side1 => repeat (first | exact (Kd.R_reads' HO_0.out).2.2 | (with_reducible refine Kd.C_alloc ?_ _) | (with_reducible refine Kd.C_drewN ?_ _) | (with_reducible refine Kd.C_drew ?_))); (case side2 => exact (Kd.R_reads' HO_0.out).2.1); (case side3 => repeat (first | exact (Kd.R_reads' HO_1.out).2.2 | (with_reducible refine Kd.C_alloc ?_ _) | (with_reducible refine Kd.C_drewN ?_ _) | (with_reducible refine Kd.C_drew ?_))); (case side4 => exact (Kd.R_reads' HO_1.out).2.1); rintro e w80 ⟨v298, rfl, ho0, hb⟩; refine ⟨_, rfl, ?_⟩; have HO299 := Aside0.mk (Kd.R_lower (Kd.R_new' (Kd.R_new' ho0 (Kd.R_lt (by (with_reducible repeat (first | apply Kd.R_alloc | apply Kd.R_drewN | apply Kd.R_drew)); exact HO_0.out))) (Kd.R_lt (by (with_reducible repeat (first | apply Kd.R_alloc | apply Kd.R_drewN | apply Kd.R_drew)); exact HO_1.out))) (below_size (bC HB))); replace HO_0 := Aside0.mk (Kd.R_elder' (by (with_reducible repeat (first | apply Kd.R_alloc | apply Kd.R_drewN | apply Kd.R_drew)); exact HO_0.out) (Kd.R_base ho0) hb); replace HO_1 := Aside0.mk (Kd.R_elder' (by (with_reducible repeat (first | apply Kd.R_alloc | apply Kd.R_drewN | apply Kd.R_drew)); exact HO_1.out) (Kd.R_base ho0) hb); replace BK290 := bB BK290 hb; replace BK295 := bB BK295 hb; replace HB := bW HB hb; (try clear hb); (try clear hb2); (try clear hk); (try clear hi); (try clear ho0)) | ((with_reducible refine gate_callee (f := 11) rfl ?_); refine goesL_ (some 79) rfl rfl Try.func11 (by kernel_rfl) rfl #[.slice Ao39 t267.length co39] rfl (by (try simp only [List.map_toArray, List.map_cons, List.map_nil]); first | done | rfl | (simp only [List.length_drop, List.length_take]; rfl)) ?_; (with_reducible refine (engrosslaw28_sorted.calls kj37 _ _ t267 false _ ?side1 ?side2 A55.out).mono ?_); (case side1 => repeat (first | exact (Kd.R_reads' HO_0.out).2.2 | (with_reducible refine Kd.C_alloc ?_ _) | (with_reducible refine Kd.C_drewN ?_ _) | (with_reducible refine Kd.C_drew ?_))); (case side2 => exact (Kd.R_reads' HO_0.out).2.1); rintro e w81 ⟨rfl, hb⟩; refine ⟨_, rfl, ?_⟩; replace HO_0 := Aside0.mk (Kd.R_below (by (with_reducible repeat (first | apply Kd.R_alloc | apply Kd.R_drewN | apply Kd.R_drew)); exact HO_0.out) hb); replace HO_1 := Aside0.mk (Kd.R_below (by (with_reducible repeat (first | apply Kd.R_alloc | apply Kd.R_drewN | apply Kd.R_drew)); exact HO_1.out) hb); replace HO299 := Aside0.mk (Kd.R_below (by (with_reducible repeat (first | apply Kd.R_alloc | apply Kd.R_drewN | apply Kd.R_drew)); exact HO299.out) hb); replace BK290 := bB BK290 hb; replace BK295 := bB BK295 hb; replace HB := bW HB hb; (try clear hb); (try clear hb2); (try clear hk); (try clear hi); obtain ⟨Ao82, co82, eo82⟩ := Kd.R_slice HO299.out; subst eo82))
         go_ret
         exact ⟨by first | rfl | (simp [errW_none, errW_some] <;> rfl) | (simp [*, errW_none, errW_some] <;> rfl), by repeat (first | (with_reducible first | exact HB.out | apply below_alloc | apply pw_below_drewN | apply below_drew1 | refine below_set ?_ GE290.out | refine below_set ?_ GE295.out) | exact HB.out)⟩
 ·replace c6 := Bool.eq_false_iff.mpr c6
  subst c6
  have H1 : (none) = some r := by rw [if_neg (show ¬ (false = true) by decide)] at H; exact H
  clear H
  have H := H1
  clear H1
  exact absurd H (by simp)

/-- THE ONE PURE STATEMENT of engrosslaw28_JudgeAll. -/
def engrosslaw28_JudgeAll.Pure : Prop := ∀ (l0 : List (S38)) (l1 : List (S38)) (a2 : ByteArray) (a3 : ByteArray), (l0.length ≤ 9223372036854775807 ∧ ∀ y ∈ l0, wf38 y) → (l1.length ≤ 9223372036854775807 ∧ ∀ y ∈ l1, wf38 y) → a2.size ≤ 9223372036854775807 → a3.size ≤ 9223372036854775807 → ∃ k, engrosslaw28_JudgeAll.f k l0 l1 a2 a3 = some true

end Go.Proofs.Ytppbdngfiphliaa.P
