/- Functions of the program as Lean functions, and that each call answers as its function does. No condition. (Lines written by a generator of this session.) -/
import Derived.Test.YtjhbeaffcdkhcaaPx0
import Derived.Test.YtjhbeaffcdkhcaaPx3
import Derived.Test.YtjhbeaffcdkhcaaPx4
import Derived.Test.YtjhbeaffcdkhcaaPx5
import Derived.Test.YtjhbeaffcdkhcaaPx6
namespace Go.Proofs.Ytjhbeaffcdkhcaa.P
open Go.RowKit Go.Proofs.YtjhbeaffcdkhcaaW.PrintWords Go.Proofs.YtjhbeaffcdkhcaaW.PrintLast Go.Proofs.YtjhbeaffcdkhcaaW.PrintMore
attribute [local go_sem] max2_int min2_int max_two min_two max_three min_three max_four min_four   -- for this text's walks alone
attribute [local go_sem] x_str_gtr x_str_leq x_str_geq ext_bits ext_frombits ext_neg x_store_float Instr.field asAgg
set_option linter.unusedVariables false
set_option linter.unusedSimpArgs false

/-! ### engrosslaw10_CellMany: function 9 -/
mutual
def engrosslaw10_CellMany.j2 : Nat → List Int → List (S26) → Option (Bool)
 | 0, _, _ => none
 | k + 1, x4, x5 => engrosslaw10_CellMany.l1 k x4 x5 0
def engrosslaw10_CellMany.l1 : Nat → List Int → List (S26) → Int → Option (Bool)
 | 0, _, _, _ => none
 | k + 1, x4, x5, x8 => if x8 < (x5.length : Int) then ((cell_Get.f k x4).bind fun bt1066 => (if bt1066.2.2.2.2.2.2.2.2.2 = 0 then ((engrosslaw10_Back.f bt1066.1 bt1066.2.1 bt1066.2.2.1 bt1066.2.2.2.1 bt1066.2.2.2.2.1 bt1066.2.2.2.2.2.1 bt1066.2.2.2.2.2.2.1 bt1066.2.2.2.2.2.2.2.1).bind fun bt1077 => (if 0 ≤ x8 then ((engrossref10_Eq.f bt1077.1 bt1077.2.1 bt1077.2.2.1 bt1077.2.2.2.1 bt1077.2.2.2.2.1 bt1077.2.2.2.2.2.1 bt1077.2.2.2.2.2.2.1 bt1077.2.2.2.2.2.2.2 ((rd_T26 x5 x8).f0) ((rd_T26 x5 x8).f1.f0) ((rd_T26 x5 x8).f1.f1) ((rd_T26 x5 x8).f1.f2) ((rd_T26 x5 x8).f2) ((rd_T26 x5 x8).f3.f0) ((rd_T26 x5 x8).f3.f1) ((rd_T26 x5 x8).f3.f2)).bind fun t1086 => (if t1086 = true then (if 0 ≤ bt1066.2.2.2.2.2.2.2.2.1 then (if bt1066.2.2.2.2.2.2.2.2.1 ≤ (x4.length : Int) then (engrosslaw10_CellMany.l1 k (x4.drop (bt1066.2.2.2.2.2.2.2.2.1 : Int).toNat) x5 (wrap64 (x8 + 1))) else (none)) else (none)) else (none))) else (none))) else (none))) else (some ((x4.length : Int) == 0))
def engrosslaw10_CellMany.l0 : Nat → List (S26) → List Int → List (S26) → Int → Option (Bool)
 | 0, _, _, _, _ => none
 | k + 1, x0, x4, x5, x6 => if x6 < (x0.length : Int) then (engrosslaw10_CellMany.j1 k x0 x4 x5 x6 (decide (x6 < 10))) else (engrosslaw10_CellMany.j1 k x0 x4 x5 x6 false)
def engrosslaw10_CellMany.j1 : Nat → List (S26) → List Int → List (S26) → Int → Bool → Option (Bool)
 | 0, _, _, _, _, _ => none
 | k + 1, x0, x4, x5, x6, x22 => if x22 = true then (if 0 ≤ x6 then (if x6 < (x0.length : Int) then ((engrosslaw10_Cut.f ((rd_T26 x0 x6).f0) ((rd_T26 x0 x6).f1.f0) ((rd_T26 x0 x6).f1.f1) ((rd_T26 x0 x6).f1.f2) ((rd_T26 x0 x6).f2) ((rd_T26 x0 x6).f3.f0) ((rd_T26 x0 x6).f3.f1) ((rd_T26 x0 x6).f3.f2)).bind fun bt1042 => ((engrossref10_May.f bt1042.1 bt1042.2.1 bt1042.2.2.1 bt1042.2.2.2.1 bt1042.2.2.2.2.1 bt1042.2.2.2.2.2.1 bt1042.2.2.2.2.2.2.1 bt1042.2.2.2.2.2.2.2).bind fun t1051 => (if t1051 = true then (if x5.length < 1599289640401 then ((engrosslaw10_Of.f bt1042.1 bt1042.2.1 bt1042.2.2.1 bt1042.2.2.2.1 bt1042.2.2.2.2.1 bt1042.2.2.2.2.2.1 bt1042.2.2.2.2.2.2.1 bt1042.2.2.2.2.2.2.2).bind fun bt1055 => ((cell_Put.f k x4 bt1055.1 bt1055.2.1 bt1055.2.2.1 bt1055.2.2.2.1 bt1055.2.2.2.2.1 bt1055.2.2.2.2.2.1 bt1055.2.2.2.2.2.2.1 bt1055.2.2.2.2.2.2.2).bind fun t1063 => (engrosslaw10_CellMany.l0 k x0 t1063 (x5 ++ [(⟨bt1042.1, (⟨bt1042.2.1, bt1042.2.2.1, bt1042.2.2.2.1⟩ : S24), bt1042.2.2.2.2.1, (⟨bt1042.2.2.2.2.2.1, bt1042.2.2.2.2.2.2.1, bt1042.2.2.2.2.2.2.2⟩ : S24)⟩ : S26)]) (wrap64 (x6 + 1))))) else (none)) else (engrosslaw10_CellMany.l0 k x0 x4 x5 (wrap64 (x6 + 1)))))) else (none)) else (none)) else (engrosslaw10_CellMany.j2 k x4 x5)
end
def engrosslaw10_CellMany.f (k : Nat) (l0 : List (S26)) : Option (Bool) := (engrosslaw10_begun.f k).bind fun t1040 => (if t1040 = true then (engrosslaw10_CellMany.l0 k l0 ([] : List Int) ([] : List (S26)) 0) else (none))
theorem engrosslaw10_CellMany.mono_l : ∀ k, (∀ y0 y1, LeO (engrosslaw10_CellMany.j2 k y0 y1) (engrosslaw10_CellMany.j2 (k + 1) y0 y1)) ∧ (∀ y0 y1 y2, LeO (engrosslaw10_CellMany.l1 k y0 y1 y2) (engrosslaw10_CellMany.l1 (k + 1) y0 y1 y2)) ∧ (∀ y0 y1 y2 y3, LeO (engrosslaw10_CellMany.l0 k y0 y1 y2 y3) (engrosslaw10_CellMany.l0 (k + 1) y0 y1 y2 y3)) ∧ (∀ y0 y1 y2 y3 y4, LeO (engrosslaw10_CellMany.j1 k y0 y1 y2 y3 y4) (engrosslaw10_CellMany.j1 (k + 1) y0 y1 y2 y3 y4))
 | 0 => ⟨fun _ _ r h => by simp [engrosslaw10_CellMany.j2] at h, fun _ _ _ r h => by simp [engrosslaw10_CellMany.l1] at h, fun _ _ _ _ r h => by simp [engrosslaw10_CellMany.l0] at h, fun _ _ _ _ _ r h => by simp [engrosslaw10_CellMany.j1] at h⟩
 | k + 1 => by
  obtain ⟨ih0, ih1, ih2, ih3⟩ := engrosslaw10_CellMany.mono_l k
  refine ⟨?_, ?_, ?_, ?_⟩
  ·intro y0 y1
   unfold engrosslaw10_CellMany.j2
   repeat' first
   | (with_reducible exact ih0 _ _)
   | (with_reducible exact ih1 _ _ _)
   | (with_reducible exact ih2 _ _ _ _)
   | (with_reducible exact ih3 _ _ _ _ _)
   | (with_reducible exact cell_Get.mono _ _)
   | (with_reducible exact cell_Put.mono _ _ _ _ _ _ _ _ _ _)
   | (with_reducible exact engrosslaw10_begun.mono _)
   | (with_reducible exact LeO.refl _)
   | (with_reducible exact LeO.none _)
   | (with_reducible refine LeO.ite ?_ ?_)
   | (with_reducible refine LeO.bind ?_ (fun _ => ?_))
   | exact ih0 _ _
   | exact ih1 _ _ _
   | exact ih2 _ _ _ _
   | exact ih3 _ _ _ _ _
   | exact cell_Get.mono _ _
   | exact cell_Put.mono _ _ _ _ _ _ _ _ _ _
   | exact engrosslaw10_begun.mono _
   | exact LeO.none _
   | refine LeO.ite ?_ ?_
   | refine LeO.bind ?_ (fun _ => ?_)
  ·intro y0 y1 y2
   unfold engrosslaw10_CellMany.l1
   repeat' first
   | (with_reducible exact ih0 _ _)
   | (with_reducible exact ih1 _ _ _)
   | (with_reducible exact ih2 _ _ _ _)
   | (with_reducible exact ih3 _ _ _ _ _)
   | (with_reducible exact cell_Get.mono _ _)
   | (with_reducible exact cell_Put.mono _ _ _ _ _ _ _ _ _ _)
   | (with_reducible exact engrosslaw10_begun.mono _)
   | (with_reducible exact LeO.refl _)
   | (with_reducible exact LeO.none _)
   | (with_reducible refine LeO.ite ?_ ?_)
   | (with_reducible refine LeO.bind ?_ (fun _ => ?_))
   | exact ih0 _ _
   | exact ih1 _ _ _
   | exact ih2 _ _ _ _
   | exact ih3 _ _ _ _ _
   | exact cell_Get.mono _ _
   | exact cell_Put.mono _ _ _ _ _ _ _ _ _ _
   | exact engrosslaw10_begun.mono _
   | exact LeO.none _
   | refine LeO.ite ?_ ?_
   | refine LeO.bind ?_ (fun _ => ?_)
  ·intro y0 y1 y2 y3
   unfold engrosslaw10_CellMany.l0
   repeat' first
   | (with_reducible exact ih0 _ _)
   | (with_reducible exact ih1 _ _ _)
   | (with_reducible exact ih2 _ _ _ _)
   | (with_reducible exact ih3 _ _ _ _ _)
   | (with_reducible exact cell_Get.mono _ _)
   | (with_reducible exact cell_Put.mono _ _ _ _ _ _ _ _ _ _)
   | (with_reducible exact engrosslaw10_begun.mono _)
   | (with_reducible exact LeO.refl _)
   | (with_reducible exact LeO.none _)
   | (with_reducible refine LeO.ite ?_ ?_)
   | (with_reducible refine LeO.bind ?_ (fun _ => ?_))
   | exact ih0 _ _
   | exact ih1 _ _ _
   | exact ih2 _ _ _ _
   | exact ih3 _ _ _ _ _
   | exact cell_Get.mono _ _
   | exact cell_Put.mono _ _ _ _ _ _ _ _ _ _
   | exact engrosslaw10_begun.mono _
   | exact LeO.none _
   | refine LeO.ite ?_ ?_
   | refine LeO.bind ?_ (fun _ => ?_)
  ·intro y0 y1 y2 y3 y4
   unfold engrosslaw10_CellMany.j1
   repeat' first
   | (with_reducible exact ih0 _ _)
   | (with_reducible exact ih1 _ _ _)
   | (with_reducible exact ih2 _ _ _ _)
   | (with_reducible exact ih3 _ _ _ _ _)
   | (with_reducible exact cell_Get.mono _ _)
   | (with_reducible exact cell_Put.mono _ _ _ _ _ _ _ _ _ _)
   | (with_reducible exact engrosslaw10_begun.mono _)
   | (with_reducible exact LeO.refl _)
   | (with_reducible exact LeO.none _)
   | (with_reducible refine LeO.ite ?_ ?_)
   | (with_reducible refine LeO.bind ?_ (fun _ => ?_))
   | exact ih0 _ _
   | exact ih1 _ _ _
   | exact ih2 _ _ _ _
   | exact ih3 _ _ _ _ _
   | exact cell_Get.mono _ _
   | exact cell_Put.mono _ _ _ _ _ _ _ _ _ _
   | exact engrosslaw10_begun.mono _
   | exact LeO.none _
   | refine LeO.ite ?_ ?_
   | refine LeO.bind ?_ (fun _ => ?_)
theorem engrosslaw10_CellMany.mono : ∀ a0 k, LeO (engrosslaw10_CellMany.f k a0) (engrosslaw10_CellMany.f (k + 1) a0) := by
 intro a0 k
 obtain ⟨ih0, ih1, ih2, ih3⟩ := engrosslaw10_CellMany.mono_l k
 unfold engrosslaw10_CellMany.f
 repeat' first
   | (with_reducible exact ih0 _ _)
   | (with_reducible exact ih1 _ _ _)
   | (with_reducible exact ih2 _ _ _ _)
   | (with_reducible exact ih3 _ _ _ _ _)
   | (with_reducible exact cell_Get.mono _ _)
   | (with_reducible exact cell_Put.mono _ _ _ _ _ _ _ _ _ _)
   | (with_reducible exact engrosslaw10_begun.mono _)
   | (with_reducible exact LeO.refl _)
   | (with_reducible exact LeO.none _)
   | (with_reducible refine LeO.ite ?_ ?_)
   | (with_reducible refine LeO.bind ?_ (fun _ => ?_))
   | exact ih0 _ _
   | exact ih1 _ _ _
   | exact ih2 _ _ _ _
   | exact ih3 _ _ _ _ _
   | exact cell_Get.mono _ _
   | exact cell_Put.mono _ _ _ _ _ _ _ _ _ _
   | exact engrosslaw10_begun.mono _
   | exact LeO.none _
   | refine LeO.ite ?_ ?_
   | refine LeO.bind ?_ (fun _ => ?_)
def engrosslaw10_CellMany.T17 : Bool × List (List Nat × List Nat) := (true, [([], []), ([0], [0]), ([1], [1]), ([2], [2]), ([3, 2, 2], [2, 3]), ([2], [2]), ([2], [2]), ([5, 6, 2], [2, 5, 6]), ([7, 2], [2, 7]), ([4, 8, 4, 2], [2, 4, 8]), ([9, 2], [2, 9]), ([2, 10], [2, 10])])
def engrosslaw10_CellMany.B17 : List Nat := [0, 1, 3, 7, 15, 7, 7, 103, 231, 511, 1023, 2047]
theorem engrosslaw10_CellMany.tab17 : rtab .any (opsOf Try.f9 17) = engrosslaw10_CellMany.T17 := by kernel_rfl
theorem engrosslaw10_CellMany.bits17 : waitsOk engrosslaw10_CellMany.T17.2 engrosslaw10_CellMany.B17 = true := by kernel_rfl
set_option maxHeartbeats 8000000 in
set_option maxRecDepth 100000 in
theorem engrosslaw10_CellMany.calls (k : Nat) (A0 : Option Addr) (c0 : Nat) (l0 : List (S26)) (r : Bool) (w : World) (hr0 : Kd.C k26 w A0 l0.length l0) (hc0 : l0.length ≤ c0) (h : engrosslaw10_CellMany.f k l0 = some r) :
  Calls Try.prog 9 #[.slice A0 l0.length c0] w fun e w' => e = .returned (.bool r) ∧ Below w.heap.size w w' := by
 have hu26 := Try.underlying26
 have hu31 := Try.underlying31
 have HR0 := Aside0.mk hr0
 have HC0 := Aside0.mk hc0
 clear hr0 hc0
 have HB := Aside0.mk (Below.refl w.heap.size w)
 have H : ((engrosslaw10_begun.f k).bind fun t1040 => (if t1040 = true then (engrosslaw10_CellMany.l0 k l0 ([] : List Int) ([] : List (S26)) 0) else (none))) = some r := h
 clear h
 replace H := Option.bind_eq_some_iff.mp H
 obtain ⟨t1040, A20, H⟩ := H
 replace H : (if t1040 = true then (engrosslaw10_CellMany.l0 k l0 ([] : List Int) ([] : List (S26)) 0) else (none)) = some r := H
 have A2 := Aside0.mk A20
 clear A20
 by_cases c3 : t1040 = true
 ·subst c3
  have H1 : (engrosslaw10_CellMany.l0 k l0 ([] : List Int) ([] : List (S26)) 0) = some r := by rw [if_pos rfl] at H; exact H
  clear H
  have H := H1
  clear H1
  have HC4 := Aside0.mk H
  clear H
  go_enter Try.func9, Try.ntmps9
  go_upto_block 0 with (first | ((with_reducible refine gate_callee (f := 10) rfl ?_); refine goesL_ (some 12) rfl rfl Try.func10 (by kernel_rfl) rfl #[] rfl (by (try simp only [List.map_toArray, List.map_cons, List.map_nil]); first | done | rfl | (simp only [List.length_drop, List.length_take]; rfl)) ?_; (with_reducible refine (engrosslaw10_begun.calls k  true _ A2.out).mono ?_); rintro e w5 ⟨rfl, hb⟩; refine ⟨_, rfl, ?_⟩; replace HB := bW HB hb; (try clear hb); (try clear hb2); (try clear hk); (try clear hi)))
  (try simp only [Act.put, List.setIfInBounds_toArray, List.set_cons_zero, List.set_cons_succ])
  go_cut [4, 5] (fun v4 v5 wc => ∃ (kq : Nat) (x4_3 : List Int) (x5_3 : List (S26)), Aside0 (engrosslaw10_CellMany.j2 kq x4_3 x5_3 = some r) ∧ Aside0 (kq ≤ k) ∧ Aside0 (Kd.R (Kd.int .u8) 5 wc w.heap.size (fun _ => True) v4 x4_3) ∧ Aside0 (Kd.R k26 26 wc w.heap.size (fun _ => True) v5 x5_3) ∧ Aside0 (Below w.heap.size w wc))
  case first =>
   have H := HC4.out
   clear HC4
   have H' := Aside0.mk H
   clear H
   go_wp2
   go_loopg [4, 5, 6] k (fun kq v4 v5 v6 w' => ∃ (x4_1 : List Int) (x5_1 : List (S26)) (x6_1 : Int), v6 = .int .i64 x6_1 ∧ Aside0 (engrosslaw10_CellMany.l0 kq l0 x4_1 x5_1 x6_1 = some r) ∧ Aside0 (kq ≤ k) ∧ Aside0 (Kd.R (Kd.int .u8) 5 w' w.heap.size (fun _ => True) v4 x4_1) ∧ Aside0 (Kd.R k26 26 w' w.heap.size (fun _ => True) v5 x5_1) ∧ Aside0 (Below w.heap.size w w'))
   case atStart => exact ⟨(([] : List Int)), (([] : List (S26))), (0), (by first | rfl | (simp; done) | (simp [*]; done)), H', ⟨Nat.le_refl _⟩, ⟨by first | exact Kd.R_nil _ _ _ _ _ | exact Kd.N_nil _ _ _ _ _ | exact Kd.V_nil _ _ _ _ _ | exact Kd.Q_nil _ _ _ _ _ | exact Kd.S_nil _ _ _ _ _⟩, ⟨by first | exact Kd.R_nil _ _ _ _ _ | exact Kd.N_nil _ _ _ _ _ | exact Kd.V_nil _ _ _ _ _ | exact Kd.Q_nil _ _ _ _ _ | exact Kd.S_nil _ _ _ _ _⟩, ⟨by repeat (first | (with_reducible first | exact HB.out | apply below_alloc | apply pw_below_drewN | apply below_drew1) | exact HB.out)⟩⟩
   case round =>
    clear H'
    try clear c1
    try clear p2
    try clear c3
    obtain ⟨x4_1, x5_1, x6_1, rfl, HA, HK1, HO_4, HO_5, HB⟩ := hrel
    cases gk with
    | zero => exact absurd HA.out (by simp [engrosslaw10_CellMany.l0])
    | succ k1 =>
     have H := HA.out
     clear HA
     simp only [engrosslaw10_CellMany.l0] at H
     have HC6 := Aside0.mk H
     clear H
     go_upto_region 7 with (fail)
     go_cut [22] (fun v22 wc => ∃ (kq : Nat) (x22_5 : Bool), v22 = .bool x22_5 ∧ Aside0 (engrosslaw10_CellMany.j1 kq l0 x4_1 x5_1 x6_1 x22_5 = some r) ∧ Aside0 (kq ≤ k1) ∧ Aside0 (Kd.R (Kd.int .u8) 5 wc w.heap.size (fun _ => True) u4 x4_1) ∧ Aside0 (Kd.R k26 26 wc w.heap.size (fun _ => True) u5 x5_1) ∧ Aside0 (Below w.heap.size w wc))
     case first =>
      have H := HC6.out
      clear HC6
      by_cases c7 : x6_1 < (l0.length : Int)
      ·rw [if_pos c7] at H
       have c7b0 : decide (x6_1 < (l0.length : Int)) = true := decide_eq_true c7
       clear c7
       (first | rw [c7b0] | (simp only [i64_w, i32_w]; rw [c7b0]) | skip)
       have H' := Aside0.mk H
       clear H
       go_wp2
       go_meet
       case rel => exact ⟨_, (decide (x6_1 < 10)), (by first | rfl | (simp; done) | (simp [*]; done)), H', ⟨by have := HK1.out; first | omega | exact Nat.le_refl _⟩, ⟨by (with_reducible repeat (first | apply Kd.R_alloc | apply Kd.R_drewN | apply Kd.R_drew)); exact HO_4.out⟩, ⟨by (with_reducible repeat (first | apply Kd.R_alloc | apply Kd.R_drewN | apply Kd.R_drew)); exact HO_5.out⟩, ⟨by repeat (first | (with_reducible first | exact HB.out | apply below_alloc | apply pw_below_drewN | apply below_drew1) | exact HB.out)⟩⟩
      ·rw [if_neg c7] at H
       have c7b0 : decide (x6_1 < (l0.length : Int)) = false := decide_eq_false c7
       clear c7
       (first | rw [c7b0] | (simp only [i64_w, i32_w]; rw [c7b0]) | skip)
       have H' := Aside0.mk H
       clear H
       go_wp2
       go_meet
       case rel => exact ⟨_, (false), (by first | rfl | (simp; done) | (simp [*]; done)), H', ⟨by have := HK1.out; first | omega | exact Nat.le_refl _⟩, ⟨by (with_reducible repeat (first | apply Kd.R_alloc | apply Kd.R_drewN | apply Kd.R_drew)); exact HO_4.out⟩, ⟨by (with_reducible repeat (first | apply Kd.R_alloc | apply Kd.R_drewN | apply Kd.R_drew)); exact HO_5.out⟩, ⟨by repeat (first | (with_reducible first | exact HB.out | apply below_alloc | apply pw_below_drewN | apply below_drew1) | exact HB.out)⟩⟩
     case rest =>
      clear HC6
      try clear c1
      try clear p2
      try clear c3
      try clear c7
      try clear c7b0
      try clear p2
      obtain ⟨kq, x22_5, rfl, HA, HJ5, HO_4, HO_5, HB⟩ := hcut
      cases kq with
      | zero => exact absurd HA.out (by simp [engrosslaw10_CellMany.j1])
      | succ kj5 =>
       have H := HA.out
       clear HA
       simp only [engrosslaw10_CellMany.j1] at H
       by_cases c8 : x22_5 = true
       ·subst c8
        have H1 : (if 0 ≤ x6_1 then (if x6_1 < (l0.length : Int) then ((engrosslaw10_Cut.f ((rd_T26 l0 x6_1).f0) ((rd_T26 l0 x6_1).f1.f0) ((rd_T26 l0 x6_1).f1.f1) ((rd_T26 l0 x6_1).f1.f2) ((rd_T26 l0 x6_1).f2) ((rd_T26 l0 x6_1).f3.f0) ((rd_T26 l0 x6_1).f3.f1) ((rd_T26 l0 x6_1).f3.f2)).bind fun bt1042 => ((engrossref10_May.f bt1042.1 bt1042.2.1 bt1042.2.2.1 bt1042.2.2.2.1 bt1042.2.2.2.2.1 bt1042.2.2.2.2.2.1 bt1042.2.2.2.2.2.2.1 bt1042.2.2.2.2.2.2.2).bind fun t1051 => (if t1051 = true then (if x5_1.length < 1599289640401 then ((engrosslaw10_Of.f bt1042.1 bt1042.2.1 bt1042.2.2.1 bt1042.2.2.2.1 bt1042.2.2.2.2.1 bt1042.2.2.2.2.2.1 bt1042.2.2.2.2.2.2.1 bt1042.2.2.2.2.2.2.2).bind fun bt1055 => ((cell_Put.f kj5 x4_1 bt1055.1 bt1055.2.1 bt1055.2.2.1 bt1055.2.2.2.1 bt1055.2.2.2.2.1 bt1055.2.2.2.2.2.1 bt1055.2.2.2.2.2.2.1 bt1055.2.2.2.2.2.2.2).bind fun t1063 => (engrosslaw10_CellMany.l0 kj5 l0 t1063 (x5_1 ++ [(⟨bt1042.1, (⟨bt1042.2.1, bt1042.2.2.1, bt1042.2.2.2.1⟩ : S24), bt1042.2.2.2.2.1, (⟨bt1042.2.2.2.2.2.1, bt1042.2.2.2.2.2.2.1, bt1042.2.2.2.2.2.2.2⟩ : S24)⟩ : S26)]) (wrap64 (x6_1 + 1))))) else (none)) else (engrosslaw10_CellMany.l0 kj5 l0 x4_1 x5_1 (wrap64 (x6_1 + 1)))))) else (none)) else (none)) = some r := by rw [if_pos rfl] at H; exact H
        clear H
        have H := H1
        clear H1
        by_cases c9 : 0 ≤ x6_1
        ·rw [if_pos c9] at H
         have c9b0 : decide (0 ≤ x6_1) = true := decide_eq_true c9
         clear c9
         by_cases c10 : x6_1 < (l0.length : Int)
         ·rw [if_pos c10] at H
          have c10b0 : decide (x6_1 < (l0.length : Int)) = true := decide_eq_true c10
          clear c10
          replace H := Option.bind_eq_some_iff.mp H
          obtain ⟨⟨t1042, t1043, t1044, t1045, t1046, t1047, t1048, t1049⟩, A110, H⟩ := H
          replace H : ((engrossref10_May.f t1042 t1043 t1044 t1045 t1046 t1047 t1048 t1049).bind fun t1051 => (if t1051 = true then (if x5_1.length < 1599289640401 then ((engrosslaw10_Of.f t1042 t1043 t1044 t1045 t1046 t1047 t1048 t1049).bind fun bt1055 => ((cell_Put.f kj5 x4_1 bt1055.1 bt1055.2.1 bt1055.2.2.1 bt1055.2.2.2.1 bt1055.2.2.2.2.1 bt1055.2.2.2.2.2.1 bt1055.2.2.2.2.2.2.1 bt1055.2.2.2.2.2.2.2).bind fun t1063 => (engrosslaw10_CellMany.l0 kj5 l0 t1063 (x5_1 ++ [(⟨t1042, (⟨t1043, t1044, t1045⟩ : S24), t1046, (⟨t1047, t1048, t1049⟩ : S24)⟩ : S26)]) (wrap64 (x6_1 + 1))))) else (none)) else (engrosslaw10_CellMany.l0 kj5 l0 x4_1 x5_1 (wrap64 (x6_1 + 1))))) = some r := H
          have A11 := Aside0.mk A110
          clear A110
          replace H := Option.bind_eq_some_iff.mp H
          obtain ⟨t1051, A120, H⟩ := H
          replace H : (if t1051 = true then (if x5_1.length < 1599289640401 then ((engrosslaw10_Of.f t1042 t1043 t1044 t1045 t1046 t1047 t1048 t1049).bind fun bt1055 => ((cell_Put.f kj5 x4_1 bt1055.1 bt1055.2.1 bt1055.2.2.1 bt1055.2.2.2.1 bt1055.2.2.2.2.1 bt1055.2.2.2.2.2.1 bt1055.2.2.2.2.2.2.1 bt1055.2.2.2.2.2.2.2).bind fun t1063 => (engrosslaw10_CellMany.l0 kj5 l0 t1063 (x5_1 ++ [(⟨t1042, (⟨t1043, t1044, t1045⟩ : S24), t1046, (⟨t1047, t1048, t1049⟩ : S24)⟩ : S26)]) (wrap64 (x6_1 + 1))))) else (none)) else (engrosslaw10_CellMany.l0 kj5 l0 x4_1 x5_1 (wrap64 (x6_1 + 1)))) = some r := H
          have A12 := Aside0.mk A120
          clear A120
          by_cases c13 : t1051 = true
          ·subst c13
           have H1 : (if x5_1.length < 1599289640401 then ((engrosslaw10_Of.f t1042 t1043 t1044 t1045 t1046 t1047 t1048 t1049).bind fun bt1055 => ((cell_Put.f kj5 x4_1 bt1055.1 bt1055.2.1 bt1055.2.2.1 bt1055.2.2.2.1 bt1055.2.2.2.2.1 bt1055.2.2.2.2.2.1 bt1055.2.2.2.2.2.2.1 bt1055.2.2.2.2.2.2.2).bind fun t1063 => (engrosslaw10_CellMany.l0 kj5 l0 t1063 (x5_1 ++ [(⟨t1042, (⟨t1043, t1044, t1045⟩ : S24), t1046, (⟨t1047, t1048, t1049⟩ : S24)⟩ : S26)]) (wrap64 (x6_1 + 1))))) else (none)) = some r := by rw [if_pos rfl] at H; exact H
           clear H
           have H := H1
           clear H1
           by_cases c14 : x5_1.length < 1599289640401
           ·rw [if_pos c14] at H
            have LMc14 := Aside0.mk c14
            clear c14
            obtain ⟨y1052, hy1052⟩ : ∃ y_ : List (S26), y_ = (x5_1 ++ [(⟨t1042, (⟨t1043, t1044, t1045⟩ : S24), t1046, (⟨t1047, t1048, t1049⟩ : S24)⟩ : S26)]) := ⟨_, rfl⟩
            replace H : ((engrosslaw10_Of.f t1042 t1043 t1044 t1045 t1046 t1047 t1048 t1049).bind fun bt1055 => ((cell_Put.f kj5 x4_1 bt1055.1 bt1055.2.1 bt1055.2.2.1 bt1055.2.2.2.1 bt1055.2.2.2.2.1 bt1055.2.2.2.2.2.1 bt1055.2.2.2.2.2.2.1 bt1055.2.2.2.2.2.2.2).bind fun t1063 => (engrosslaw10_CellMany.l0 kj5 l0 t1063 y1052 (wrap64 (x6_1 + 1))))) = some r := by first | (rw [hy1052]; with_reducible exact H) | (have H2_ := (Option.bind_some _ _).symm.trans H; rw [hy1052]; with_reducible exact H2_) | (have H2_ := (Option.bind_some _ _).symm.trans H; with_reducible exact H2_) | with_reducible exact H | (rw [hy1052]; exact H) | exact H
            have Ny1052 := Aside0.mk hy1052
            clear hy1052
            replace H := Option.bind_eq_some_iff.mp H
            obtain ⟨⟨t1055, t1056, t1057, t1058, t1059, t1060, t1061, t1062⟩, A150, H⟩ := H
            replace H : ((cell_Put.f kj5 x4_1 t1055 t1056 t1057 t1058 t1059 t1060 t1061 t1062).bind fun t1063 => (engrosslaw10_CellMany.l0 kj5 l0 t1063 y1052 (wrap64 (x6_1 + 1)))) = some r := H
            have A15 := Aside0.mk A150
            clear A150
            replace H := Option.bind_eq_some_iff.mp H
            obtain ⟨t1063, A160, H⟩ := H
            replace H : (engrosslaw10_CellMany.l0 kj5 l0 t1063 y1052 (wrap64 (x6_1 + 1))) = some r := H
            have A16 := Aside0.mk A160
            clear A160
            have H' := Aside0.mk H
            clear H
            have p1041 : 0 ≤ (x6_1 : Int) := of_decide_eq_true (by first | (with_reducible assumption) | assumption)
            have q1041 : x6_1 < (l0.length : Int) := of_decide_eq_true (by first | (with_reducible assumption) | assumption)
            obtain ⟨ad1041, e1041, hx1041_0, hx1041_1, hx1041_2, hx1041_3, hx1041_4, hx1041_5, hx1041_6, hx1041_7⟩ := at_T26 HR0.out x6_1 p1041 q1041
            cases e1041
            replace hx1041_0 := (HB.out.cell (World.block_lt_of_cell? w _ hx1041_0)).trans hx1041_0
            replace hx1041_1 := (HB.out.cell (World.block_lt_of_cell? w _ hx1041_1)).trans hx1041_1
            replace hx1041_2 := (HB.out.cell (World.block_lt_of_cell? w _ hx1041_2)).trans hx1041_2
            replace hx1041_3 := (HB.out.cell (World.block_lt_of_cell? w _ hx1041_3)).trans hx1041_3
            replace hx1041_4 := (HB.out.cell (World.block_lt_of_cell? w _ hx1041_4)).trans hx1041_4
            replace hx1041_5 := (HB.out.cell (World.block_lt_of_cell? w _ hx1041_5)).trans hx1041_5
            replace hx1041_6 := (HB.out.cell (World.block_lt_of_cell? w _ hx1041_6)).trans hx1041_6
            replace hx1041_7 := (HB.out.cell (World.block_lt_of_cell? w _ hx1041_7)).trans hx1041_7
            replace p1041 := eq_true p1041
            replace q1041 := eq_true q1041
            go_wp2_with (first | ((with_reducible refine gate_callee (f := 11) rfl ?_); refine goesL_ (some 29) rfl rfl Try.func11 (by kernel_rfl) rfl #[.agg #[.string ((rd_T26 l0 x6_1).f0), .int .i64 ((rd_T26 l0 x6_1).f1.f0), .float .f64 ((rd_T26 l0 x6_1).f1.f1), .string ((rd_T26 l0 x6_1).f1.f2), .int .i64 ((rd_T26 l0 x6_1).f2), .int .i64 ((rd_T26 l0 x6_1).f3.f0), .float .f64 ((rd_T26 l0 x6_1).f3.f1), .string ((rd_T26 l0 x6_1).f3.f2)]] rfl (by (try simp only [List.map_toArray, List.map_cons, List.map_nil]); first | done | rfl | (simp only [List.length_drop, List.length_take]; rfl)) ?_; (with_reducible refine (engrosslaw10_Cut.calls ((rd_T26 l0 x6_1).f0) ((rd_T26 l0 x6_1).f1.f0) ((rd_T26 l0 x6_1).f1.f1) ((rd_T26 l0 x6_1).f1.f2) ((rd_T26 l0 x6_1).f2) ((rd_T26 l0 x6_1).f3.f0) ((rd_T26 l0 x6_1).f3.f1) ((rd_T26 l0 x6_1).f3.f2) t1042 t1043 t1044 t1045 t1046 t1047 t1048 t1049 _ A11.out).mono ?_); rintro e w17 ⟨rfl, hb⟩; refine ⟨_, rfl, ?_⟩; replace HO_4 := Aside0.mk (Kd.R_below (by (with_reducible repeat (first | apply Kd.R_alloc | apply Kd.R_drewN | apply Kd.R_drew)); exact HO_4.out) hb); replace HO_5 := Aside0.mk (Kd.R_below (by (with_reducible repeat (first | apply Kd.R_alloc | apply Kd.R_drewN | apply Kd.R_drew)); exact HO_5.out) hb); replace HB := bW HB hb; (try clear hb); (try clear hb2); (try clear hk); (try clear hi)) | ((with_reducible refine gate_dst (N := 7) rfl ?_); refine box_event ?hg (N := 7) ?hd (cs := #[.string (⟨#[]⟩ : ByteArray), .int .i64 0, .float .f64 0, .string (⟨#[]⟩ : ByteArray), .int .i64 0, .int .i64 0, .float .f64 0, .string (⟨#[]⟩ : ByteArray)]) (t := 26) ?hr ?_; (case hd => rfl); (case hg => rfl); (case hr => first | (go_simp; done) | (go_simp; rfl)); intro gb1050 hg w18 hbox hb; have BK1050 := Aside0.mk (hbox); have GW1050 := bZ HB hg; have GE1050 := bZ HB hg; replace HO_4 := Aside0.mk (Kd.R_below (by (with_reducible repeat (first | apply Kd.R_alloc | apply Kd.R_drewN | apply Kd.R_drew)); exact HO_4.out) hb); replace HO_5 := Aside0.mk (Kd.R_below (Kd.R_elderB (by (with_reducible repeat (first | apply Kd.R_alloc | apply Kd.R_drewN | apply Kd.R_drew)); exact HO_5.out) gb1050 (Nat.le_of_eq hg.symm)) hb); replace HB := bW HB hb; clear hb hbox hg; obtain ⟨hcz19_0, hcz19_1, hcz19_2, hcz19_3, hcz19_4, hcz19_5, hcz19_6, hcz19_7, hfz19_0, hfz19_1, hfz19_2, hfz19_3, hfz19_4, hfz19_5, hfz19_6, hfz19_7⟩ := bf8 (w := w18) BK1050) | ((with_reducible refine gate_callee (f := 15) rfl ?_); refine goesL_ (some 31) rfl rfl Try.func15 (by kernel_rfl) rfl #[.agg #[.string t1042, .int .i64 t1043, .float .f64 t1044, .string t1045, .int .i64 t1046, .int .i64 t1047, .float .f64 t1048, .string t1049]] rfl (by (try simp only [List.map_toArray, List.map_cons, List.map_nil]); first | done | rfl | (simp only [List.length_drop, List.length_take]; rfl)) ?_; (with_reducible refine (engrossref10_May.calls t1042 t1043 t1044 t1045 t1046 t1047 t1048 t1049 true _ A12.out).mono ?_); rintro e w20 ⟨rfl, hb⟩; refine ⟨_, rfl, ?_⟩; replace HO_4 := Aside0.mk (Kd.R_below (by (with_reducible repeat (first | apply Kd.R_alloc | apply Kd.R_drewN | apply Kd.R_drew)); exact (Kd.R_mono (Kd.R_far (p := ⟨gb1050, 7, none⟩) (Kd.R_far (p := ⟨gb1050, 6, none⟩) (Kd.R_far (p := ⟨gb1050, 5, none⟩) (Kd.R_far (p := ⟨gb1050, 4, none⟩) (Kd.R_far (p := ⟨gb1050, 3, none⟩) (Kd.R_far (p := ⟨gb1050, 2, none⟩) (Kd.R_far (p := ⟨gb1050, 1, none⟩) (Kd.R_far (p := ⟨gb1050, 0, none⟩) (Kd.R_types HO_4.out BK1050.out (by decide)) (fun _ hk => hk.2) (.string t1042)) (fun _ hk => hk.2) (.int .i64 t1043)) (fun _ hk => hk.2) (.float .f64 t1044)) (fun _ hk => hk.2) (.string t1045)) (fun _ hk => hk.2) (.int .i64 t1046)) (fun _ hk => hk.2) (.int .i64 t1047)) (fun _ hk => hk.2) (.float .f64 t1048)) (fun _ hk => hk.2) (.string t1049)) (fun _ h_ => h_.1))) hb); replace HO_5 := Aside0.mk (Kd.R_below (by (with_reducible repeat (first | apply Kd.R_alloc | apply Kd.R_drewN | apply Kd.R_drew)); exact (Kd.R_mono (Kd.R_far (p := ⟨gb1050, 7, none⟩) (Kd.R_far (p := ⟨gb1050, 6, none⟩) (Kd.R_far (p := ⟨gb1050, 5, none⟩) (Kd.R_far (p := ⟨gb1050, 4, none⟩) (Kd.R_far (p := ⟨gb1050, 3, none⟩) (Kd.R_far (p := ⟨gb1050, 2, none⟩) (Kd.R_far (p := ⟨gb1050, 1, none⟩) (Kd.R_far (p := ⟨gb1050, 0, none⟩) (Kd.R_mono HO_5.out (fun k_ hk => (⟨hk, hk.2⟩ : _ ∧ k_ ≠ gb1050))) (fun _ hk => hk.2) (.string t1042)) (fun _ hk => hk.2) (.int .i64 t1043)) (fun _ hk => hk.2) (.float .f64 t1044)) (fun _ hk => hk.2) (.string t1045)) (fun _ hk => hk.2) (.int .i64 t1046)) (fun _ hk => hk.2) (.int .i64 t1047)) (fun _ hk => hk.2) (.float .f64 t1048)) (fun _ hk => hk.2) (.string t1049)) (fun _ h_ => h_.1))) hb); replace BK1050 := Aside0.mk (blk_below (g := gb1050) (o := .cells #[.string t1042, .int .i64 t1043, .float .f64 t1044, .string t1045, .int .i64 t1046, .int .i64 t1047, .float .f64 t1048, .string t1049] 26 (0, 0)) (bR BK1050) hb); replace HB := bW HB hb; (try clear hb); (try clear hb2); (try clear hk); (try clear hi); obtain ⟨hcz21_0, hcz21_1, hcz21_2, hcz21_3, hcz21_4, hcz21_5, hcz21_6, hcz21_7, hfz21_0, hfz21_1, hfz21_2, hfz21_3, hfz21_4, hfz21_5, hfz21_6, hfz21_7⟩ := bf8 (w := w20) BK1050) | ((with_reducible refine gate_builtin (b := .append) (xs := #[.tmp 32, .tmp 34]) rfl ?_); at_builtin; refine Kd.R_append k26 (w0 := w) w.heap.size rfl (.tmp 32) (.tmp 34) 59 26 (.agg #[(.string ⟨#[]⟩), (.int .i64 0), (.float .f64 0), (.string ⟨#[]⟩), (.int .i64 0), (.int .i64 0), (.float .f64 0), (.string ⟨#[]⟩)]) 88 rfl Try.underlying59 info26 rfl (by decide) (by omega) u5 x5_1 (⟨t1042, (⟨t1043, t1044, t1045⟩ : S24), t1046, (⟨t1047, t1048, t1049⟩ : S24)⟩ : S26) [.string t1042, .int .i64 t1043, .float .f64 t1044, .string t1045, .int .i64 t1046, .int .i64 t1047, .float .f64 t1048, .string t1049] (fun k_ => k_ ≠ gb1050) (fun _ => False) rfl rfl ?aP (fun _ hk => hk.elim) ?aF ?aO ?aB ?aS ?aL ?_; (case aP => exact k26_mkM _ _ _ (⟨t1042, (⟨t1043, t1044, t1045⟩ : S24), t1046, (⟨t1047, t1048, t1049⟩ : S24)⟩ : S26)); (case aB => exact (bC HB)); (case aF => exact (fun k_ hk => Kd.freshB (bQ BK1050) k_ hk)); (case aO => exact (by (with_reducible repeat (first | apply Kd.R_alloc | apply Kd.R_drewN | apply Kd.R_drew)); exact Kd.R_mono HO_5.out (fun _ hk => hk.2))); (case aS => exact (below_size (bC HB))); (case aL => have := LMc14.out; omega); intro v1053 w22 ho hb hg hat; rw [← Ny1052.out] at ho; have HO1054 := Aside0.mk (ho); replace HO_4 := Aside0.mk (Kd.R_over' (by (with_reducible repeat (first | apply Kd.R_alloc | apply Kd.R_drewN | apply Kd.R_drew)); exact HO_4.out) (Kd.R_typed (by (with_reducible repeat (first | apply Kd.R_alloc | apply Kd.R_drewN | apply Kd.R_drew)); exact HO_5.out)) (by decide) hg); replace BK1050 := Aside0.mk (blk_grown (bQ BK1050) hg (Kd.R_away HO_5.out (fun _ hk => hk.2))); replace HB := Aside0.mk (hb); clear HO_5; clear ho hb hg hat; obtain ⟨hcz23_0, hcz23_1, hcz23_2, hcz23_3, hcz23_4, hcz23_5, hcz23_6, hcz23_7, hfz23_0, hfz23_1, hfz23_2, hfz23_3, hfz23_4, hfz23_5, hfz23_6, hfz23_7⟩ := bf8 (w := w22) BK1050) | ((with_reducible refine gate_callee (f := 14) rfl ?_); refine goesL_ (some 38) rfl rfl Try.func14 (by kernel_rfl) rfl #[.agg #[.string t1042, .int .i64 t1043, .float .f64 t1044, .string t1045, .int .i64 t1046, .int .i64 t1047, .float .f64 t1048, .string t1049]] rfl (by (try simp only [List.map_toArray, List.map_cons, List.map_nil]); first | done | rfl | (simp only [List.length_drop, List.length_take]; rfl)) ?_; (with_reducible refine (engrosslaw10_Of.calls t1042 t1043 t1044 t1045 t1046 t1047 t1048 t1049 t1055 t1056 t1057 t1058 t1059 t1060 t1061 t1062 _ A15.out).mono ?_); rintro e w24 ⟨rfl, hb⟩; refine ⟨_, rfl, ?_⟩; replace HO_4 := Aside0.mk (Kd.R_below (by (with_reducible repeat (first | apply Kd.R_alloc | apply Kd.R_drewN | apply Kd.R_drew)); exact HO_4.out) hb); replace HO1054 := Aside0.mk (Kd.R_below (by (with_reducible repeat (first | apply Kd.R_alloc | apply Kd.R_drewN | apply Kd.R_drew)); exact HO1054.out) hb); replace BK1050 := bB BK1050 hb; replace HB := bW HB hb; (try clear hb); (try clear hb2); (try clear hk); (try clear hi); obtain ⟨Ao25, co25, eo25⟩ := Kd.R_slice HO_4.out; subst eo25) | ((with_reducible refine gate_callee (f := 29) rfl ?_); refine goesL_ (some 39) rfl rfl Try.func29 (by kernel_rfl) rfl #[.slice Ao25 x4_1.length co25, .agg #[.string t1055, .int .i64 t1056, .float .f64 t1057, .string t1058, .int .i64 t1059, .int .i64 t1060, .float .f64 t1061, .string t1062]] rfl (by (try simp only [List.map_toArray, List.map_cons, List.map_nil]); first | done | rfl | (simp only [List.length_drop, List.length_take]; rfl)) ?_; (with_reducible refine (cell_Put.calls kj5 (fun k_ => some k_ = (.slice Ao25 x4_1.length co25 : Value).ownBlock) (.slice Ao25 x4_1.length co25) x4_1 t1055 t1056 t1057 t1058 t1059 t1060 t1061 t1062 t1063 w _ ?side1 ?side2 A16.out).mono ?_); (case side1 => repeat (first | (with_reducible first | exact HB.out | apply below_alloc | apply pw_below_drewN | apply below_drew1 | refine below_set ?_ GE1050.out) | exact HB.out)); (case side2 => exact Kd.R_tight rfl HO_4.out); rintro e w26 ⟨v1064, rfl, ho0, hb, hkp⟩; refine ⟨_, rfl, ?_⟩; have HO1065 := Aside0.mk (Kd.R_mono (ok' := fun k_ => True) ho0 (fun k_ hk_ => trivial)); replace BK1050 := Aside0.mk (blk_kept (bQ BK1050) hkp (fun hs_ => (fun e_ => (Kd.R_ne HO_4.out BK1050.out (by decide)) e_) hs_)); replace HO1054 := Aside0.mk (Kd.R_mono (ok' := fun k_ => k_ ≠ gb1050) (Kd.R_keptB ((Kd.R_apart' HO1054.out (Kd.R_typed HO_4.out) (by decide))) hkp (fun k_ hk_ hs_ => (hk_.2) hs_)) (fun k_ hk_ => hk_.1.1)); replace HB := Aside0.mk (hb); clear HO_4; (try clear hb); (try clear hkp); (try clear ho0)))
            go_roundg kj5
            case measure => have := HK1.out; have := HJ5.out; omega
            case rel => exact ⟨(t1063), (y1052), (wrap64 (x6_1 + 1)), (by first | rfl | (simp; done) | (simp [*]; done)), H', ⟨by have := HK1.out; have := HJ5.out; omega⟩, ⟨by (with_reducible repeat (first | apply Kd.R_alloc | apply Kd.R_drewN | apply Kd.R_drew)); exact HO1065.out⟩, ⟨by (with_reducible repeat (first | apply Kd.R_alloc | apply Kd.R_drewN | apply Kd.R_drew)); exact Kd.R_mono HO1054.out (fun _ hk => trivial)⟩, ⟨by repeat (first | (with_reducible first | exact HB.out | apply below_alloc | apply pw_below_drewN | apply below_drew1 | refine below_set ?_ GE1050.out) | exact HB.out)⟩⟩
           ·rw [if_neg c14] at H
            exact absurd H (by simp)
          ·replace c13 := Bool.eq_false_iff.mpr c13
           subst c13
           have H1 : (engrosslaw10_CellMany.l0 kj5 l0 x4_1 x5_1 (wrap64 (x6_1 + 1))) = some r := by rw [if_neg (show ¬ (false = true) by decide)] at H; exact H
           clear H
           have H := H1
           clear H1
           have H' := Aside0.mk H
           clear H
           have p1041 : 0 ≤ (x6_1 : Int) := of_decide_eq_true (by first | (with_reducible assumption) | assumption)
           have q1041 : x6_1 < (l0.length : Int) := of_decide_eq_true (by first | (with_reducible assumption) | assumption)
           obtain ⟨ad1041, e1041, hx1041_0, hx1041_1, hx1041_2, hx1041_3, hx1041_4, hx1041_5, hx1041_6, hx1041_7⟩ := at_T26 HR0.out x6_1 p1041 q1041
           cases e1041
           replace hx1041_0 := (HB.out.cell (World.block_lt_of_cell? w _ hx1041_0)).trans hx1041_0
           replace hx1041_1 := (HB.out.cell (World.block_lt_of_cell? w _ hx1041_1)).trans hx1041_1
           replace hx1041_2 := (HB.out.cell (World.block_lt_of_cell? w _ hx1041_2)).trans hx1041_2
           replace hx1041_3 := (HB.out.cell (World.block_lt_of_cell? w _ hx1041_3)).trans hx1041_3
           replace hx1041_4 := (HB.out.cell (World.block_lt_of_cell? w _ hx1041_4)).trans hx1041_4
           replace hx1041_5 := (HB.out.cell (World.block_lt_of_cell? w _ hx1041_5)).trans hx1041_5
           replace hx1041_6 := (HB.out.cell (World.block_lt_of_cell? w _ hx1041_6)).trans hx1041_6
           replace hx1041_7 := (HB.out.cell (World.block_lt_of_cell? w _ hx1041_7)).trans hx1041_7
           replace p1041 := eq_true p1041
           replace q1041 := eq_true q1041
           go_wp2_with (first | ((with_reducible refine gate_callee (f := 11) rfl ?_); refine goesL_ (some 29) rfl rfl Try.func11 (by kernel_rfl) rfl #[.agg #[.string ((rd_T26 l0 x6_1).f0), .int .i64 ((rd_T26 l0 x6_1).f1.f0), .float .f64 ((rd_T26 l0 x6_1).f1.f1), .string ((rd_T26 l0 x6_1).f1.f2), .int .i64 ((rd_T26 l0 x6_1).f2), .int .i64 ((rd_T26 l0 x6_1).f3.f0), .float .f64 ((rd_T26 l0 x6_1).f3.f1), .string ((rd_T26 l0 x6_1).f3.f2)]] rfl (by (try simp only [List.map_toArray, List.map_cons, List.map_nil]); first | done | rfl | (simp only [List.length_drop, List.length_take]; rfl)) ?_; (with_reducible refine (engrosslaw10_Cut.calls ((rd_T26 l0 x6_1).f0) ((rd_T26 l0 x6_1).f1.f0) ((rd_T26 l0 x6_1).f1.f1) ((rd_T26 l0 x6_1).f1.f2) ((rd_T26 l0 x6_1).f2) ((rd_T26 l0 x6_1).f3.f0) ((rd_T26 l0 x6_1).f3.f1) ((rd_T26 l0 x6_1).f3.f2) t1042 t1043 t1044 t1045 t1046 t1047 t1048 t1049 _ A11.out).mono ?_); rintro e w27 ⟨rfl, hb⟩; refine ⟨_, rfl, ?_⟩; replace HO_4 := Aside0.mk (Kd.R_below (by (with_reducible repeat (first | apply Kd.R_alloc | apply Kd.R_drewN | apply Kd.R_drew)); exact HO_4.out) hb); replace HO_5 := Aside0.mk (Kd.R_below (by (with_reducible repeat (first | apply Kd.R_alloc | apply Kd.R_drewN | apply Kd.R_drew)); exact HO_5.out) hb); replace HB := bW HB hb; (try clear hb); (try clear hb2); (try clear hk); (try clear hi)) | ((with_reducible refine gate_dst (N := 7) rfl ?_); refine box_event ?hg (N := 7) ?hd (cs := #[.string (⟨#[]⟩ : ByteArray), .int .i64 0, .float .f64 0, .string (⟨#[]⟩ : ByteArray), .int .i64 0, .int .i64 0, .float .f64 0, .string (⟨#[]⟩ : ByteArray)]) (t := 26) ?hr ?_; (case hd => rfl); (case hg => rfl); (case hr => first | (go_simp; done) | (go_simp; rfl)); intro gb1050 hg w28 hbox hb; have BK1050 := Aside0.mk (hbox); have GW1050 := bZ HB hg; have GE1050 := bZ HB hg; replace HO_4 := Aside0.mk (Kd.R_below (by (with_reducible repeat (first | apply Kd.R_alloc | apply Kd.R_drewN | apply Kd.R_drew)); exact HO_4.out) hb); replace HO_5 := Aside0.mk (Kd.R_below (Kd.R_elderB (by (with_reducible repeat (first | apply Kd.R_alloc | apply Kd.R_drewN | apply Kd.R_drew)); exact HO_5.out) gb1050 (Nat.le_of_eq hg.symm)) hb); replace HB := bW HB hb; clear hb hbox hg; obtain ⟨hcz29_0, hcz29_1, hcz29_2, hcz29_3, hcz29_4, hcz29_5, hcz29_6, hcz29_7, hfz29_0, hfz29_1, hfz29_2, hfz29_3, hfz29_4, hfz29_5, hfz29_6, hfz29_7⟩ := bf8 (w := w28) BK1050) | ((with_reducible refine gate_callee (f := 15) rfl ?_); refine goesL_ (some 31) rfl rfl Try.func15 (by kernel_rfl) rfl #[.agg #[.string t1042, .int .i64 t1043, .float .f64 t1044, .string t1045, .int .i64 t1046, .int .i64 t1047, .float .f64 t1048, .string t1049]] rfl (by (try simp only [List.map_toArray, List.map_cons, List.map_nil]); first | done | rfl | (simp only [List.length_drop, List.length_take]; rfl)) ?_; (with_reducible refine (engrossref10_May.calls t1042 t1043 t1044 t1045 t1046 t1047 t1048 t1049 false _ A12.out).mono ?_); rintro e w30 ⟨rfl, hb⟩; refine ⟨_, rfl, ?_⟩; replace HO_4 := Aside0.mk (Kd.R_below (by (with_reducible repeat (first | apply Kd.R_alloc | apply Kd.R_drewN | apply Kd.R_drew)); exact (Kd.R_mono (Kd.R_far (p := ⟨gb1050, 7, none⟩) (Kd.R_far (p := ⟨gb1050, 6, none⟩) (Kd.R_far (p := ⟨gb1050, 5, none⟩) (Kd.R_far (p := ⟨gb1050, 4, none⟩) (Kd.R_far (p := ⟨gb1050, 3, none⟩) (Kd.R_far (p := ⟨gb1050, 2, none⟩) (Kd.R_far (p := ⟨gb1050, 1, none⟩) (Kd.R_far (p := ⟨gb1050, 0, none⟩) (Kd.R_types HO_4.out BK1050.out (by decide)) (fun _ hk => hk.2) (.string t1042)) (fun _ hk => hk.2) (.int .i64 t1043)) (fun _ hk => hk.2) (.float .f64 t1044)) (fun _ hk => hk.2) (.string t1045)) (fun _ hk => hk.2) (.int .i64 t1046)) (fun _ hk => hk.2) (.int .i64 t1047)) (fun _ hk => hk.2) (.float .f64 t1048)) (fun _ hk => hk.2) (.string t1049)) (fun _ h_ => h_.1))) hb); replace HO_5 := Aside0.mk (Kd.R_below (by (with_reducible repeat (first | apply Kd.R_alloc | apply Kd.R_drewN | apply Kd.R_drew)); exact (Kd.R_mono (Kd.R_far (p := ⟨gb1050, 7, none⟩) (Kd.R_far (p := ⟨gb1050, 6, none⟩) (Kd.R_far (p := ⟨gb1050, 5, none⟩) (Kd.R_far (p := ⟨gb1050, 4, none⟩) (Kd.R_far (p := ⟨gb1050, 3, none⟩) (Kd.R_far (p := ⟨gb1050, 2, none⟩) (Kd.R_far (p := ⟨gb1050, 1, none⟩) (Kd.R_far (p := ⟨gb1050, 0, none⟩) (Kd.R_mono HO_5.out (fun k_ hk => (⟨hk, hk.2⟩ : _ ∧ k_ ≠ gb1050))) (fun _ hk => hk.2) (.string t1042)) (fun _ hk => hk.2) (.int .i64 t1043)) (fun _ hk => hk.2) (.float .f64 t1044)) (fun _ hk => hk.2) (.string t1045)) (fun _ hk => hk.2) (.int .i64 t1046)) (fun _ hk => hk.2) (.int .i64 t1047)) (fun _ hk => hk.2) (.float .f64 t1048)) (fun _ hk => hk.2) (.string t1049)) (fun _ h_ => h_.1))) hb); replace BK1050 := Aside0.mk (blk_below (g := gb1050) (o := .cells #[.string t1042, .int .i64 t1043, .float .f64 t1044, .string t1045, .int .i64 t1046, .int .i64 t1047, .float .f64 t1048, .string t1049] 26 (0, 0)) (bR BK1050) hb); replace HB := bW HB hb; (try clear hb); (try clear hb2); (try clear hk); (try clear hi)))
           go_roundg kj5
           case measure => have := HK1.out; have := HJ5.out; omega
           case rel => exact ⟨(x4_1), (x5_1), (wrap64 (x6_1 + 1)), (by first | rfl | (simp; done) | (simp [*]; done)), H', ⟨by have := HK1.out; have := HJ5.out; omega⟩, ⟨by (with_reducible repeat (first | apply Kd.R_alloc | apply Kd.R_drewN | apply Kd.R_drew)); exact HO_4.out⟩, ⟨by (with_reducible repeat (first | apply Kd.R_alloc | apply Kd.R_drewN | apply Kd.R_drew)); exact Kd.R_mono HO_5.out (fun _ hk => trivial)⟩, ⟨by repeat (first | (with_reducible first | exact HB.out | apply below_alloc | apply pw_below_drewN | apply below_drew1 | refine below_set ?_ GE1050.out) | exact HB.out)⟩⟩
         ·rw [if_neg c10] at H
          exact absurd H (by simp)
        ·rw [if_neg c9] at H
         exact absurd H (by simp)
       ·replace c8 := Bool.eq_false_iff.mpr c8
        subst c8
        have H1 : (engrosslaw10_CellMany.j2 kj5 x4_1 x5_1) = some r := by rw [if_neg (show ¬ (false = true) by decide)] at H; exact H
        clear H
        have H := H1
        clear H1
        have H' := Aside0.mk H
        clear H
        go_wp2
        go_meet
        case rel => exact ⟨_, (x4_1), (x5_1), H', ⟨by have := HK1.out; have := HJ5.out; first | omega | exact Nat.le_refl _⟩, ⟨by (with_reducible repeat (first | apply Kd.R_alloc | apply Kd.R_drewN | apply Kd.R_drew)); exact HO_4.out⟩, ⟨by (with_reducible repeat (first | apply Kd.R_alloc | apply Kd.R_drewN | apply Kd.R_drew)); exact HO_5.out⟩, ⟨by repeat (first | (with_reducible first | exact HB.out | apply below_alloc | apply pw_below_drewN | apply below_drew1) | exact HB.out)⟩⟩
  case rest =>
   clear HC4
   try clear c1
   try clear p1
   try clear q1
   try clear hx1
   try clear c2
   try clear p2
   try clear c3
   try clear p6
   try clear c7
   try clear c7b0
   try clear c8
   try clear c9
   try clear c9b0
   try clear c10
   try clear c10b0
   try clear p10
   try clear q10
   try clear hx10
   try clear c11
   try clear c13
   try clear c14
   try clear c15
   try clear c29
   try clear hcz19_0
   try clear hcz19_1
   try clear hcz19_2
   try clear hcz19_3
   try clear hcz19_4
   try clear hcz19_5
   try clear hcz19_6
   try clear hcz19_7
   try clear hcz21_0
   try clear hcz21_1
   try clear hcz21_2
   try clear hcz21_3
   try clear hcz21_4
   try clear hcz21_5
   try clear hcz21_6
   try clear hcz21_7
   try clear hcz23_0
   try clear hcz23_1
   try clear hcz23_2
   try clear hcz23_3
   try clear hcz23_4
   try clear hcz23_5
   try clear hcz23_6
   try clear hcz23_7
   try clear hcz29_0
   try clear hcz29_1
   try clear hcz29_2
   try clear hcz29_3
   try clear hcz29_4
   try clear hcz29_5
   try clear hcz29_6
   try clear hcz29_7
   try clear hfz19_0
   try clear hfz19_1
   try clear hfz19_2
   try clear hfz19_3
   try clear hfz19_4
   try clear hfz19_5
   try clear hfz19_6
   try clear hfz19_7
   try clear hfz21_0
   try clear hfz21_1
   try clear hfz21_2
   try clear hfz21_3
   try clear hfz21_4
   try clear hfz21_5
   try clear hfz21_6
   try clear hfz21_7
   try clear hfz23_0
   try clear hfz23_1
   try clear hfz23_2
   try clear hfz23_3
   try clear hfz23_4
   try clear hfz23_5
   try clear hfz23_6
   try clear hfz23_7
   try clear hfz29_0
   try clear hfz29_1
   try clear hfz29_2
   try clear hfz29_3
   try clear hfz29_4
   try clear hfz29_5
   try clear hfz29_6
   try clear hfz29_7
   try clear hx1041_0
   try clear hx1041_1
   try clear hx1041_2
   try clear hx1041_3
   try clear hx1041_4
   try clear hx1041_5
   try clear hx1041_6
   try clear hx1041_7
   try clear p1041
   try clear p2
   try clear q1041
   obtain ⟨kq, x4_3, x5_3, HA, HJ3, HO_4, HO_5, HB⟩ := hcut
   cases kq with
   | zero => exact absurd HA.out (by simp [engrosslaw10_CellMany.j2])
   | succ kj3 =>
    have H := HA.out
    clear HA
    simp only [engrosslaw10_CellMany.j2] at H
    have H' := Aside0.mk H
    clear H
    go_wp2
    go_loopg [4, 8] kj3 (fun kq v4 v8 w' => ∃ (x4_2 : List Int) (x8_2 : Int), v8 = .int .i64 x8_2 ∧ Aside0 (engrosslaw10_CellMany.l1 kq x4_2 x5_3 x8_2 = some r) ∧ Aside0 (kq ≤ kj3) ∧ Aside0 (Kd.Q (Kd.int .u8) 5 w' w.heap.size (fun _ => True) v4 x4_2) ∧ Aside0 (Kd.R k26 26 w' w.heap.size (fun _ => True) u5 x5_3) ∧ Aside0 (Below w.heap.size w w'))
    case atStart => exact ⟨(x4_3), (0), (by first | rfl | (simp; done) | (simp [*]; done)), H', ⟨Nat.le_refl _⟩, ⟨Kd.Q_of_R (by (with_reducible repeat (first | apply Kd.R_alloc | apply Kd.R_drewN | apply Kd.R_drew)); exact HO_4.out)⟩, ⟨by (with_reducible repeat (first | apply Kd.R_alloc | apply Kd.R_drewN | apply Kd.R_drew)); exact HO_5.out⟩, ⟨by repeat (first | (with_reducible first | exact HB.out | apply below_alloc | apply pw_below_drewN | apply below_drew1) | exact HB.out)⟩⟩
    case round =>
     clear H'
     try clear c1
     try clear p1
     try clear q1
     try clear hx1
     try clear c2
     try clear p2
     try clear c3
     try clear p6
     try clear c7
     try clear c7b0
     try clear c8
     try clear c9
     try clear c9b0
     try clear c10
     try clear c10b0
     try clear p10
     try clear q10
     try clear hx10
     try clear c11
     try clear c13
     try clear c14
     try clear c15
     try clear c29
     try clear hcz19_0
     try clear hcz19_1
     try clear hcz19_2
     try clear hcz19_3
     try clear hcz19_4
     try clear hcz19_5
     try clear hcz19_6
     try clear hcz19_7
     try clear hcz21_0
     try clear hcz21_1
     try clear hcz21_2
     try clear hcz21_3
     try clear hcz21_4
     try clear hcz21_5
     try clear hcz21_6
     try clear hcz21_7
     try clear hcz23_0
     try clear hcz23_1
     try clear hcz23_2
     try clear hcz23_3
     try clear hcz23_4
     try clear hcz23_5
     try clear hcz23_6
     try clear hcz23_7
     try clear hcz29_0
     try clear hcz29_1
     try clear hcz29_2
     try clear hcz29_3
     try clear hcz29_4
     try clear hcz29_5
     try clear hcz29_6
     try clear hcz29_7
     try clear hfz19_0
     try clear hfz19_1
     try clear hfz19_2
     try clear hfz19_3
     try clear hfz19_4
     try clear hfz19_5
     try clear hfz19_6
     try clear hfz19_7
     try clear hfz21_0
     try clear hfz21_1
     try clear hfz21_2
     try clear hfz21_3
     try clear hfz21_4
     try clear hfz21_5
     try clear hfz21_6
     try clear hfz21_7
     try clear hfz23_0
     try clear hfz23_1
     try clear hfz23_2
     try clear hfz23_3
     try clear hfz23_4
     try clear hfz23_5
     try clear hfz23_6
     try clear hfz23_7
     try clear hfz29_0
     try clear hfz29_1
     try clear hfz29_2
     try clear hfz29_3
     try clear hfz29_4
     try clear hfz29_5
     try clear hfz29_6
     try clear hfz29_7
     try clear hx1041_0
     try clear hx1041_1
     try clear hx1041_2
     try clear hx1041_3
     try clear hx1041_4
     try clear hx1041_5
     try clear hx1041_6
     try clear hx1041_7
     try clear p1
     try clear p10
     try clear p1041
     try clear p2
     try clear p6
     try clear q1
     try clear q10
     try clear q1041
     obtain ⟨x4_2, x8_2, rfl, HA, HK2, HO_4, HO_5, HB⟩ := hrel
     cases gk with
     | zero => exact absurd HA.out (by simp [engrosslaw10_CellMany.l1])
     | succ k2 =>
      have H := HA.out
      clear HA
      simp only [engrosslaw10_CellMany.l1] at H
      by_cases c31 : x8_2 < (x5_3.length : Int)
      ·rw [if_pos c31] at H
       have c31b0 : decide (x8_2 < (x5_3.length : Int)) = true := decide_eq_true c31
       clear c31
       replace H := Option.bind_eq_some_iff.mp H
       obtain ⟨⟨t1066, t1067, t1068, t1069, t1070, t1071, t1072, t1073, t1074, t1075⟩, A320, H⟩ := H
       replace H : (if t1075 = 0 then ((engrosslaw10_Back.f t1066 t1067 t1068 t1069 t1070 t1071 t1072 t1073).bind fun bt1077 => (if 0 ≤ x8_2 then ((engrossref10_Eq.f bt1077.1 bt1077.2.1 bt1077.2.2.1 bt1077.2.2.2.1 bt1077.2.2.2.2.1 bt1077.2.2.2.2.2.1 bt1077.2.2.2.2.2.2.1 bt1077.2.2.2.2.2.2.2 ((rd_T26 x5_3 x8_2).f0) ((rd_T26 x5_3 x8_2).f1.f0) ((rd_T26 x5_3 x8_2).f1.f1) ((rd_T26 x5_3 x8_2).f1.f2) ((rd_T26 x5_3 x8_2).f2) ((rd_T26 x5_3 x8_2).f3.f0) ((rd_T26 x5_3 x8_2).f3.f1) ((rd_T26 x5_3 x8_2).f3.f2)).bind fun t1086 => (if t1086 = true then (if 0 ≤ t1074 then (if t1074 ≤ (x4_2.length : Int) then (engrosslaw10_CellMany.l1 k2 (x4_2.drop (t1074 : Int).toNat) x5_3 (wrap64 (x8_2 + 1))) else (none)) else (none)) else (none))) else (none))) else (none)) = some r := H
       have A32 := Aside0.mk A320
       clear A320
       by_cases c33 : t1075 = 0
       ·rw [if_pos c33] at H
        have c33b0 : (t1075 == 0) = true := beq_iff_eq.mpr c33
        have c33b1 : (t1075 != 0) = false := bne_eq_false_iff_eq.mpr c33
        clear c33
        replace H := Option.bind_eq_some_iff.mp H
        obtain ⟨⟨t1077, t1078, t1079, t1080, t1081, t1082, t1083, t1084⟩, A340, H⟩ := H
        replace H : (if 0 ≤ x8_2 then ((engrossref10_Eq.f t1077 t1078 t1079 t1080 t1081 t1082 t1083 t1084 ((rd_T26 x5_3 x8_2).f0) ((rd_T26 x5_3 x8_2).f1.f0) ((rd_T26 x5_3 x8_2).f1.f1) ((rd_T26 x5_3 x8_2).f1.f2) ((rd_T26 x5_3 x8_2).f2) ((rd_T26 x5_3 x8_2).f3.f0) ((rd_T26 x5_3 x8_2).f3.f1) ((rd_T26 x5_3 x8_2).f3.f2)).bind fun t1086 => (if t1086 = true then (if 0 ≤ t1074 then (if t1074 ≤ (x4_2.length : Int) then (engrosslaw10_CellMany.l1 k2 (x4_2.drop (t1074 : Int).toNat) x5_3 (wrap64 (x8_2 + 1))) else (none)) else (none)) else (none))) else (none)) = some r := H
        have A34 := Aside0.mk A340
        clear A340
        by_cases c35 : 0 ≤ x8_2
        ·rw [if_pos c35] at H
         have c35b0 : decide (0 ≤ x8_2) = true := decide_eq_true c35
         clear c35
         replace H := Option.bind_eq_some_iff.mp H
         obtain ⟨t1086, A360, H⟩ := H
         replace H : (if t1086 = true then (if 0 ≤ t1074 then (if t1074 ≤ (x4_2.length : Int) then (engrosslaw10_CellMany.l1 k2 (x4_2.drop (t1074 : Int).toNat) x5_3 (wrap64 (x8_2 + 1))) else (none)) else (none)) else (none)) = some r := H
         have A36 := Aside0.mk A360
         clear A360
         by_cases c37 : t1086 = true
         ·subst c37
          have H1 : (if 0 ≤ t1074 then (if t1074 ≤ (x4_2.length : Int) then (engrosslaw10_CellMany.l1 k2 (x4_2.drop (t1074 : Int).toNat) x5_3 (wrap64 (x8_2 + 1))) else (none)) else (none)) = some r := by rw [if_pos rfl] at H; exact H
          clear H
          have H := H1
          clear H1
          by_cases c38 : 0 ≤ t1074
          ·rw [if_pos c38] at H
           have c38b0 := eq_true c38
           have c38b1 : decide (0 ≤ t1074) = true := decide_eq_true c38
           clear c38
           by_cases c39 : t1074 ≤ (x4_2.length : Int)
           ·rw [if_pos c39] at H
            have c39b0 := eq_true c39
            have c39b1 : decide (t1074 ≤ (x4_2.length : Int)) = true := decide_eq_true c39
            clear c39
            obtain ⟨y1087, hy1087⟩ : ∃ y_ : List Int, y_ = (x4_2.drop (t1074 : Int).toNat) := ⟨_, rfl⟩
            replace H : (engrosslaw10_CellMany.l1 k2 y1087 x5_3 (wrap64 (x8_2 + 1))) = some r := by first | (rw [hy1087]; with_reducible exact H) | (have H2_ := (Option.bind_some _ _).symm.trans H; rw [hy1087]; with_reducible exact H2_) | (have H2_ := (Option.bind_some _ _).symm.trans H; with_reducible exact H2_) | with_reducible exact H | (rw [hy1087]; exact H) | exact H
            have Ny1087 := Aside0.mk hy1087
            clear hy1087
            have H' := Aside0.mk H
            clear H
            obtain ⟨Ao40, co40, eo40⟩ := Kd.R_slice HO_5.out
            subst eo40
            obtain ⟨Ao41, co41, eo41, _⟩ := Kd.Q_slice HO_4.out
            subst eo41
            try go_wp2_with (first | ((with_reducible refine gate_callee (f := 31) rfl ?_); refine goesL_ (some 48) rfl rfl Try.func31 (by kernel_rfl) rfl #[.slice Ao41 x4_2.length co41] rfl (by (try simp only [List.map_toArray, List.map_cons, List.map_nil]); first | done | rfl | (simp only [List.length_drop, List.length_take]; rfl)) ?_; (with_reducible refine (cell_Get.calls k2 _ _ x4_2 t1066 t1067 t1068 t1069 t1070 t1071 t1072 t1073 t1074 t1075 _ ?side1 ?side2 A32.out).mono ?_); (case side1 => repeat (first | exact (Kd.Q_reads' HO_4.out).2.2 | (with_reducible refine Kd.C_alloc ?_ _) | (with_reducible refine Kd.C_drewN ?_ _) | (with_reducible refine Kd.C_drew ?_))); (case side2 => exact (Kd.Q_reads' HO_4.out).2.1); rintro e w42 ⟨rfl, hb⟩; refine ⟨_, rfl, ?_⟩; replace HO_4 := Aside0.mk (Kd.Q_below (by (with_reducible repeat (first | apply Kd.Q_alloc | apply Kd.Q_drewN | apply Kd.Q_drew)); exact HO_4.out) hb); replace HO_5 := Aside0.mk (Kd.R_below (by (with_reducible repeat (first | apply Kd.R_alloc | apply Kd.R_drewN | apply Kd.R_drew)); exact HO_5.out) hb); replace HB := bW HB hb; (try clear hb); (try clear hb2); (try clear hk); (try clear hi)) | ((with_reducible refine gate_dst (N := 9) rfl ?_); refine box_event ?hg (N := 9) ?hd (cs := #[.string (⟨#[]⟩ : ByteArray), .int .i64 0, .float .f64 0, .string (⟨#[]⟩ : ByteArray), .int .i64 0, .int .i64 0, .float .f64 0, .string (⟨#[]⟩ : ByteArray)]) (t := 31) ?hr ?_; (case hd => rfl); (case hg => rfl); (case hr => first | (go_simp; done) | (go_simp; rfl)); intro gb1076 hg w43 hbox hb; have BK1076 := Aside0.mk (hbox); have GW1076 := bZ HB hg; have GE1076 := bZ HB hg; replace HO_4 := Aside0.mk (Kd.Q_below (by (with_reducible repeat (first | apply Kd.Q_alloc | apply Kd.Q_drewN | apply Kd.Q_drew)); exact HO_4.out) hb); replace HO_5 := Aside0.mk (Kd.R_below (by (with_reducible repeat (first | apply Kd.R_alloc | apply Kd.R_drewN | apply Kd.R_drew)); exact HO_5.out) hb); replace HB := bW HB hb; clear hb hbox hg; obtain ⟨hcz44_0, hcz44_1, hcz44_2, hcz44_3, hcz44_4, hcz44_5, hcz44_6, hcz44_7, hfz44_0, hfz44_1, hfz44_2, hfz44_3, hfz44_4, hfz44_5, hfz44_6, hfz44_7⟩ := bf8 (w := w43) BK1076))
            have n0_ : Aside0 (Kd.Q (Kd.int .u8) 5 ((((((((w43.setCell ⟨gb1076, 0, none⟩ (.string t1066)).setCell ⟨gb1076, 1, none⟩ (.int .i64 t1067)).setCell ⟨gb1076, 2, none⟩ (.float .f64 t1068)).setCell ⟨gb1076, 3, none⟩ (.string t1069)).setCell ⟨gb1076, 4, none⟩ (.int .i64 t1070)).setCell ⟨gb1076, 5, none⟩ (.int .i64 t1071)).setCell ⟨gb1076, 6, none⟩ (.float .f64 t1072)).setCell ⟨gb1076, 7, none⟩ (.string t1073)) w.heap.size (fun _ => True) (.slice Ao41 x4_2.length co41) x4_2) := ⟨by (with_reducible repeat (first | apply Kd.Q_alloc | apply Kd.Q_drewN | apply Kd.Q_drew)); exact Kd.Q_mono (Kd.Q_far (p := ⟨gb1076, 7, none⟩) (Kd.Q_far (p := ⟨gb1076, 6, none⟩) (Kd.Q_far (p := ⟨gb1076, 5, none⟩) (Kd.Q_far (p := ⟨gb1076, 4, none⟩) (Kd.Q_far (p := ⟨gb1076, 3, none⟩) (Kd.Q_far (p := ⟨gb1076, 2, none⟩) (Kd.Q_far (p := ⟨gb1076, 1, none⟩) (Kd.Q_far (p := ⟨gb1076, 0, none⟩) (Kd.Q_types HO_4.out BK1076.out (by decide)) (fun _ hk => hk.2) (.string t1066)) (fun _ hk => hk.2) (.int .i64 t1067)) (fun _ hk => hk.2) (.float .f64 t1068)) (fun _ hk => hk.2) (.string t1069)) (fun _ hk => hk.2) (.int .i64 t1070)) (fun _ hk => hk.2) (.int .i64 t1071)) (fun _ hk => hk.2) (.float .f64 t1072)) (fun _ hk => hk.2) (.string t1073)) (fun _ hk => trivial)⟩
            have n1_ : Aside0 (Kd.R k26 26 ((((((((w43.setCell ⟨gb1076, 0, none⟩ (.string t1066)).setCell ⟨gb1076, 1, none⟩ (.int .i64 t1067)).setCell ⟨gb1076, 2, none⟩ (.float .f64 t1068)).setCell ⟨gb1076, 3, none⟩ (.string t1069)).setCell ⟨gb1076, 4, none⟩ (.int .i64 t1070)).setCell ⟨gb1076, 5, none⟩ (.int .i64 t1071)).setCell ⟨gb1076, 6, none⟩ (.float .f64 t1072)).setCell ⟨gb1076, 7, none⟩ (.string t1073)) w.heap.size (fun _ => True) (.slice Ao40 x5_3.length co40) x5_3) := ⟨by (with_reducible repeat (first | apply Kd.R_alloc | apply Kd.R_drewN | apply Kd.R_drew)); exact Kd.R_mono (Kd.R_far (p := ⟨gb1076, 7, none⟩) (Kd.R_far (p := ⟨gb1076, 6, none⟩) (Kd.R_far (p := ⟨gb1076, 5, none⟩) (Kd.R_far (p := ⟨gb1076, 4, none⟩) (Kd.R_far (p := ⟨gb1076, 3, none⟩) (Kd.R_far (p := ⟨gb1076, 2, none⟩) (Kd.R_far (p := ⟨gb1076, 1, none⟩) (Kd.R_far (p := ⟨gb1076, 0, none⟩) (Kd.R_types HO_5.out BK1076.out (by decide)) (fun _ hk => hk.2) (.string t1066)) (fun _ hk => hk.2) (.int .i64 t1067)) (fun _ hk => hk.2) (.float .f64 t1068)) (fun _ hk => hk.2) (.string t1069)) (fun _ hk => hk.2) (.int .i64 t1070)) (fun _ hk => hk.2) (.int .i64 t1071)) (fun _ hk => hk.2) (.float .f64 t1072)) (fun _ hk => hk.2) (.string t1073)) (fun _ hk => trivial)⟩
            have n2_ : Aside0 (((((((((w43.setCell ⟨gb1076, 0, none⟩ (.string t1066)).setCell ⟨gb1076, 1, none⟩ (.int .i64 t1067)).setCell ⟨gb1076, 2, none⟩ (.float .f64 t1068)).setCell ⟨gb1076, 3, none⟩ (.string t1069)).setCell ⟨gb1076, 4, none⟩ (.int .i64 t1070)).setCell ⟨gb1076, 5, none⟩ (.int .i64 t1071)).setCell ⟨gb1076, 6, none⟩ (.float .f64 t1072)).setCell ⟨gb1076, 7, none⟩ (.string t1073)).heap[gb1076]? = some (.cells #[.string t1066, .int .i64 t1067, .float .f64 t1068, .string t1069, .int .i64 t1070, .int .i64 t1071, .float .f64 t1072, .string t1073] 31 (0, 0))) := ⟨by (with_reducible repeat (first | refine blk_drewN ?_ _ | refine blk_drew ?_ | refine blk_alloc ?_ _)); refine blk_put (cs := #[.string t1066, .int .i64 t1067, .float .f64 t1068, .string t1069, .int .i64 t1070, .int .i64 t1071, .float .f64 t1072, .string (⟨#[]⟩ : ByteArray)]) ?_ 7 _ rfl; (with_reducible repeat (first | refine blk_drewN ?_ _ | refine blk_drew ?_ | refine blk_alloc ?_ _)); refine blk_put (cs := #[.string t1066, .int .i64 t1067, .float .f64 t1068, .string t1069, .int .i64 t1070, .int .i64 t1071, .float .f64 0, .string (⟨#[]⟩ : ByteArray)]) ?_ 6 _ rfl; (with_reducible repeat (first | refine blk_drewN ?_ _ | refine blk_drew ?_ | refine blk_alloc ?_ _)); refine blk_put (cs := #[.string t1066, .int .i64 t1067, .float .f64 t1068, .string t1069, .int .i64 t1070, .int .i64 0, .float .f64 0, .string (⟨#[]⟩ : ByteArray)]) ?_ 5 _ rfl; (with_reducible repeat (first | refine blk_drewN ?_ _ | refine blk_drew ?_ | refine blk_alloc ?_ _)); refine blk_put (cs := #[.string t1066, .int .i64 t1067, .float .f64 t1068, .string t1069, .int .i64 0, .int .i64 0, .float .f64 0, .string (⟨#[]⟩ : ByteArray)]) ?_ 4 _ rfl; (with_reducible repeat (first | refine blk_drewN ?_ _ | refine blk_drew ?_ | refine blk_alloc ?_ _)); refine blk_put (cs := #[.string t1066, .int .i64 t1067, .float .f64 t1068, .string (⟨#[]⟩ : ByteArray), .int .i64 0, .int .i64 0, .float .f64 0, .string (⟨#[]⟩ : ByteArray)]) ?_ 3 _ rfl; (with_reducible repeat (first | refine blk_drewN ?_ _ | refine blk_drew ?_ | refine blk_alloc ?_ _)); refine blk_put (cs := #[.string t1066, .int .i64 t1067, .float .f64 0, .string (⟨#[]⟩ : ByteArray), .int .i64 0, .int .i64 0, .float .f64 0, .string (⟨#[]⟩ : ByteArray)]) ?_ 2 _ rfl; (with_reducible repeat (first | refine blk_drewN ?_ _ | refine blk_drew ?_ | refine blk_alloc ?_ _)); refine blk_put (cs := #[.string t1066, .int .i64 0, .float .f64 0, .string (⟨#[]⟩ : ByteArray), .int .i64 0, .int .i64 0, .float .f64 0, .string (⟨#[]⟩ : ByteArray)]) ?_ 1 _ rfl; (with_reducible repeat (first | refine blk_drewN ?_ _ | refine blk_drew ?_ | refine blk_alloc ?_ _)); refine blk_put (cs := #[.string (⟨#[]⟩ : ByteArray), .int .i64 0, .float .f64 0, .string (⟨#[]⟩ : ByteArray), .int .i64 0, .int .i64 0, .float .f64 0, .string (⟨#[]⟩ : ByteArray)]) ?_ 0 _ rfl; (with_reducible repeat (first | refine blk_drewN ?_ _ | refine blk_drew ?_ | refine blk_alloc ?_ _)); exact BK1076.out⟩
            have n3_ : Aside0 (Below w.heap.size w ((((((((w43.setCell ⟨gb1076, 0, none⟩ (.string t1066)).setCell ⟨gb1076, 1, none⟩ (.int .i64 t1067)).setCell ⟨gb1076, 2, none⟩ (.float .f64 t1068)).setCell ⟨gb1076, 3, none⟩ (.string t1069)).setCell ⟨gb1076, 4, none⟩ (.int .i64 t1070)).setCell ⟨gb1076, 5, none⟩ (.int .i64 t1071)).setCell ⟨gb1076, 6, none⟩ (.float .f64 t1072)).setCell ⟨gb1076, 7, none⟩ (.string t1073))) := ⟨by repeat (first | (with_reducible first | exact HB.out | apply below_alloc | apply pw_below_drewN | apply below_drew1 | refine below_set ?_ GE1076.out) | exact HB.out)⟩
            (try clear HO_4)
            (try clear HO_5)
            (try clear BK1076)
            (try clear HB)
            generalize ((((((((w43.setCell ⟨gb1076, 0, none⟩ (.string t1066)).setCell ⟨gb1076, 1, none⟩ (.int .i64 t1067)).setCell ⟨gb1076, 2, none⟩ (.float .f64 t1068)).setCell ⟨gb1076, 3, none⟩ (.string t1069)).setCell ⟨gb1076, 4, none⟩ (.int .i64 t1070)).setCell ⟨gb1076, 5, none⟩ (.int .i64 t1071)).setCell ⟨gb1076, 6, none⟩ (.float .f64 t1072)).setCell ⟨gb1076, 7, none⟩ (.string t1073)) = w45 at n0_ n1_ n2_ n3_ ⊢
            have HO_4 := n0_
            have HO_5 := n1_
            have BK1076 := n2_
            have HB := n3_
            clear n0_ n1_ n2_ n3_
            replace HO_4 := Aside0.mk (Kd.Q_drew HO_4.out)
            replace HO_5 := Aside0.mk (Kd.R_drew HO_5.out)
            replace BK1076 := Aside0.mk (blk_drew BK1076.out)
            replace HB := Aside0.mk (below_drew1 HB.out)
            have p1085 : 0 ≤ (x8_2 : Int) := of_decide_eq_true (by first | (with_reducible assumption) | assumption)
            have q1085 : x8_2 < (x5_3.length : Int) := of_decide_eq_true (by first | (with_reducible assumption) | assumption)
            obtain ⟨ad1085, e1085, hx1085_0, hx1085_1, hx1085_2, hx1085_3, hx1085_4, hx1085_5, hx1085_6, hx1085_7⟩ := at_T26 (Kd.R_reads' HO_5.out).2.2 x8_2 p1085 q1085
            cases e1085
            replace p1085 := eq_true p1085
            replace q1085 := eq_true q1085
            refine start_ (n := 12) (S := fun w' => w'.cell? ⟨gb1076, 0, none⟩ = some (.string t1066) ∧ w'.cell? ⟨gb1076, 1, none⟩ = some (.int .i64 t1067) ∧ w'.cell? ⟨gb1076, 2, none⟩ = some (.float .f64 t1068) ∧ w'.cell? ⟨gb1076, 3, none⟩ = some (.string t1069) ∧ w'.cell? ⟨gb1076, 4, none⟩ = some (.int .i64 t1070) ∧ w'.cell? ⟨gb1076, 5, none⟩ = some (.int .i64 t1071) ∧ w'.cell? ⟨gb1076, 6, none⟩ = some (.float .f64 t1072) ∧ w'.cell? ⟨gb1076, 7, none⟩ = some (.string t1073) ∧ w'.cell? (ad1085.add ((x8_2).toNat * 8)) = some (.string ((rd_T26 x5_3 x8_2).f0)) ∧ w'.cell? ⟨(ad1085.add ((x8_2).toNat * 8)).block, (ad1085.add ((x8_2).toNat * 8)).off + 1, none⟩ = some (.int .i64 ((rd_T26 x5_3 x8_2).f1.f0)) ∧ w'.cell? ⟨(ad1085.add ((x8_2).toNat * 8)).block, (ad1085.add ((x8_2).toNat * 8)).off + 2, none⟩ = some (.float .f64 ((rd_T26 x5_3 x8_2).f1.f1)) ∧ w'.cell? ⟨(ad1085.add ((x8_2).toNat * 8)).block, (ad1085.add ((x8_2).toNat * 8)).off + 3, none⟩ = some (.string ((rd_T26 x5_3 x8_2).f1.f2)) ∧ w'.cell? ⟨(ad1085.add ((x8_2).toNat * 8)).block, (ad1085.add ((x8_2).toNat * 8)).off + 4, none⟩ = some (.int .i64 ((rd_T26 x5_3 x8_2).f2)) ∧ w'.cell? ⟨(ad1085.add ((x8_2).toNat * 8)).block, (ad1085.add ((x8_2).toNat * 8)).off + 5, none⟩ = some (.int .i64 ((rd_T26 x5_3 x8_2).f3.f0)) ∧ w'.cell? ⟨(ad1085.add ((x8_2).toNat * 8)).block, (ad1085.add ((x8_2).toNat * 8)).off + 6, none⟩ = some (.float .f64 ((rd_T26 x5_3 x8_2).f3.f1)) ∧ w'.cell? ⟨(ad1085.add ((x8_2).toNat * 8)).block, (ad1085.add ((x8_2).toNat * 8)).off + 7, none⟩ = some (.string ((rd_T26 x5_3 x8_2).f3.f2))) (ds := []) #[false, false, false, false, false, false, false, false, false, false, false, false] (by kernel_rfl) rfl rfl (bn8 BK1076 ⟨hx1085_0, hx1085_1, hx1085_2, hx1085_3, hx1085_4, hx1085_5, hx1085_6, hx1085_7⟩) (fun hHeld => ?_); refine with_tabW engrosslaw10_CellMany.tab17 engrosslaw10_CellMany.bits17 (fun HT_ HW_ => ?_)
            generalize w45.drew = w46 at HO_4 HO_5 BK1076 HB hx1085_0 hx1085_1 hx1085_2 hx1085_3 hx1085_4 hx1085_5 hx1085_6 hx1085_7 hHeld ⊢
            refine pure_ (i := 0) (N := some 52) (v := ?_) (a' := ?_) #[true, false, false, false, false, false, false, false, false, false, false, false] rfl rfl (any_of HT_.out (by kernel_rfl)) (fun _ _ _ h => h) (Or.inl ⟨by rfl, ?_⟩) ?_ ?_
            rotate_left
            ·intro w'
             go_simp
             with_reducible rfl
            rotate_left
            ·simp only [Act.put, List.setIfInBounds_toArray, List.set_cons_zero, List.set_cons_succ, i64_w, i32_w]
             rfl
            refine pure_ (i := 1) (N := some 53) (v := ?_) (a' := ?_) #[true, true, false, false, false, false, false, false, false, false, false, false] rfl rfl (any_of HT_.out (by kernel_rfl)) (fun _ _ _ h => h) (Or.inl ⟨by rfl, ?_⟩) ?_ ?_
            rotate_left
            ·intro w'
             go_simp
             with_reducible rfl
            rotate_left
            ·simp only [Act.put, List.setIfInBounds_toArray, List.set_cons_zero, List.set_cons_succ, i64_w, i32_w]
             rfl
            refine pure_ (i := 2) (N := some 54) (v := ?_) (a' := ?_) #[true, true, true, false, false, false, false, false, false, false, false, false] rfl rfl (any_of HT_.out (by kernel_rfl)) (fun _ _ _ h => h) (Or.inl ⟨by rfl, ?_⟩) ?_ ?_
            rotate_left
            ·intro w'
             go_simp
             with_reducible rfl
            rotate_left
            ·simp only [Act.put, List.setIfInBounds_toArray, List.set_cons_zero, List.set_cons_succ, i64_w, i32_w]
             rfl
            refine pure_ (i := 5) (N := some 57) (v := ?_) (a' := ?_) #[true, true, true, false, false, true, false, false, false, false, false, false] rfl rfl (any_of HT_.out (by kernel_rfl)) (fun _ _ _ h => h) (Or.inl ⟨by rfl, ?_⟩) ?_ ?_
            rotate_left
            ·intro w'
             go_simp
             with_reducible rfl
            rotate_left
            ·simp only [Act.put, List.setIfInBounds_toArray, List.set_cons_zero, List.set_cons_succ, i64_w, i32_w]
             rfl
            refine pure_ (i := 6) (N := some 58) (v := ?_) (a' := ?_) #[true, true, true, false, false, true, true, false, false, false, false, false] rfl rfl (any_of HT_.out (by kernel_rfl)) (fun _ _ _ h => h) (Or.inl ⟨by rfl, ?_⟩) ?_ ?_
            rotate_left
            ·intro w'
             go_simp
             with_reducible rfl
            rotate_left
            ·simp only [Act.put, List.setIfInBounds_toArray, List.set_cons_zero, List.set_cons_succ, i64_w, i32_w]
             rfl
            refine pure_ (i := 7) (N := some 59) (v := ?_) (a' := ?_) #[true, true, true, false, false, true, true, true, false, false, false, false] rfl rfl (any_of HT_.out (by kernel_rfl)) (fun _ _ _ h => h) (Or.inl ⟨by rfl, ?_⟩) ?_ ?_
            rotate_left
            ·intro w'
             go_simp
             with_reducible rfl
            rotate_left
            ·simp only [Act.put, List.setIfInBounds_toArray, List.set_cons_zero, List.set_cons_succ, i64_w, i32_w]
             rfl
            refine take_ (i := 3) (N := some 55) (v := ?_) (a' := ?_) #[true, true, true, true, false, true, true, true, false, false, false, false] rfl rfl (take_ofW HT_.out HW_.out (by kernel_rfl)) (fun _ _ _ h => h) (Or.inl ⟨by rfl, ?_⟩) hHeld ?_ ?_
            rotate_left
            ·rintro w' ⟨s0, s1, s2, s3, s4, s5, s6, s7, s8, s9, s10, s11, s12, s13, s14, s15⟩
             go_simp
             with_reducible rfl
            rotate_left
            ·simp only [Act.put, List.setIfInBounds_toArray, List.set_cons_zero, List.set_cons_succ, i64_w, i32_w]
             rfl
            refine take_ (i := 8) (N := some 60) (v := ?_) (a' := ?_) #[true, true, true, true, false, true, true, true, true, false, false, false] rfl rfl (take_ofW HT_.out HW_.out (by kernel_rfl)) (fun _ _ _ h => h) (Or.inl ⟨by rfl, ?_⟩) hHeld ?_ ?_
            rotate_left
            ·rintro w' ⟨s0, s1, s2, s3, s4, s5, s6, s7, s8, s9, s10, s11, s12, s13, s14, s15⟩
             go_simp
             with_reducible rfl
            rotate_left
            ·simp only [Act.put, List.setIfInBounds_toArray, List.set_cons_zero, List.set_cons_succ, i64_w, i32_w]
             rfl
            refine one_ (i := 4) (N := some 56) #[true, true, true, true, true, true, true, true, true, false, false, false] rfl rfl (one_of HT_.out (by kernel_rfl)) (by decide) (fun K hK => ?_)
            refine goes_ Try.func25 (by kernel_rfl) rfl #[.agg #[.string t1066, .int .i64 t1067, .float .f64 t1068, .string t1069, .int .i64 t1070, .int .i64 t1071, .float .f64 t1072, .string t1073]] (by rfl) rfl rfl (by (try simp only [List.map_toArray, List.map_cons, List.map_nil]); first | done | rfl | (simp only [List.length_drop, List.length_take]; rfl)) ?_
            with_reducible refine (engrosslaw10_Back.calls t1066 t1067 t1068 t1069 t1070 t1071 t1072 t1073 t1077 t1078 t1079 t1080 t1081 t1082 t1083 t1084 _ A34.out).mono ?_
            rintro e w47 ⟨rfl, hb⟩
            have HS8_ := (hb.cell (World.block_lt_of_cell? _ _ (hHeld.2.2.2.2.2.2.2.2.1))).trans (hHeld.2.2.2.2.2.2.2.2.1)
            have HS9_ := (hb.cell (World.block_lt_of_cell? _ _ (hHeld.2.2.2.2.2.2.2.2.2.1))).trans (hHeld.2.2.2.2.2.2.2.2.2.1)
            have HS10_ := (hb.cell (World.block_lt_of_cell? _ _ (hHeld.2.2.2.2.2.2.2.2.2.2.1))).trans (hHeld.2.2.2.2.2.2.2.2.2.2.1)
            have HS11_ := (hb.cell (World.block_lt_of_cell? _ _ (hHeld.2.2.2.2.2.2.2.2.2.2.2.1))).trans (hHeld.2.2.2.2.2.2.2.2.2.2.2.1)
            have HS12_ := (hb.cell (World.block_lt_of_cell? _ _ (hHeld.2.2.2.2.2.2.2.2.2.2.2.2.1))).trans (hHeld.2.2.2.2.2.2.2.2.2.2.2.2.1)
            have HS13_ := (hb.cell (World.block_lt_of_cell? _ _ (hHeld.2.2.2.2.2.2.2.2.2.2.2.2.2.1))).trans (hHeld.2.2.2.2.2.2.2.2.2.2.2.2.2.1)
            have HS14_ := (hb.cell (World.block_lt_of_cell? _ _ (hHeld.2.2.2.2.2.2.2.2.2.2.2.2.2.2.1))).trans (hHeld.2.2.2.2.2.2.2.2.2.2.2.2.2.2.1)
            have HS15_ := (hb.cell (World.block_lt_of_cell? _ _ (hHeld.2.2.2.2.2.2.2.2.2.2.2.2.2.2.2))).trans (hHeld.2.2.2.2.2.2.2.2.2.2.2.2.2.2.2)
            refine ⟨_, rfl, ?_⟩
            replace HO_4 := Aside0.mk (Kd.Q_below (by (with_reducible repeat (first | apply Kd.Q_alloc | apply Kd.Q_drewN | apply Kd.Q_drew)); exact HO_4.out) hb)
            replace HO_5 := Aside0.mk (Kd.R_below (by (with_reducible repeat (first | apply Kd.R_alloc | apply Kd.R_drewN | apply Kd.R_drew)); exact HO_5.out) hb)
            replace BK1076 := bB BK1076 hb
            replace HB := bW HB hb
            (try clear hb)
            (try clear hb2)
            (try clear hk)
            (try clear hi)
            refine hK.out _ _ (bn8 BK1076 ⟨HS8_, HS9_, HS10_, HS11_, HS12_, HS13_, HS14_, HS15_⟩) (fun hHeld => ?_)
            clear hK K
            refine norm_ (a' := ?_) ?_ ?_
            rotate_left
            ·show Act.put _ (some 56) _ = _
             simp only [Act.put, List.setIfInBounds_toArray, List.set_cons_zero, List.set_cons_succ, i64_w, i32_w]
             rfl
            refine one_ (i := 9) (N := some 61) #[true, true, true, true, true, true, true, true, true, true, false, false] rfl rfl (one_of HT_.out (by kernel_rfl)) (by decide) (fun K hK => ?_)
            refine goes_ Try.func20 (by kernel_rfl) rfl #[.agg #[.string t1077, .int .i64 t1078, .float .f64 t1079, .string t1080, .int .i64 t1081, .int .i64 t1082, .float .f64 t1083, .string t1084], .agg #[.string ((rd_T26 x5_3 x8_2).f0), .int .i64 ((rd_T26 x5_3 x8_2).f1.f0), .float .f64 ((rd_T26 x5_3 x8_2).f1.f1), .string ((rd_T26 x5_3 x8_2).f1.f2), .int .i64 ((rd_T26 x5_3 x8_2).f2), .int .i64 ((rd_T26 x5_3 x8_2).f3.f0), .float .f64 ((rd_T26 x5_3 x8_2).f3.f1), .string ((rd_T26 x5_3 x8_2).f3.f2)]] (by rfl) rfl rfl (by (try simp only [List.map_toArray, List.map_cons, List.map_nil]); first | done | rfl | (simp only [List.length_drop, List.length_take]; rfl)) ?_
            with_reducible refine (engrossref10_Eq.calls t1077 t1078 t1079 t1080 t1081 t1082 t1083 t1084 ((rd_T26 x5_3 x8_2).f0) ((rd_T26 x5_3 x8_2).f1.f0) ((rd_T26 x5_3 x8_2).f1.f1) ((rd_T26 x5_3 x8_2).f1.f2) ((rd_T26 x5_3 x8_2).f2) ((rd_T26 x5_3 x8_2).f3.f0) ((rd_T26 x5_3 x8_2).f3.f1) ((rd_T26 x5_3 x8_2).f3.f2) true _ A36.out).mono ?_
            rintro e w48 ⟨rfl, hb⟩
            have HS8_ := (hb.cell (World.block_lt_of_cell? _ _ (hHeld.2.2.2.2.2.2.2.2.1))).trans (hHeld.2.2.2.2.2.2.2.2.1)
            have HS9_ := (hb.cell (World.block_lt_of_cell? _ _ (hHeld.2.2.2.2.2.2.2.2.2.1))).trans (hHeld.2.2.2.2.2.2.2.2.2.1)
            have HS10_ := (hb.cell (World.block_lt_of_cell? _ _ (hHeld.2.2.2.2.2.2.2.2.2.2.1))).trans (hHeld.2.2.2.2.2.2.2.2.2.2.1)
            have HS11_ := (hb.cell (World.block_lt_of_cell? _ _ (hHeld.2.2.2.2.2.2.2.2.2.2.2.1))).trans (hHeld.2.2.2.2.2.2.2.2.2.2.2.1)
            have HS12_ := (hb.cell (World.block_lt_of_cell? _ _ (hHeld.2.2.2.2.2.2.2.2.2.2.2.2.1))).trans (hHeld.2.2.2.2.2.2.2.2.2.2.2.2.1)
            have HS13_ := (hb.cell (World.block_lt_of_cell? _ _ (hHeld.2.2.2.2.2.2.2.2.2.2.2.2.2.1))).trans (hHeld.2.2.2.2.2.2.2.2.2.2.2.2.2.1)
            have HS14_ := (hb.cell (World.block_lt_of_cell? _ _ (hHeld.2.2.2.2.2.2.2.2.2.2.2.2.2.2.1))).trans (hHeld.2.2.2.2.2.2.2.2.2.2.2.2.2.2.1)
            have HS15_ := (hb.cell (World.block_lt_of_cell? _ _ (hHeld.2.2.2.2.2.2.2.2.2.2.2.2.2.2.2))).trans (hHeld.2.2.2.2.2.2.2.2.2.2.2.2.2.2.2)
            refine ⟨_, rfl, ?_⟩
            replace HO_4 := Aside0.mk (Kd.Q_below (by (with_reducible repeat (first | apply Kd.Q_alloc | apply Kd.Q_drewN | apply Kd.Q_drew)); exact HO_4.out) hb)
            replace HO_5 := Aside0.mk (Kd.R_below (by (with_reducible repeat (first | apply Kd.R_alloc | apply Kd.R_drewN | apply Kd.R_drew)); exact HO_5.out) hb)
            replace BK1076 := bB BK1076 hb
            replace HB := bW HB hb
            (try clear hb)
            (try clear hb2)
            (try clear hk)
            (try clear hi)
            refine hK.out _ _ (bn8 BK1076 ⟨HS8_, HS9_, HS10_, HS11_, HS12_, HS13_, HS14_, HS15_⟩) (fun hHeld => ?_)
            clear hK K
            refine norm_ (a' := ?_) ?_ ?_
            rotate_left
            ·show Act.put _ (some 61) _ = _
             simp only [Act.put, List.setIfInBounds_toArray, List.set_cons_zero, List.set_cons_succ, i64_w, i32_w]
             rfl
            refine pure_ (i := 10) (N := some 62) (v := ?_) (a' := ?_) #[true, true, true, true, true, true, true, true, true, true, true, false] rfl rfl (any_of HT_.out (by kernel_rfl)) (fun _ _ _ h => h) (Or.inl ⟨by rfl, ?_⟩) ?_ ?_
            rotate_left
            ·intro w'
             go_simp
             with_reducible rfl
            rotate_left
            ·simp only [Act.put, List.setIfInBounds_toArray, List.set_cons_zero, List.set_cons_succ, i64_w, i32_w]
             rfl
            refine pure_ (i := 11) (N := some 63) (v := ?_) (a' := ?_) #[true, true, true, true, true, true, true, true, true, true, true, true] rfl rfl (any_of HT_.out (by kernel_rfl)) (fun _ _ _ h => h) (Or.inl ⟨by rfl, ?_⟩) ?_ ?_
            rotate_left
            ·intro w'
             go_simp
             with_reducible rfl
            rotate_left
            ·simp only [Act.put, List.setIfInBounds_toArray, List.set_cons_zero, List.set_cons_succ, i64_w, i32_w]
             rfl
            refine done_ (done_of HT_.out (by kernel_rfl)) ?_
            have q49 : (t1074 : Int) ≤ ((x4_2.length : Int) : Int) := of_decide_eq_true (by first | (with_reducible assumption) | assumption)
            obtain ⟨i049, hi049, _, hsz49, _⟩ := info_parts info5
            have hcut49 := cut_from (P := Try.prog) 47 5 .i64 Try.underlying47 hi049 1 hsz49 Ao41 x4_2.length co41 t1074 (of_decide_eq_true (by first | (with_reducible assumption) | assumption)) q49
            have hr49 := Kd.Q_drop (k := (t1074 : Int).toNat) HO_4.out (by omega)
            obtain ⟨A49, hA49⟩ : ∃ A1, A1 = (if co41 = (t1074 : Int).toNat then Ao41 else (Ao41 : Option Addr).map (·.add ((t1074 : Int).toNat * 1))) := ⟨_, rfl⟩
            obtain ⟨c49, hc49⟩ : ∃ c1, c1 = co41 - (t1074 : Int).toNat := ⟨_, rfl⟩
            have hy49 : y1087.length = x4_2.length - (t1074 : Int).toNat := (by rw [Ny1087.out, List.length_drop])
            rw [← Ny1087.out] at hr49
            rw [← hy49, ← hA49, ← hc49] at hcut49
            replace hr49 : Kd.Q (Kd.int .u8) 5 w48 w.heap.size (fun _ => True) (.slice A49 y1087.length c49) y1087 := (by rw [hA49, hc49, hy49]; exact hr49)
            have HE49 : Aside0 ((Value.slice A49 y1087.length c49).ownBlock = (.slice Ao41 x4_2.length co41 : Value).ownBlock) := ⟨by rw [hA49]; split <;> (cases (Ao41 : Option Addr) <;> first | rfl | simp [Value.ownBlock, add_block])⟩
            clear hy49 hi049 hsz49 HO_4 hA49 hc49
            have HO1089 := Aside0.mk hr49
            clear hr49
            replace q49 := eq_true q49
            try go_wp2
            go_roundg k2
            case measure => have := HJ3.out; have := HK2.out; omega
            case rel => exact ⟨(y1087), (wrap64 (x8_2 + 1)), (by first | rfl | (simp; done) | (simp [*]; done)), H', ⟨by have := HJ3.out; have := HK2.out; omega⟩, ⟨by (with_reducible repeat (first | apply Kd.Q_alloc | apply Kd.Q_drewN | apply Kd.Q_drew)); exact HO1089.out⟩, ⟨by (with_reducible repeat (first | apply Kd.R_alloc | apply Kd.R_drewN | apply Kd.R_drew)); exact HO_5.out⟩, ⟨by repeat (first | (with_reducible first | exact HB.out | apply below_alloc | apply pw_below_drewN | apply below_drew1 | refine below_set ?_ GE1076.out) | exact HB.out)⟩⟩
           ·rw [if_neg c39] at H
            exact absurd H (by simp)
          ·rw [if_neg c38] at H
           exact absurd H (by simp)
         ·replace c37 := Bool.eq_false_iff.mpr c37
          subst c37
          have H1 : (none) = some r := by rw [if_neg (show ¬ (false = true) by decide)] at H; exact H
          clear H
          have H := H1
          clear H1
          exact absurd H (by simp)
        ·rw [if_neg c35] at H
         exact absurd H (by simp)
       ·rw [if_neg c33] at H
        have c33b0 : (t1075 == 0) = false := beq_eq_false_iff_ne.mpr c33
        have c33b1 : (t1075 != 0) = true := bne_iff_ne.mpr c33
        exact absurd H (by simp)
      ·rw [if_neg c31] at H
       have c31b0 : decide (x8_2 < (x5_3.length : Int)) = false := decide_eq_false c31
       clear c31
       obtain rfl := Option.some.inj H
       obtain ⟨Ao50, co50, eo50⟩ := Kd.R_slice HO_5.out
       subst eo50
       obtain ⟨Ao51, co51, eo51, _⟩ := Kd.Q_slice HO_4.out
       subst eo51
       go_wp2
       go_ret
       exact ⟨by first | rfl | (simp [errW_none, errW_some] <;> rfl) | (simp [*, errW_none, errW_some] <;> rfl), by repeat (first | (with_reducible first | exact HB.out | apply below_alloc | apply pw_below_drewN | apply below_drew1) | exact HB.out)⟩
 ·replace c3 := Bool.eq_false_iff.mpr c3
  subst c3
  have H1 : (none) = some r := by rw [if_neg (show ¬ (false = true) by decide)] at H; exact H
  clear H
  have H := H1
  clear H1
  exact absurd H (by simp)

/-- THE ONE PURE STATEMENT of engrosslaw10_CellMany. -/
def engrosslaw10_CellMany.Pure : Prop := ∀ (l0 : List (S26)), (l0.length ≤ 9223372036854775807 ∧ ∀ y ∈ l0, wf26 y) → ∃ k, engrosslaw10_CellMany.f k l0 = some true

end Go.Proofs.Ytjhbeaffcdkhcaa.P
