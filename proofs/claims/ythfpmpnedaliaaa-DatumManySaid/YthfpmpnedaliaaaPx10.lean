/- Functions of the program as Lean functions, and that each call answers as its function does. No condition. (Lines written by a generator of this session.) -/
import Derived.Test.YthfpmpnedaliaaaPx0
import Derived.Test.YthfpmpnedaliaaaPx1
import Derived.Test.YthfpmpnedaliaaaPx3
import Derived.Test.YthfpmpnedaliaaaPx4
namespace Go.Proofs.Ythfpmpnedaliaaa.P
open Go.RowKit Go.Proofs.YthfpmpnedaliaaaW.PrintWords Go.Proofs.YthfpmpnedaliaaaW.PrintLast Go.Proofs.YthfpmpnedaliaaaW.PrintMore
attribute [local go_sem] max2_int min2_int max_two min_two max_three min_three max_four min_four   -- for this text's walks alone
attribute [local go_sem] x_str_gtr x_str_leq x_str_geq ext_bits ext_frombits ext_neg x_store_float Instr.field asAgg
set_option linter.unusedVariables false
set_option linter.unusedSimpArgs false

/-! ### engrosslaw4_DatumMany: function 9 -/
mutual
def engrosslaw4_DatumMany.j2 : Nat → List Int → List (S27) → Option (Bool)
 | 0, _, _ => none
 | k + 1, x4, x5 => engrosslaw4_DatumMany.l1 k x4 x5 0
def engrosslaw4_DatumMany.l1 : Nat → List Int → List (S27) → Int → Option (Bool)
 | 0, _, _, _ => none
 | k + 1, x4, x5, x8 => if x8 < (x5.length : Int) then ((datum_Get.f k x4).bind fun bt425 => (if bt425.2.2.2.2 = 0 then (if 0 ≤ x8 then ((engrossref1_EqVal.f bt425.1 bt425.2.1 bt425.2.2.1 ((rd_T27 x5 x8).f0) ((rd_T27 x5 x8).f1) ((rd_T27 x5 x8).f2)).bind fun t432 => (if t432 = true then (if 0 ≤ bt425.2.2.2.1 then (if bt425.2.2.2.1 ≤ (x4.length : Int) then (engrosslaw4_DatumMany.l1 k (x4.drop (bt425.2.2.2.1 : Int).toNat) x5 (wrap64 (x8 + 1))) else (none)) else (none)) else (none))) else (none)) else (none))) else (some ((x4.length : Int) == 0))
def engrosslaw4_DatumMany.l0 : Nat → List (S27) → List Int → List (S27) → Int → Option (Bool)
 | 0, _, _, _, _ => none
 | k + 1, x0, x4, x5, x6 => if x6 < (x0.length : Int) then (engrosslaw4_DatumMany.j1 k x0 x4 x5 x6 (decide (x6 < 20))) else (engrosslaw4_DatumMany.j1 k x0 x4 x5 x6 false)
def engrosslaw4_DatumMany.j1 : Nat → List (S27) → List Int → List (S27) → Int → Bool → Option (Bool)
 | 0, _, _, _, _, _ => none
 | k + 1, x0, x4, x5, x6, x22 => if x22 = true then (if 0 ≤ x6 then (if x6 < (x0.length : Int) then (if (((rd_T27 x0 x6).f2).size : Int) > 25 then (engrosslaw4_DatumMany.l0 k x0 x4 x5 (wrap64 (x6 + 1))) else ((engrossref1_MayVal.f ((rd_T27 x0 x6).f0) ((rd_T27 x0 x6).f1) ((rd_T27 x0 x6).f2)).bind fun t418 => (if t418 = true then (if x5.length < 4398046511104 then ((datum_Put.f k x4 ((rd_T27 x0 x6).f0) ((rd_T27 x0 x6).f1) ((rd_T27 x0 x6).f2)).bind fun t422 => (engrosslaw4_DatumMany.l0 k x0 t422 (x5 ++ [(⟨(rd_T27 x0 x6).f0, (rd_T27 x0 x6).f1, (rd_T27 x0 x6).f2⟩ : S27)]) (wrap64 (x6 + 1)))) else (none)) else (engrosslaw4_DatumMany.l0 k x0 x4 x5 (wrap64 (x6 + 1)))))) else (none)) else (none)) else (engrosslaw4_DatumMany.j2 k x4 x5)
end
def engrosslaw4_DatumMany.f (k : Nat) (l0 : List (S27)) : Option (Bool) := (engrosslaw4_begun.f k).bind fun t415 => (if t415 = true then (engrosslaw4_DatumMany.l0 k l0 ([] : List Int) ([] : List (S27)) 0) else (none))
theorem engrosslaw4_DatumMany.mono_l : ∀ k, (∀ y0 y1, LeO (engrosslaw4_DatumMany.j2 k y0 y1) (engrosslaw4_DatumMany.j2 (k + 1) y0 y1)) ∧ (∀ y0 y1 y2, LeO (engrosslaw4_DatumMany.l1 k y0 y1 y2) (engrosslaw4_DatumMany.l1 (k + 1) y0 y1 y2)) ∧ (∀ y0 y1 y2 y3, LeO (engrosslaw4_DatumMany.l0 k y0 y1 y2 y3) (engrosslaw4_DatumMany.l0 (k + 1) y0 y1 y2 y3)) ∧ (∀ y0 y1 y2 y3 y4, LeO (engrosslaw4_DatumMany.j1 k y0 y1 y2 y3 y4) (engrosslaw4_DatumMany.j1 (k + 1) y0 y1 y2 y3 y4))
 | 0 => ⟨fun _ _ r h => by simp [engrosslaw4_DatumMany.j2] at h, fun _ _ _ r h => by simp [engrosslaw4_DatumMany.l1] at h, fun _ _ _ _ r h => by simp [engrosslaw4_DatumMany.l0] at h, fun _ _ _ _ _ r h => by simp [engrosslaw4_DatumMany.j1] at h⟩
 | k + 1 => by
  obtain ⟨ih0, ih1, ih2, ih3⟩ := engrosslaw4_DatumMany.mono_l k
  refine ⟨?_, ?_, ?_, ?_⟩
  ·intro y0 y1
   unfold engrosslaw4_DatumMany.j2
   repeat' first
   | (with_reducible exact ih0 _ _)
   | (with_reducible exact ih1 _ _ _)
   | (with_reducible exact ih2 _ _ _ _)
   | (with_reducible exact ih3 _ _ _ _ _)
   | (with_reducible exact datum_Get.mono _ _)
   | (with_reducible exact datum_Put.mono _ _ _ _ _)
   | (with_reducible exact engrosslaw4_begun.mono _)
   | (with_reducible exact LeO.refl _)
   | (with_reducible exact LeO.none _)
   | (with_reducible refine LeO.ite ?_ ?_)
   | (with_reducible refine LeO.bind ?_ (fun _ => ?_))
   | exact ih0 _ _
   | exact ih1 _ _ _
   | exact ih2 _ _ _ _
   | exact ih3 _ _ _ _ _
   | exact datum_Get.mono _ _
   | exact datum_Put.mono _ _ _ _ _
   | exact engrosslaw4_begun.mono _
   | exact LeO.none _
   | refine LeO.ite ?_ ?_
   | refine LeO.bind ?_ (fun _ => ?_)
  ·intro y0 y1 y2
   unfold engrosslaw4_DatumMany.l1
   repeat' first
   | (with_reducible exact ih0 _ _)
   | (with_reducible exact ih1 _ _ _)
   | (with_reducible exact ih2 _ _ _ _)
   | (with_reducible exact ih3 _ _ _ _ _)
   | (with_reducible exact datum_Get.mono _ _)
   | (with_reducible exact datum_Put.mono _ _ _ _ _)
   | (with_reducible exact engrosslaw4_begun.mono _)
   | (with_reducible exact LeO.refl _)
   | (with_reducible exact LeO.none _)
   | (with_reducible refine LeO.ite ?_ ?_)
   | (with_reducible refine LeO.bind ?_ (fun _ => ?_))
   | exact ih0 _ _
   | exact ih1 _ _ _
   | exact ih2 _ _ _ _
   | exact ih3 _ _ _ _ _
   | exact datum_Get.mono _ _
   | exact datum_Put.mono _ _ _ _ _
   | exact engrosslaw4_begun.mono _
   | exact LeO.none _
   | refine LeO.ite ?_ ?_
   | refine LeO.bind ?_ (fun _ => ?_)
  ·intro y0 y1 y2 y3
   unfold engrosslaw4_DatumMany.l0
   repeat' first
   | (with_reducible exact ih0 _ _)
   | (with_reducible exact ih1 _ _ _)
   | (with_reducible exact ih2 _ _ _ _)
   | (with_reducible exact ih3 _ _ _ _ _)
   | (with_reducible exact datum_Get.mono _ _)
   | (with_reducible exact datum_Put.mono _ _ _ _ _)
   | (with_reducible exact engrosslaw4_begun.mono _)
   | (with_reducible exact LeO.refl _)
   | (with_reducible exact LeO.none _)
   | (with_reducible refine LeO.ite ?_ ?_)
   | (with_reducible refine LeO.bind ?_ (fun _ => ?_))
   | exact ih0 _ _
   | exact ih1 _ _ _
   | exact ih2 _ _ _ _
   | exact ih3 _ _ _ _ _
   | exact datum_Get.mono _ _
   | exact datum_Put.mono _ _ _ _ _
   | exact engrosslaw4_begun.mono _
   | exact LeO.none _
   | refine LeO.ite ?_ ?_
   | refine LeO.bind ?_ (fun _ => ?_)
  ·intro y0 y1 y2 y3 y4
   unfold engrosslaw4_DatumMany.j1
   repeat' first
   | (with_reducible exact ih0 _ _)
   | (with_reducible exact ih1 _ _ _)
   | (with_reducible exact ih2 _ _ _ _)
   | (with_reducible exact ih3 _ _ _ _ _)
   | (with_reducible exact datum_Get.mono _ _)
   | (with_reducible exact datum_Put.mono _ _ _ _ _)
   | (with_reducible exact engrosslaw4_begun.mono _)
   | (with_reducible exact LeO.refl _)
   | (with_reducible exact LeO.none _)
   | (with_reducible refine LeO.ite ?_ ?_)
   | (with_reducible refine LeO.bind ?_ (fun _ => ?_))
   | exact ih0 _ _
   | exact ih1 _ _ _
   | exact ih2 _ _ _ _
   | exact ih3 _ _ _ _ _
   | exact datum_Get.mono _ _
   | exact datum_Put.mono _ _ _ _ _
   | exact engrosslaw4_begun.mono _
   | exact LeO.none _
   | refine LeO.ite ?_ ?_
   | refine LeO.bind ?_ (fun _ => ?_)
theorem engrosslaw4_DatumMany.mono : ∀ a0 k, LeO (engrosslaw4_DatumMany.f k a0) (engrosslaw4_DatumMany.f (k + 1) a0) := by
 intro a0 k
 obtain ⟨ih0, ih1, ih2, ih3⟩ := engrosslaw4_DatumMany.mono_l k
 unfold engrosslaw4_DatumMany.f
 repeat' first
   | (with_reducible exact ih0 _ _)
   | (with_reducible exact ih1 _ _ _)
   | (with_reducible exact ih2 _ _ _ _)
   | (with_reducible exact ih3 _ _ _ _ _)
   | (with_reducible exact datum_Get.mono _ _)
   | (with_reducible exact datum_Put.mono _ _ _ _ _)
   | (with_reducible exact engrosslaw4_begun.mono _)
   | (with_reducible exact LeO.refl _)
   | (with_reducible exact LeO.none _)
   | (with_reducible refine LeO.ite ?_ ?_)
   | (with_reducible refine LeO.bind ?_ (fun _ => ?_))
   | exact ih0 _ _
   | exact ih1 _ _ _
   | exact ih2 _ _ _ _
   | exact ih3 _ _ _ _ _
   | exact datum_Get.mono _ _
   | exact datum_Put.mono _ _ _ _ _
   | exact engrosslaw4_begun.mono _
   | exact LeO.none _
   | refine LeO.ite ?_ ?_
   | refine LeO.bind ?_ (fun _ => ?_)
def engrosslaw4_DatumMany.T17 : Bool × List (List Nat × List Nat) := (true, [([], []), ([0], [0]), ([1], [1]), ([2], [2]), ([2], [2]), ([2], [2]), ([4, 5, 2], [2, 4, 5]), ([6, 2], [2, 6]), ([3, 7, 2, 2], [2, 3, 7]), ([8, 2], [2, 8]), ([2, 9], [2, 9])])
def engrosslaw4_DatumMany.B17 : List Nat := [0, 1, 3, 7, 7, 7, 55, 119, 255, 511, 1023]
theorem engrosslaw4_DatumMany.tab17 : rtab .any (opsOf Try.f9 17) = engrosslaw4_DatumMany.T17 := by kernel_rfl
theorem engrosslaw4_DatumMany.bits17 : waitsOk engrosslaw4_DatumMany.T17.2 engrosslaw4_DatumMany.B17 = true := by kernel_rfl
set_option maxHeartbeats 8000000 in
set_option maxRecDepth 100000 in
theorem engrosslaw4_DatumMany.calls (k : Nat) (A0 : Option Addr) (c0 : Nat) (l0 : List (S27)) (r : Bool) (w : World) (hr0 : Kd.C k27 w A0 l0.length l0) (hc0 : l0.length ≤ c0) (h : engrosslaw4_DatumMany.f k l0 = some r) :
  Calls Try.prog 9 #[.slice A0 l0.length c0] w fun e w' => e = .returned (.bool r) ∧ Below w.heap.size w w' := by
 have hu27 := Try.underlying27
 have HR0 := Aside0.mk hr0
 have HC0 := Aside0.mk hc0
 clear hr0 hc0
 have HB := Aside0.mk (Below.refl w.heap.size w)
 have H : ((engrosslaw4_begun.f k).bind fun t415 => (if t415 = true then (engrosslaw4_DatumMany.l0 k l0 ([] : List Int) ([] : List (S27)) 0) else (none))) = some r := h
 clear h
 replace H := Option.bind_eq_some_iff.mp H
 obtain ⟨t415, A20, H⟩ := H
 replace H : (if t415 = true then (engrosslaw4_DatumMany.l0 k l0 ([] : List Int) ([] : List (S27)) 0) else (none)) = some r := H
 have A2 := Aside0.mk A20
 clear A20
 by_cases c3 : t415 = true
 ·subst c3
  have H1 : (engrosslaw4_DatumMany.l0 k l0 ([] : List Int) ([] : List (S27)) 0) = some r := by rw [if_pos rfl] at H; exact H
  clear H
  have H := H1
  clear H1
  have HC4 := Aside0.mk H
  clear H
  go_enter Try.func9, Try.ntmps9
  go_upto_block 0 with (first | ((with_reducible refine gate_callee (f := 10) rfl ?_); refine goesL_ (some 12) rfl rfl Try.func10 (by kernel_rfl) rfl #[] rfl (by (try simp only [List.map_toArray, List.map_cons, List.map_nil]); first | done | rfl | (simp only [List.length_drop, List.length_take]; rfl)) ?_; (with_reducible refine (engrosslaw4_begun.calls k  true _ A2.out).mono ?_); rintro e w5 ⟨rfl, hb⟩; refine ⟨_, rfl, ?_⟩; replace HB := bW HB hb; (try clear hb); (try clear hb2); (try clear hk); (try clear hi)))
  (try simp only [Act.put, List.setIfInBounds_toArray, List.set_cons_zero, List.set_cons_succ])
  go_cut [4, 5] (fun v4 v5 wc => ∃ (kq : Nat) (x4_3 : List Int) (x5_3 : List (S27)), Aside0 (engrosslaw4_DatumMany.j2 kq x4_3 x5_3 = some r) ∧ Aside0 (kq ≤ k) ∧ Aside0 (Kd.R (Kd.int .u8) 5 wc w.heap.size (fun _ => True) v4 x4_3) ∧ Aside0 (Kd.R k27 27 wc w.heap.size (fun _ => True) v5 x5_3) ∧ Aside0 (Below w.heap.size w wc))
  case first =>
   have H := HC4.out
   clear HC4
   have H' := Aside0.mk H
   clear H
   go_wp2
   go_loopg [4, 5, 6] k (fun kq v4 v5 v6 w' => ∃ (x4_1 : List Int) (x5_1 : List (S27)) (x6_1 : Int), v6 = .int .i64 x6_1 ∧ Aside0 (engrosslaw4_DatumMany.l0 kq l0 x4_1 x5_1 x6_1 = some r) ∧ Aside0 (kq ≤ k) ∧ Aside0 (Kd.R (Kd.int .u8) 5 w' w.heap.size (fun _ => True) v4 x4_1) ∧ Aside0 (Kd.R k27 27 w' w.heap.size (fun _ => True) v5 x5_1) ∧ Aside0 (Below w.heap.size w w'))
   case atStart => exact ⟨(([] : List Int)), (([] : List (S27))), (0), (by first | rfl | (simp; done) | (simp [*]; done)), H', ⟨Nat.le_refl _⟩, ⟨by first | exact Kd.R_nil _ _ _ _ _ | exact Kd.N_nil _ _ _ _ _ | exact Kd.V_nil _ _ _ _ _ | exact Kd.Q_nil _ _ _ _ _ | exact Kd.S_nil _ _ _ _ _⟩, ⟨by first | exact Kd.R_nil _ _ _ _ _ | exact Kd.N_nil _ _ _ _ _ | exact Kd.V_nil _ _ _ _ _ | exact Kd.Q_nil _ _ _ _ _ | exact Kd.S_nil _ _ _ _ _⟩, ⟨by repeat (first | (with_reducible first | exact HB.out | apply below_alloc | apply pw_below_drewN | apply below_drew1) | exact HB.out)⟩⟩
   case round =>
    clear H'
    try clear c1
    try clear p2
    try clear c3
    obtain ⟨x4_1, x5_1, x6_1, rfl, HA, HK1, HO_4, HO_5, HB⟩ := hrel
    cases gk with
    | zero => exact absurd HA.out (by simp [engrosslaw4_DatumMany.l0])
    | succ k1 =>
     have H := HA.out
     clear HA
     simp only [engrosslaw4_DatumMany.l0] at H
     have HC6 := Aside0.mk H
     clear H
     go_upto_region 7 with (fail)
     go_cut [22] (fun v22 wc => ∃ (kq : Nat) (x22_5 : Bool), v22 = .bool x22_5 ∧ Aside0 (engrosslaw4_DatumMany.j1 kq l0 x4_1 x5_1 x6_1 x22_5 = some r) ∧ Aside0 (kq ≤ k1) ∧ Aside0 (Kd.R (Kd.int .u8) 5 wc w.heap.size (fun _ => True) u4 x4_1) ∧ Aside0 (Kd.R k27 27 wc w.heap.size (fun _ => True) u5 x5_1) ∧ Aside0 (Below w.heap.size w wc))
     case first =>
      have H := HC6.out
      clear HC6
      by_cases c7 : x6_1 < (l0.length : Int)
      ·rw [if_pos c7] at H
       have c7b0 : decide (x6_1 < (l0.length : Int)) = true := decide_eq_true c7
       clear c7
       (first | rw [c7b0] | (simp only [i64_w, i32_w]; rw [c7b0]) | skip)
       have H' := Aside0.mk H
       clear H
       go_wp2
       go_meet
       case rel => exact ⟨_, (decide (x6_1 < 20)), (by first | rfl | (simp; done) | (simp [*]; done)), H', ⟨by have := HK1.out; first | omega | exact Nat.le_refl _⟩, ⟨by (with_reducible repeat (first | apply Kd.R_alloc | apply Kd.R_drewN | apply Kd.R_drew)); exact HO_4.out⟩, ⟨by (with_reducible repeat (first | apply Kd.R_alloc | apply Kd.R_drewN | apply Kd.R_drew)); exact HO_5.out⟩, ⟨by repeat (first | (with_reducible first | exact HB.out | apply below_alloc | apply pw_below_drewN | apply below_drew1) | exact HB.out)⟩⟩
      ·rw [if_neg c7] at H
       have c7b0 : decide (x6_1 < (l0.length : Int)) = false := decide_eq_false c7
       clear c7
       (first | rw [c7b0] | (simp only [i64_w, i32_w]; rw [c7b0]) | skip)
       have H' := Aside0.mk H
       clear H
       go_wp2
       go_meet
       case rel => exact ⟨_, (false), (by first | rfl | (simp; done) | (simp [*]; done)), H', ⟨by have := HK1.out; first | omega | exact Nat.le_refl _⟩, ⟨by (with_reducible repeat (first | apply Kd.R_alloc | apply Kd.R_drewN | apply Kd.R_drew)); exact HO_4.out⟩, ⟨by (with_reducible repeat (first | apply Kd.R_alloc | apply Kd.R_drewN | apply Kd.R_drew)); exact HO_5.out⟩, ⟨by repeat (first | (with_reducible first | exact HB.out | apply below_alloc | apply pw_below_drewN | apply below_drew1) | exact HB.out)⟩⟩
     case rest =>
      clear HC6
      try clear c1
      try clear p2
      try clear c3
      try clear c7
      try clear c7b0
      try clear p2
      obtain ⟨kq, x22_5, rfl, HA, HJ5, HO_4, HO_5, HB⟩ := hcut
      cases kq with
      | zero => exact absurd HA.out (by simp [engrosslaw4_DatumMany.j1])
      | succ kj5 =>
       have H := HA.out
       clear HA
       simp only [engrosslaw4_DatumMany.j1] at H
       by_cases c8 : x22_5 = true
       ·subst c8
        have H1 : (if 0 ≤ x6_1 then (if x6_1 < (l0.length : Int) then (if (((rd_T27 l0 x6_1).f2).size : Int) > 25 then (engrosslaw4_DatumMany.l0 kj5 l0 x4_1 x5_1 (wrap64 (x6_1 + 1))) else ((engrossref1_MayVal.f ((rd_T27 l0 x6_1).f0) ((rd_T27 l0 x6_1).f1) ((rd_T27 l0 x6_1).f2)).bind fun t418 => (if t418 = true then (if x5_1.length < 4398046511104 then ((datum_Put.f kj5 x4_1 ((rd_T27 l0 x6_1).f0) ((rd_T27 l0 x6_1).f1) ((rd_T27 l0 x6_1).f2)).bind fun t422 => (engrosslaw4_DatumMany.l0 kj5 l0 t422 (x5_1 ++ [(⟨(rd_T27 l0 x6_1).f0, (rd_T27 l0 x6_1).f1, (rd_T27 l0 x6_1).f2⟩ : S27)]) (wrap64 (x6_1 + 1)))) else (none)) else (engrosslaw4_DatumMany.l0 kj5 l0 x4_1 x5_1 (wrap64 (x6_1 + 1)))))) else (none)) else (none)) = some r := by rw [if_pos rfl] at H; exact H
        clear H
        have H := H1
        clear H1
        by_cases c9 : 0 ≤ x6_1
        ·rw [if_pos c9] at H
         have c9b0 : decide (0 ≤ x6_1) = true := decide_eq_true c9
         clear c9
         by_cases c10 : x6_1 < (l0.length : Int)
         ·rw [if_pos c10] at H
          have c10b0 : decide (x6_1 < (l0.length : Int)) = true := decide_eq_true c10
          clear c10
          by_cases c11 : (((rd_T27 l0 x6_1).f2).size : Int) > 25
          ·rw [if_pos c11] at H
           have c11b0 : decide (25 < (((rd_T27 l0 x6_1).f2).size : Int)) = true := decide_eq_true c11
           have c11b1 : decide (25 < ((rd_T27 l0 x6_1).f2).size) = true := decide_eq_true (by omega)
           clear c11
           have H' := Aside0.mk H
           clear H
           have p416 : 0 ≤ (x6_1 : Int) := of_decide_eq_true (by first | (with_reducible assumption) | assumption)
           have q416 : x6_1 < (l0.length : Int) := of_decide_eq_true (by first | (with_reducible assumption) | assumption)
           obtain ⟨ad416, e416, hx416_0, hx416_1, hx416_2⟩ := at_T27 HR0.out x6_1 p416 q416
           cases e416
           replace hx416_0 := (HB.out.cell (World.block_lt_of_cell? w _ hx416_0)).trans hx416_0
           replace hx416_1 := (HB.out.cell (World.block_lt_of_cell? w _ hx416_1)).trans hx416_1
           replace hx416_2 := (HB.out.cell (World.block_lt_of_cell? w _ hx416_2)).trans hx416_2
           replace p416 := eq_true p416
           replace q416 := eq_true q416
           go_wp2_with (first | ((with_reducible refine gate_dst (N := 7) rfl ?_); refine box_event ?hg (N := 7) ?hd (cs := #[.int .i64 0, .float .f64 0, .string (⟨#[]⟩ : ByteArray)]) (t := 27) ?hr ?_; (case hd => rfl); (case hg => rfl); (case hr => first | (go_simp; done) | (go_simp; rfl)); intro gb417 hg w12 hbox hb; have BK417 := Aside0.mk (hbox); have GW417 := bZ HB hg; have GE417 := bZ HB hg; replace HO_4 := Aside0.mk (Kd.R_below (by (with_reducible repeat (first | apply Kd.R_alloc | apply Kd.R_drewN | apply Kd.R_drew)); exact HO_4.out) hb); replace HO_5 := Aside0.mk (Kd.R_below (Kd.R_elderB (by (with_reducible repeat (first | apply Kd.R_alloc | apply Kd.R_drewN | apply Kd.R_drew)); exact HO_5.out) gb417 (Nat.le_of_eq hg.symm)) hb); replace HB := bW HB hb; clear hb hbox hg; obtain ⟨hcz13_0, hcz13_1, hcz13_2, hfz13_0, hfz13_1, hfz13_2⟩ := bf3 (w := w12) BK417))
           go_roundg kj5
           case measure => have := HK1.out; have := HJ5.out; omega
           case rel => exact ⟨(x4_1), (x5_1), (wrap64 (x6_1 + 1)), (by first | rfl | (simp; done) | (simp [*]; done)), H', ⟨by have := HK1.out; have := HJ5.out; omega⟩, ⟨by (with_reducible repeat (first | apply Kd.R_alloc | apply Kd.R_drewN | apply Kd.R_drew)); exact Kd.R_mono (Kd.R_far (p := ⟨gb417, 2, none⟩) (Kd.R_far (p := ⟨gb417, 1, none⟩) (Kd.R_far (p := ⟨gb417, 0, none⟩) (Kd.R_types HO_4.out BK417.out (by decide)) (fun _ hk => hk.2) (.int .i64 ((rd_T27 l0 x6_1).f0))) (fun _ hk => hk.2) (.float .f64 ((rd_T27 l0 x6_1).f1))) (fun _ hk => hk.2) (.string ((rd_T27 l0 x6_1).f2))) (fun _ hk => trivial)⟩, ⟨by (with_reducible repeat (first | apply Kd.R_alloc | apply Kd.R_drewN | apply Kd.R_drew)); exact Kd.R_mono (Kd.R_far (p := ⟨gb417, 2, none⟩) (Kd.R_far (p := ⟨gb417, 1, none⟩) (Kd.R_far (p := ⟨gb417, 0, none⟩) (Kd.R_mono HO_5.out (fun k_ hk => (⟨hk, hk.2⟩ : _ ∧ k_ ≠ gb417))) (fun _ hk => hk.2) (.int .i64 ((rd_T27 l0 x6_1).f0))) (fun _ hk => hk.2) (.float .f64 ((rd_T27 l0 x6_1).f1))) (fun _ hk => hk.2) (.string ((rd_T27 l0 x6_1).f2))) (fun _ hk => trivial)⟩, ⟨by repeat (first | (with_reducible first | exact HB.out | apply below_alloc | apply pw_below_drewN | apply below_drew1 | refine below_set ?_ GE417.out) | exact HB.out)⟩⟩
          ·rw [if_neg c11] at H
           have c11b0 : decide (25 < (((rd_T27 l0 x6_1).f2).size : Int)) = false := decide_eq_false c11
           have c11b1 : decide (25 < ((rd_T27 l0 x6_1).f2).size) = false := decide_eq_false (by omega)
           clear c11
           replace H := Option.bind_eq_some_iff.mp H
           obtain ⟨t418, A140, H⟩ := H
           replace H : (if t418 = true then (if x5_1.length < 4398046511104 then ((datum_Put.f kj5 x4_1 ((rd_T27 l0 x6_1).f0) ((rd_T27 l0 x6_1).f1) ((rd_T27 l0 x6_1).f2)).bind fun t422 => (engrosslaw4_DatumMany.l0 kj5 l0 t422 (x5_1 ++ [(⟨(rd_T27 l0 x6_1).f0, (rd_T27 l0 x6_1).f1, (rd_T27 l0 x6_1).f2⟩ : S27)]) (wrap64 (x6_1 + 1)))) else (none)) else (engrosslaw4_DatumMany.l0 kj5 l0 x4_1 x5_1 (wrap64 (x6_1 + 1)))) = some r := H
           have A14 := Aside0.mk A140
           clear A140
           by_cases c15 : t418 = true
           ·subst c15
            have H1 : (if x5_1.length < 4398046511104 then ((datum_Put.f kj5 x4_1 ((rd_T27 l0 x6_1).f0) ((rd_T27 l0 x6_1).f1) ((rd_T27 l0 x6_1).f2)).bind fun t422 => (engrosslaw4_DatumMany.l0 kj5 l0 t422 (x5_1 ++ [(⟨(rd_T27 l0 x6_1).f0, (rd_T27 l0 x6_1).f1, (rd_T27 l0 x6_1).f2⟩ : S27)]) (wrap64 (x6_1 + 1)))) else (none)) = some r := by rw [if_pos rfl] at H; exact H
            clear H
            have H := H1
            clear H1
            by_cases c16 : x5_1.length < 4398046511104
            ·rw [if_pos c16] at H
             have LMc16 := Aside0.mk c16
             clear c16
             obtain ⟨y419, hy419⟩ : ∃ y_ : List (S27), y_ = (x5_1 ++ [(⟨(rd_T27 l0 x6_1).f0, (rd_T27 l0 x6_1).f1, (rd_T27 l0 x6_1).f2⟩ : S27)]) := ⟨_, rfl⟩
             replace H : ((datum_Put.f kj5 x4_1 ((rd_T27 l0 x6_1).f0) ((rd_T27 l0 x6_1).f1) ((rd_T27 l0 x6_1).f2)).bind fun t422 => (engrosslaw4_DatumMany.l0 kj5 l0 t422 y419 (wrap64 (x6_1 + 1)))) = some r := by first | (rw [hy419]; with_reducible exact H) | (have H2_ := (Option.bind_some _ _).symm.trans H; rw [hy419]; with_reducible exact H2_) | (have H2_ := (Option.bind_some _ _).symm.trans H; with_reducible exact H2_) | with_reducible exact H | (rw [hy419]; exact H) | exact H
             have Ny419 := Aside0.mk hy419
             clear hy419
             replace H := Option.bind_eq_some_iff.mp H
             obtain ⟨t422, A170, H⟩ := H
             replace H : (engrosslaw4_DatumMany.l0 kj5 l0 t422 y419 (wrap64 (x6_1 + 1))) = some r := H
             have A17 := Aside0.mk A170
             clear A170
             have H' := Aside0.mk H
             clear H
             have p416 : 0 ≤ (x6_1 : Int) := of_decide_eq_true (by first | (with_reducible assumption) | assumption)
             have q416 : x6_1 < (l0.length : Int) := of_decide_eq_true (by first | (with_reducible assumption) | assumption)
             obtain ⟨ad416, e416, hx416_0, hx416_1, hx416_2⟩ := at_T27 HR0.out x6_1 p416 q416
             cases e416
             replace hx416_0 := (HB.out.cell (World.block_lt_of_cell? w _ hx416_0)).trans hx416_0
             replace hx416_1 := (HB.out.cell (World.block_lt_of_cell? w _ hx416_1)).trans hx416_1
             replace hx416_2 := (HB.out.cell (World.block_lt_of_cell? w _ hx416_2)).trans hx416_2
             replace p416 := eq_true p416
             replace q416 := eq_true q416
             go_wp2_with (first | ((with_reducible refine gate_dst (N := 7) rfl ?_); refine box_event ?hg (N := 7) ?hd (cs := #[.int .i64 0, .float .f64 0, .string (⟨#[]⟩ : ByteArray)]) (t := 27) ?hr ?_; (case hd => rfl); (case hg => rfl); (case hr => first | (go_simp; done) | (go_simp; rfl)); intro gb417 hg w18 hbox hb; have BK417 := Aside0.mk (hbox); have GW417 := bZ HB hg; have GE417 := bZ HB hg; replace HO_4 := Aside0.mk (Kd.R_below (by (with_reducible repeat (first | apply Kd.R_alloc | apply Kd.R_drewN | apply Kd.R_drew)); exact HO_4.out) hb); replace HO_5 := Aside0.mk (Kd.R_below (Kd.R_elderB (by (with_reducible repeat (first | apply Kd.R_alloc | apply Kd.R_drewN | apply Kd.R_drew)); exact HO_5.out) gb417 (Nat.le_of_eq hg.symm)) hb); replace HB := bW HB hb; clear hb hbox hg; obtain ⟨hcz19_0, hcz19_1, hcz19_2, hfz19_0, hfz19_1, hfz19_2⟩ := bf3 (w := w18) BK417) | (go_at_call 14; (with_reducible refine (engrossref1_MayVal.calls ((rd_T27 l0 x6_1).f0) ((rd_T27 l0 x6_1).f1) ((rd_T27 l0 x6_1).f2) true _ A14.out).mono ?_); rintro e w20 ⟨rfl, hb⟩; replace HO_4 := Aside0.mk (Kd.R_below (by (with_reducible repeat (first | apply Kd.R_alloc | apply Kd.R_drewN | apply Kd.R_drew)); exact (Kd.R_mono (Kd.R_far (p := ⟨gb417, 2, none⟩) (Kd.R_far (p := ⟨gb417, 1, none⟩) (Kd.R_far (p := ⟨gb417, 0, none⟩) (Kd.R_types HO_4.out BK417.out (by decide)) (fun _ hk => hk.2) (.int .i64 ((rd_T27 l0 x6_1).f0))) (fun _ hk => hk.2) (.float .f64 ((rd_T27 l0 x6_1).f1))) (fun _ hk => hk.2) (.string ((rd_T27 l0 x6_1).f2))) (fun _ h_ => h_.1))) hb); replace HO_5 := Aside0.mk (Kd.R_below (by (with_reducible repeat (first | apply Kd.R_alloc | apply Kd.R_drewN | apply Kd.R_drew)); exact (Kd.R_mono (Kd.R_far (p := ⟨gb417, 2, none⟩) (Kd.R_far (p := ⟨gb417, 1, none⟩) (Kd.R_far (p := ⟨gb417, 0, none⟩) (Kd.R_mono HO_5.out (fun k_ hk => (⟨hk, hk.2⟩ : _ ∧ k_ ≠ gb417))) (fun _ hk => hk.2) (.int .i64 ((rd_T27 l0 x6_1).f0))) (fun _ hk => hk.2) (.float .f64 ((rd_T27 l0 x6_1).f1))) (fun _ hk => hk.2) (.string ((rd_T27 l0 x6_1).f2))) (fun _ h_ => h_.1))) hb); replace BK417 := Aside0.mk (blk_below (g := gb417) (o := .cells #[.int .i64 ((rd_T27 l0 x6_1).f0), .float .f64 ((rd_T27 l0 x6_1).f1), .string ((rd_T27 l0 x6_1).f2)] 27 (0, 0)) (bR BK417) hb); replace HB := bW HB hb; (try clear hb); (try clear hb2); (try clear hk); (try clear hi); obtain ⟨hcz21_0, hcz21_1, hcz21_2, hfz21_0, hfz21_1, hfz21_2⟩ := bf3 (w := w20) BK417) | ((with_reducible refine gate_builtin (b := .append) (xs := #[.tmp 38, .tmp 40]) rfl ?_); at_builtin; refine Kd.R_append k27 (w0 := w) w.heap.size rfl (.tmp 38) (.tmp 40) 46 27 (.agg #[(.int .i64 0), (.float .f64 0), (.string ⟨#[]⟩)]) 32 rfl Try.underlying46 info27 rfl (by decide) (by omega) u5 x5_1 (⟨(rd_T27 l0 x6_1).f0, (rd_T27 l0 x6_1).f1, (rd_T27 l0 x6_1).f2⟩ : S27) [.int .i64 ((rd_T27 l0 x6_1).f0), .float .f64 ((rd_T27 l0 x6_1).f1), .string ((rd_T27 l0 x6_1).f2)] (fun k_ => k_ ≠ gb417) (fun _ => False) rfl rfl ?aP (fun _ hk => hk.elim) ?aF ?aO ?aB ?aS ?aL ?_; (case aP => exact k27_mkM _ _ _ (⟨(rd_T27 l0 x6_1).f0, (rd_T27 l0 x6_1).f1, (rd_T27 l0 x6_1).f2⟩ : S27)); (case aB => exact (bC HB)); (case aF => exact (fun k_ hk => Kd.freshB (bQ BK417) k_ hk)); (case aO => exact (by (with_reducible repeat (first | apply Kd.R_alloc | apply Kd.R_drewN | apply Kd.R_drew)); exact Kd.R_mono HO_5.out (fun _ hk => hk.2))); (case aS => exact (below_size (bC HB))); (case aL => have := LMc16.out; omega); intro v420 w22 ho hb hg hat; rw [← Ny419.out] at ho; have HO421 := Aside0.mk (ho); replace HO_4 := Aside0.mk (Kd.R_over' (by (with_reducible repeat (first | apply Kd.R_alloc | apply Kd.R_drewN | apply Kd.R_drew)); exact HO_4.out) (Kd.R_typed (by (with_reducible repeat (first | apply Kd.R_alloc | apply Kd.R_drewN | apply Kd.R_drew)); exact HO_5.out)) (by decide) hg); replace BK417 := Aside0.mk (blk_grown (bQ BK417) hg (Kd.R_away HO_5.out (fun _ hk => hk.2))); replace HB := Aside0.mk (hb); clear HO_5; clear ho hb hg hat; obtain ⟨hcz23_0, hcz23_1, hcz23_2, hfz23_0, hfz23_1, hfz23_2⟩ := bf3 (w := w22) BK417; obtain ⟨Ao24, co24, eo24⟩ := Kd.R_slice HO_4.out; subst eo24) | ((with_reducible refine gate_callee (f := 15) rfl ?_); refine goesL_ (some 44) rfl rfl Try.func15 (by kernel_rfl) rfl #[.slice Ao24 x4_1.length co24, .agg #[.int .i64 ((rd_T27 l0 x6_1).f0), .float .f64 ((rd_T27 l0 x6_1).f1), .string ((rd_T27 l0 x6_1).f2)]] rfl (by (try simp only [List.map_toArray, List.map_cons, List.map_nil]); first | done | rfl | (simp only [List.length_drop, List.length_take]; rfl)) ?_; (with_reducible refine (datum_Put.calls kj5 (fun k_ => some k_ = (.slice Ao24 x4_1.length co24 : Value).ownBlock) (.slice Ao24 x4_1.length co24) x4_1 ((rd_T27 l0 x6_1).f0) ((rd_T27 l0 x6_1).f1) ((rd_T27 l0 x6_1).f2) t422 w _ ?side1 ?side2 A17.out).mono ?_); (case side1 => repeat (first | (with_reducible first | exact HB.out | apply below_alloc | apply pw_below_drewN | apply below_drew1 | refine below_set ?_ GE417.out) | exact HB.out)); (case side2 => exact Kd.R_tight rfl HO_4.out); rintro e w25 ⟨v423, rfl, ho0, hb, hkp⟩; refine ⟨_, rfl, ?_⟩; have HO424 := Aside0.mk (Kd.R_mono (ok' := fun k_ => True) ho0 (fun k_ hk_ => trivial)); replace BK417 := Aside0.mk (blk_kept (bQ BK417) hkp (fun hs_ => (fun e_ => (Kd.R_ne HO_4.out BK417.out (by decide)) e_) hs_)); replace HO421 := Aside0.mk (Kd.R_mono (ok' := fun k_ => k_ ≠ gb417) (Kd.R_keptB ((Kd.R_apart' HO421.out (Kd.R_typed HO_4.out) (by decide))) hkp (fun k_ hk_ hs_ => (hk_.2) hs_)) (fun k_ hk_ => hk_.1.1)); replace HB := Aside0.mk (hb); clear HO_4; (try clear hb); (try clear hkp); (try clear ho0)))
             go_roundg kj5
             case measure => have := HK1.out; have := HJ5.out; omega
             case rel => exact ⟨(t422), (y419), (wrap64 (x6_1 + 1)), (by first | rfl | (simp; done) | (simp [*]; done)), H', ⟨by have := HK1.out; have := HJ5.out; omega⟩, ⟨by (with_reducible repeat (first | apply Kd.R_alloc | apply Kd.R_drewN | apply Kd.R_drew)); exact HO424.out⟩, ⟨by (with_reducible repeat (first | apply Kd.R_alloc | apply Kd.R_drewN | apply Kd.R_drew)); exact Kd.R_mono HO421.out (fun _ hk => trivial)⟩, ⟨by repeat (first | (with_reducible first | exact HB.out | apply below_alloc | apply pw_below_drewN | apply below_drew1 | refine below_set ?_ GE417.out) | exact HB.out)⟩⟩
            ·rw [if_neg c16] at H
             exact absurd H (by simp)
           ·replace c15 := Bool.eq_false_iff.mpr c15
            subst c15
            have H1 : (engrosslaw4_DatumMany.l0 kj5 l0 x4_1 x5_1 (wrap64 (x6_1 + 1))) = some r := by rw [if_neg (show ¬ (false = true) by decide)] at H; exact H
            clear H
            have H := H1
            clear H1
            have H' := Aside0.mk H
            clear H
            have p416 : 0 ≤ (x6_1 : Int) := of_decide_eq_true (by first | (with_reducible assumption) | assumption)
            have q416 : x6_1 < (l0.length : Int) := of_decide_eq_true (by first | (with_reducible assumption) | assumption)
            obtain ⟨ad416, e416, hx416_0, hx416_1, hx416_2⟩ := at_T27 HR0.out x6_1 p416 q416
            cases e416
            replace hx416_0 := (HB.out.cell (World.block_lt_of_cell? w _ hx416_0)).trans hx416_0
            replace hx416_1 := (HB.out.cell (World.block_lt_of_cell? w _ hx416_1)).trans hx416_1
            replace hx416_2 := (HB.out.cell (World.block_lt_of_cell? w _ hx416_2)).trans hx416_2
            replace p416 := eq_true p416
            replace q416 := eq_true q416
            go_wp2_with (first | ((with_reducible refine gate_dst (N := 7) rfl ?_); refine box_event ?hg (N := 7) ?hd (cs := #[.int .i64 0, .float .f64 0, .string (⟨#[]⟩ : ByteArray)]) (t := 27) ?hr ?_; (case hd => rfl); (case hg => rfl); (case hr => first | (go_simp; done) | (go_simp; rfl)); intro gb417 hg w26 hbox hb; have BK417 := Aside0.mk (hbox); have GW417 := bZ HB hg; have GE417 := bZ HB hg; replace HO_4 := Aside0.mk (Kd.R_below (by (with_reducible repeat (first | apply Kd.R_alloc | apply Kd.R_drewN | apply Kd.R_drew)); exact HO_4.out) hb); replace HO_5 := Aside0.mk (Kd.R_below (Kd.R_elderB (by (with_reducible repeat (first | apply Kd.R_alloc | apply Kd.R_drewN | apply Kd.R_drew)); exact HO_5.out) gb417 (Nat.le_of_eq hg.symm)) hb); replace HB := bW HB hb; clear hb hbox hg; obtain ⟨hcz27_0, hcz27_1, hcz27_2, hfz27_0, hfz27_1, hfz27_2⟩ := bf3 (w := w26) BK417) | (go_at_call 14; (with_reducible refine (engrossref1_MayVal.calls ((rd_T27 l0 x6_1).f0) ((rd_T27 l0 x6_1).f1) ((rd_T27 l0 x6_1).f2) false _ A14.out).mono ?_); rintro e w28 ⟨rfl, hb⟩; replace HO_4 := Aside0.mk (Kd.R_below (by (with_reducible repeat (first | apply Kd.R_alloc | apply Kd.R_drewN | apply Kd.R_drew)); exact (Kd.R_mono (Kd.R_far (p := ⟨gb417, 2, none⟩) (Kd.R_far (p := ⟨gb417, 1, none⟩) (Kd.R_far (p := ⟨gb417, 0, none⟩) (Kd.R_types HO_4.out BK417.out (by decide)) (fun _ hk => hk.2) (.int .i64 ((rd_T27 l0 x6_1).f0))) (fun _ hk => hk.2) (.float .f64 ((rd_T27 l0 x6_1).f1))) (fun _ hk => hk.2) (.string ((rd_T27 l0 x6_1).f2))) (fun _ h_ => h_.1))) hb); replace HO_5 := Aside0.mk (Kd.R_below (by (with_reducible repeat (first | apply Kd.R_alloc | apply Kd.R_drewN | apply Kd.R_drew)); exact (Kd.R_mono (Kd.R_far (p := ⟨gb417, 2, none⟩) (Kd.R_far (p := ⟨gb417, 1, none⟩) (Kd.R_far (p := ⟨gb417, 0, none⟩) (Kd.R_mono HO_5.out (fun k_ hk => (⟨hk, hk.2⟩ : _ ∧ k_ ≠ gb417))) (fun _ hk => hk.2) (.int .i64 ((rd_T27 l0 x6_1).f0))) (fun _ hk => hk.2) (.float .f64 ((rd_T27 l0 x6_1).f1))) (fun _ hk => hk.2) (.string ((rd_T27 l0 x6_1).f2))) (fun _ h_ => h_.1))) hb); replace BK417 := Aside0.mk (blk_below (g := gb417) (o := .cells #[.int .i64 ((rd_T27 l0 x6_1).f0), .float .f64 ((rd_T27 l0 x6_1).f1), .string ((rd_T27 l0 x6_1).f2)] 27 (0, 0)) (bR BK417) hb); replace HB := bW HB hb; (try clear hb); (try clear hb2); (try clear hk); (try clear hi)))
            go_roundg kj5
            case measure => have := HK1.out; have := HJ5.out; omega
            case rel => exact ⟨(x4_1), (x5_1), (wrap64 (x6_1 + 1)), (by first | rfl | (simp; done) | (simp [*]; done)), H', ⟨by have := HK1.out; have := HJ5.out; omega⟩, ⟨by (with_reducible repeat (first | apply Kd.R_alloc | apply Kd.R_drewN | apply Kd.R_drew)); exact HO_4.out⟩, ⟨by (with_reducible repeat (first | apply Kd.R_alloc | apply Kd.R_drewN | apply Kd.R_drew)); exact Kd.R_mono HO_5.out (fun _ hk => trivial)⟩, ⟨by repeat (first | (with_reducible first | exact HB.out | apply below_alloc | apply pw_below_drewN | apply below_drew1 | refine below_set ?_ GE417.out) | exact HB.out)⟩⟩
         ·rw [if_neg c10] at H
          exact absurd H (by simp)
        ·rw [if_neg c9] at H
         exact absurd H (by simp)
       ·replace c8 := Bool.eq_false_iff.mpr c8
        subst c8
        have H1 : (engrosslaw4_DatumMany.j2 kj5 x4_1 x5_1) = some r := by rw [if_neg (show ¬ (false = true) by decide)] at H; exact H
        clear H
        have H := H1
        clear H1
        have H' := Aside0.mk H
        clear H
        go_wp2
        go_meet
        case rel => exact ⟨_, (x4_1), (x5_1), H', ⟨by have := HK1.out; have := HJ5.out; first | omega | exact Nat.le_refl _⟩, ⟨by (with_reducible repeat (first | apply Kd.R_alloc | apply Kd.R_drewN | apply Kd.R_drew)); exact HO_4.out⟩, ⟨by (with_reducible repeat (first | apply Kd.R_alloc | apply Kd.R_drewN | apply Kd.R_drew)); exact HO_5.out⟩, ⟨by repeat (first | (with_reducible first | exact HB.out | apply below_alloc | apply pw_below_drewN | apply below_drew1) | exact HB.out)⟩⟩
  case rest =>
   clear HC4
   try clear c1
   try clear p2
   try clear c3
   try clear p4
   try clear q4
   try clear hx4
   try clear p6
   try clear c7
   try clear c7b0
   try clear c8
   try clear c9
   try clear c9b0
   try clear c10
   try clear c10b0
   try clear c11
   try clear c11b0
   try clear c11b1
   try clear c15
   try clear c16
   try clear hcz13_0
   try clear hcz13_1
   try clear hcz13_2
   try clear hcz19_0
   try clear hcz19_1
   try clear hcz19_2
   try clear hcz21_0
   try clear hcz21_1
   try clear hcz21_2
   try clear hcz23_0
   try clear hcz23_1
   try clear hcz23_2
   try clear hcz27_0
   try clear hcz27_1
   try clear hcz27_2
   try clear hfz13_0
   try clear hfz13_1
   try clear hfz13_2
   try clear hfz19_0
   try clear hfz19_1
   try clear hfz19_2
   try clear hfz21_0
   try clear hfz21_1
   try clear hfz21_2
   try clear hfz23_0
   try clear hfz23_1
   try clear hfz23_2
   try clear hfz27_0
   try clear hfz27_1
   try clear hfz27_2
   try clear hx416_0
   try clear hx416_1
   try clear hx416_2
   try clear p2
   try clear p416
   try clear q416
   obtain ⟨kq, x4_3, x5_3, HA, HJ3, HO_4, HO_5, HB⟩ := hcut
   cases kq with
   | zero => exact absurd HA.out (by simp [engrosslaw4_DatumMany.j2])
   | succ kj3 =>
    have H := HA.out
    clear HA
    simp only [engrosslaw4_DatumMany.j2] at H
    have H' := Aside0.mk H
    clear H
    go_wp2
    go_loopg [4, 8] kj3 (fun kq v4 v8 w' => ∃ (x4_2 : List Int) (x8_2 : Int), v8 = .int .i64 x8_2 ∧ Aside0 (engrosslaw4_DatumMany.l1 kq x4_2 x5_3 x8_2 = some r) ∧ Aside0 (kq ≤ kj3) ∧ Aside0 (Kd.Q (Kd.int .u8) 5 w' w.heap.size (fun _ => True) v4 x4_2) ∧ Aside0 (Kd.R k27 27 w' w.heap.size (fun _ => True) u5 x5_3) ∧ Aside0 (Below w.heap.size w w'))
    case atStart => exact ⟨(x4_3), (0), (by first | rfl | (simp; done) | (simp [*]; done)), H', ⟨Nat.le_refl _⟩, ⟨Kd.Q_of_R (by (with_reducible repeat (first | apply Kd.R_alloc | apply Kd.R_drewN | apply Kd.R_drew)); exact HO_4.out)⟩, ⟨by (with_reducible repeat (first | apply Kd.R_alloc | apply Kd.R_drewN | apply Kd.R_drew)); exact HO_5.out⟩, ⟨by repeat (first | (with_reducible first | exact HB.out | apply below_alloc | apply pw_below_drewN | apply below_drew1) | exact HB.out)⟩⟩
    case round =>
     clear H'
     try clear c1
     try clear p2
     try clear c3
     try clear p4
     try clear q4
     try clear hx4
     try clear p6
     try clear c7
     try clear c7b0
     try clear c8
     try clear c9
     try clear c9b0
     try clear c10
     try clear c10b0
     try clear c11
     try clear c11b0
     try clear c11b1
     try clear c15
     try clear c16
     try clear hcz13_0
     try clear hcz13_1
     try clear hcz13_2
     try clear hcz19_0
     try clear hcz19_1
     try clear hcz19_2
     try clear hcz21_0
     try clear hcz21_1
     try clear hcz21_2
     try clear hcz23_0
     try clear hcz23_1
     try clear hcz23_2
     try clear hcz27_0
     try clear hcz27_1
     try clear hcz27_2
     try clear hfz13_0
     try clear hfz13_1
     try clear hfz13_2
     try clear hfz19_0
     try clear hfz19_1
     try clear hfz19_2
     try clear hfz21_0
     try clear hfz21_1
     try clear hfz21_2
     try clear hfz23_0
     try clear hfz23_1
     try clear hfz23_2
     try clear hfz27_0
     try clear hfz27_1
     try clear hfz27_2
     try clear hx416_0
     try clear hx416_1
     try clear hx416_2
     try clear p2
     try clear p4
     try clear p416
     try clear p6
     try clear q4
     try clear q416
     obtain ⟨x4_2, x8_2, rfl, HA, HK2, HO_4, HO_5, HB⟩ := hrel
     cases gk with
     | zero => exact absurd HA.out (by simp [engrosslaw4_DatumMany.l1])
     | succ k2 =>
      have H := HA.out
      clear HA
      simp only [engrosslaw4_DatumMany.l1] at H
      by_cases c29 : x8_2 < (x5_3.length : Int)
      ·rw [if_pos c29] at H
       have c29b0 : decide (x8_2 < (x5_3.length : Int)) = true := decide_eq_true c29
       clear c29
       replace H := Option.bind_eq_some_iff.mp H
       obtain ⟨⟨t425, t426, t427, t428, t429⟩, A300, H⟩ := H
       replace H : (if t429 = 0 then (if 0 ≤ x8_2 then ((engrossref1_EqVal.f t425 t426 t427 ((rd_T27 x5_3 x8_2).f0) ((rd_T27 x5_3 x8_2).f1) ((rd_T27 x5_3 x8_2).f2)).bind fun t432 => (if t432 = true then (if 0 ≤ t428 then (if t428 ≤ (x4_2.length : Int) then (engrosslaw4_DatumMany.l1 k2 (x4_2.drop (t428 : Int).toNat) x5_3 (wrap64 (x8_2 + 1))) else (none)) else (none)) else (none))) else (none)) else (none)) = some r := H
       have A30 := Aside0.mk A300
       clear A300
       by_cases c31 : t429 = 0
       ·rw [if_pos c31] at H
        have c31b0 : (t429 == 0) = true := beq_iff_eq.mpr c31
        have c31b1 : (t429 != 0) = false := bne_eq_false_iff_eq.mpr c31
        clear c31
        by_cases c32 : 0 ≤ x8_2
        ·rw [if_pos c32] at H
         have c32b0 : decide (0 ≤ x8_2) = true := decide_eq_true c32
         clear c32
         replace H := Option.bind_eq_some_iff.mp H
         obtain ⟨t432, A330, H⟩ := H
         replace H : (if t432 = true then (if 0 ≤ t428 then (if t428 ≤ (x4_2.length : Int) then (engrosslaw4_DatumMany.l1 k2 (x4_2.drop (t428 : Int).toNat) x5_3 (wrap64 (x8_2 + 1))) else (none)) else (none)) else (none)) = some r := H
         have A33 := Aside0.mk A330
         clear A330
         by_cases c34 : t432 = true
         ·subst c34
          have H1 : (if 0 ≤ t428 then (if t428 ≤ (x4_2.length : Int) then (engrosslaw4_DatumMany.l1 k2 (x4_2.drop (t428 : Int).toNat) x5_3 (wrap64 (x8_2 + 1))) else (none)) else (none)) = some r := by rw [if_pos rfl] at H; exact H
          clear H
          have H := H1
          clear H1
          by_cases c35 : 0 ≤ t428
          ·rw [if_pos c35] at H
           have c35b0 := eq_true c35
           have c35b1 : decide (0 ≤ t428) = true := decide_eq_true c35
           clear c35
           by_cases c36 : t428 ≤ (x4_2.length : Int)
           ·rw [if_pos c36] at H
            have c36b0 := eq_true c36
            have c36b1 : decide (t428 ≤ (x4_2.length : Int)) = true := decide_eq_true c36
            clear c36
            obtain ⟨y433, hy433⟩ : ∃ y_ : List Int, y_ = (x4_2.drop (t428 : Int).toNat) := ⟨_, rfl⟩
            replace H : (engrosslaw4_DatumMany.l1 k2 y433 x5_3 (wrap64 (x8_2 + 1))) = some r := by first | (rw [hy433]; with_reducible exact H) | (have H2_ := (Option.bind_some _ _).symm.trans H; rw [hy433]; with_reducible exact H2_) | (have H2_ := (Option.bind_some _ _).symm.trans H; with_reducible exact H2_) | with_reducible exact H | (rw [hy433]; exact H) | exact H
            have Ny433 := Aside0.mk hy433
            clear hy433
            have H' := Aside0.mk H
            clear H
            obtain ⟨Ao37, co37, eo37⟩ := Kd.R_slice HO_5.out
            subst eo37
            obtain ⟨Ao38, co38, eo38, _⟩ := Kd.Q_slice HO_4.out
            subst eo38
            try go_wp2_with (first | ((with_reducible refine gate_callee (f := 17) rfl ?_); refine goesL_ (some 53) rfl rfl Try.func17 (by kernel_rfl) rfl #[.slice Ao38 x4_2.length co38] rfl (by (try simp only [List.map_toArray, List.map_cons, List.map_nil]); first | done | rfl | (simp only [List.length_drop, List.length_take]; rfl)) ?_; (with_reducible refine (datum_Get.calls k2 _ _ x4_2 t425 t426 t427 t428 t429 _ ?side1 ?side2 A30.out).mono ?_); (case side1 => repeat (first | exact (Kd.Q_reads' HO_4.out).2.2 | (with_reducible refine Kd.C_alloc ?_ _) | (with_reducible refine Kd.C_drewN ?_ _) | (with_reducible refine Kd.C_drew ?_))); (case side2 => exact (Kd.Q_reads' HO_4.out).2.1); rintro e w39 ⟨rfl, hb⟩; refine ⟨_, rfl, ?_⟩; replace HO_4 := Aside0.mk (Kd.Q_below (by (with_reducible repeat (first | apply Kd.Q_alloc | apply Kd.Q_drewN | apply Kd.Q_drew)); exact HO_4.out) hb); replace HO_5 := Aside0.mk (Kd.R_below (by (with_reducible repeat (first | apply Kd.R_alloc | apply Kd.R_drewN | apply Kd.R_drew)); exact HO_5.out) hb); replace HB := bW HB hb; (try clear hb); (try clear hb2); (try clear hk); (try clear hi)) | ((with_reducible refine gate_dst (N := 9) rfl ?_); refine box_event ?hg (N := 9) ?hd (cs := #[.int .i64 0, .float .f64 0, .string (⟨#[]⟩ : ByteArray)]) (t := 27) ?hr ?_; (case hd => rfl); (case hg => rfl); (case hr => first | (go_simp; done) | (go_simp; rfl)); intro gb430 hg w40 hbox hb; have BK430 := Aside0.mk (hbox); have GW430 := bZ HB hg; have GE430 := bZ HB hg; replace HO_4 := Aside0.mk (Kd.Q_below (by (with_reducible repeat (first | apply Kd.Q_alloc | apply Kd.Q_drewN | apply Kd.Q_drew)); exact HO_4.out) hb); replace HO_5 := Aside0.mk (Kd.R_below (Kd.R_elderB (by (with_reducible repeat (first | apply Kd.R_alloc | apply Kd.R_drewN | apply Kd.R_drew)); exact HO_5.out) gb430 (Nat.le_of_eq hg.symm)) hb); replace HB := bW HB hb; clear hb hbox hg; obtain ⟨hcz41_0, hcz41_1, hcz41_2, hfz41_0, hfz41_1, hfz41_2⟩ := bf3 (w := w40) BK430))
            have n0_ : Aside0 (Kd.Q (Kd.int .u8) 5 (((w40.setCell ⟨gb430, 0, none⟩ (.int .i64 t425)).setCell ⟨gb430, 1, none⟩ (.float .f64 t426)).setCell ⟨gb430, 2, none⟩ (.string t427)) w.heap.size (fun _ => True) (.slice Ao38 x4_2.length co38) x4_2) := ⟨by (with_reducible repeat (first | apply Kd.Q_alloc | apply Kd.Q_drewN | apply Kd.Q_drew)); exact Kd.Q_mono (Kd.Q_far (p := ⟨gb430, 2, none⟩) (Kd.Q_far (p := ⟨gb430, 1, none⟩) (Kd.Q_far (p := ⟨gb430, 0, none⟩) (Kd.Q_types HO_4.out BK430.out (by decide)) (fun _ hk => hk.2) (.int .i64 t425)) (fun _ hk => hk.2) (.float .f64 t426)) (fun _ hk => hk.2) (.string t427)) (fun _ hk => trivial)⟩
            have n1_ : Aside0 (Kd.R k27 27 (((w40.setCell ⟨gb430, 0, none⟩ (.int .i64 t425)).setCell ⟨gb430, 1, none⟩ (.float .f64 t426)).setCell ⟨gb430, 2, none⟩ (.string t427)) w.heap.size (fun k_ => k_ ≠ gb430) (.slice Ao37 x5_3.length co37) x5_3) := ⟨by (with_reducible repeat (first | apply Kd.R_alloc | apply Kd.R_drewN | apply Kd.R_drew)); exact Kd.R_mono (Kd.R_far (p := ⟨gb430, 2, none⟩) (Kd.R_far (p := ⟨gb430, 1, none⟩) (Kd.R_far (p := ⟨gb430, 0, none⟩) (Kd.R_mono HO_5.out (fun k_ hk => (⟨hk, hk.2⟩ : _ ∧ k_ ≠ gb430))) (fun _ hk => hk.2) (.int .i64 t425)) (fun _ hk => hk.2) (.float .f64 t426)) (fun _ hk => hk.2) (.string t427)) (fun _ hk => hk.1.2)⟩
            have n2_ : Aside0 ((((w40.setCell ⟨gb430, 0, none⟩ (.int .i64 t425)).setCell ⟨gb430, 1, none⟩ (.float .f64 t426)).setCell ⟨gb430, 2, none⟩ (.string t427)).heap[gb430]? = some (.cells #[.int .i64 t425, .float .f64 t426, .string t427] 27 (0, 0))) := ⟨by (with_reducible repeat (first | refine blk_drewN ?_ _ | refine blk_drew ?_ | refine blk_alloc ?_ _)); refine blk_put (cs := #[.int .i64 t425, .float .f64 t426, .string (⟨#[]⟩ : ByteArray)]) ?_ 2 _ rfl; (with_reducible repeat (first | refine blk_drewN ?_ _ | refine blk_drew ?_ | refine blk_alloc ?_ _)); refine blk_put (cs := #[.int .i64 t425, .float .f64 0, .string (⟨#[]⟩ : ByteArray)]) ?_ 1 _ rfl; (with_reducible repeat (first | refine blk_drewN ?_ _ | refine blk_drew ?_ | refine blk_alloc ?_ _)); refine blk_put (cs := #[.int .i64 0, .float .f64 0, .string (⟨#[]⟩ : ByteArray)]) ?_ 0 _ rfl; (with_reducible repeat (first | refine blk_drewN ?_ _ | refine blk_drew ?_ | refine blk_alloc ?_ _)); exact BK430.out⟩
            have n3_ : Aside0 (Below w.heap.size w (((w40.setCell ⟨gb430, 0, none⟩ (.int .i64 t425)).setCell ⟨gb430, 1, none⟩ (.float .f64 t426)).setCell ⟨gb430, 2, none⟩ (.string t427))) := ⟨by repeat (first | (with_reducible first | exact HB.out | apply below_alloc | apply pw_below_drewN | apply below_drew1 | refine below_set ?_ GE430.out) | exact HB.out)⟩
            (try clear HO_4)
            (try clear HO_5)
            (try clear BK430)
            (try clear HB)
            generalize (((w40.setCell ⟨gb430, 0, none⟩ (.int .i64 t425)).setCell ⟨gb430, 1, none⟩ (.float .f64 t426)).setCell ⟨gb430, 2, none⟩ (.string t427)) = w42 at n0_ n1_ n2_ n3_ ⊢
            have HO_4 := n0_
            have HO_5 := n1_
            have BK430 := n2_
            have HB := n3_
            clear n0_ n1_ n2_ n3_
            replace HO_4 := Aside0.mk (Kd.Q_drew HO_4.out)
            replace HO_5 := Aside0.mk (Kd.R_drew HO_5.out)
            replace BK430 := Aside0.mk (blk_drew BK430.out)
            replace HB := Aside0.mk (below_drew1 HB.out)
            have p431 : 0 ≤ (x8_2 : Int) := of_decide_eq_true (by first | (with_reducible assumption) | assumption)
            have q431 : x8_2 < (x5_3.length : Int) := of_decide_eq_true (by first | (with_reducible assumption) | assumption)
            obtain ⟨ad431, e431, hx431_0, hx431_1, hx431_2⟩ := at_T27 (Kd.R_reads' HO_5.out).2.2 x8_2 p431 q431
            cases e431
            replace p431 := eq_true p431
            replace q431 := eq_true q431
            refine start_ (n := 11) (S := fun w' => w'.cell? ⟨gb430, 0, none⟩ = some (.int .i64 t425) ∧ w'.cell? ⟨gb430, 1, none⟩ = some (.float .f64 t426) ∧ w'.cell? ⟨gb430, 2, none⟩ = some (.string t427) ∧ w'.cell? (ad431.add ((x8_2).toNat * 3)) = some (.int .i64 ((rd_T27 x5_3 x8_2).f0)) ∧ w'.cell? ⟨(ad431.add ((x8_2).toNat * 3)).block, (ad431.add ((x8_2).toNat * 3)).off + 1, none⟩ = some (.float .f64 ((rd_T27 x5_3 x8_2).f1)) ∧ w'.cell? ⟨(ad431.add ((x8_2).toNat * 3)).block, (ad431.add ((x8_2).toNat * 3)).off + 2, none⟩ = some (.string ((rd_T27 x5_3 x8_2).f2))) (ds := []) #[false, false, false, false, false, false, false, false, false, false, false] (by kernel_rfl) rfl rfl (bn3 BK430 ⟨hx431_0, hx431_1, hx431_2⟩) (fun hHeld => ?_); refine with_tabW engrosslaw4_DatumMany.tab17 engrosslaw4_DatumMany.bits17 (fun HT_ HW_ => ?_)
            generalize w42.drew = w43 at HO_4 HO_5 BK430 HB hx431_0 hx431_1 hx431_2 hHeld ⊢
            refine pure_ (i := 0) (N := some 57) (v := ?_) (a' := ?_) #[true, false, false, false, false, false, false, false, false, false, false] rfl rfl (any_of HT_.out (by kernel_rfl)) (fun _ _ _ h => h) (Or.inl ⟨by rfl, ?_⟩) ?_ ?_
            rotate_left
            ·intro w'
             go_simp
             with_reducible rfl
            rotate_left
            ·simp only [Act.put, List.setIfInBounds_toArray, List.set_cons_zero, List.set_cons_succ, i64_w, i32_w]
             rfl
            refine pure_ (i := 1) (N := some 58) (v := ?_) (a' := ?_) #[true, true, false, false, false, false, false, false, false, false, false] rfl rfl (any_of HT_.out (by kernel_rfl)) (fun _ _ _ h => h) (Or.inl ⟨by rfl, ?_⟩) ?_ ?_
            rotate_left
            ·intro w'
             go_simp
             with_reducible rfl
            rotate_left
            ·simp only [Act.put, List.setIfInBounds_toArray, List.set_cons_zero, List.set_cons_succ, i64_w, i32_w]
             rfl
            refine pure_ (i := 2) (N := some 59) (v := ?_) (a' := ?_) #[true, true, true, false, false, false, false, false, false, false, false] rfl rfl (any_of HT_.out (by kernel_rfl)) (fun _ _ _ h => h) (Or.inl ⟨by rfl, ?_⟩) ?_ ?_
            rotate_left
            ·intro w'
             go_simp
             with_reducible rfl
            rotate_left
            ·simp only [Act.put, List.setIfInBounds_toArray, List.set_cons_zero, List.set_cons_succ, i64_w, i32_w]
             rfl
            refine pure_ (i := 4) (N := some 61) (v := ?_) (a' := ?_) #[true, true, true, false, true, false, false, false, false, false, false] rfl rfl (any_of HT_.out (by kernel_rfl)) (fun _ _ _ h => h) (Or.inl ⟨by rfl, ?_⟩) ?_ ?_
            rotate_left
            ·intro w'
             go_simp
             with_reducible rfl
            rotate_left
            ·simp only [Act.put, List.setIfInBounds_toArray, List.set_cons_zero, List.set_cons_succ, i64_w, i32_w]
             rfl
            refine pure_ (i := 5) (N := some 62) (v := ?_) (a' := ?_) #[true, true, true, false, true, true, false, false, false, false, false] rfl rfl (any_of HT_.out (by kernel_rfl)) (fun _ _ _ h => h) (Or.inl ⟨by rfl, ?_⟩) ?_ ?_
            rotate_left
            ·intro w'
             go_simp
             with_reducible rfl
            rotate_left
            ·simp only [Act.put, List.setIfInBounds_toArray, List.set_cons_zero, List.set_cons_succ, i64_w, i32_w]
             rfl
            refine pure_ (i := 6) (N := some 63) (v := ?_) (a' := ?_) #[true, true, true, false, true, true, true, false, false, false, false] rfl rfl (any_of HT_.out (by kernel_rfl)) (fun _ _ _ h => h) (Or.inl ⟨by rfl, ?_⟩) ?_ ?_
            rotate_left
            ·intro w'
             go_simp
             with_reducible rfl
            rotate_left
            ·simp only [Act.put, List.setIfInBounds_toArray, List.set_cons_zero, List.set_cons_succ, i64_w, i32_w]
             rfl
            refine take_ (i := 3) (N := some 60) (v := ?_) (a' := ?_) #[true, true, true, true, true, true, true, false, false, false, false] rfl rfl (take_ofW HT_.out HW_.out (by kernel_rfl)) (fun _ _ _ h => h) (Or.inl ⟨by rfl, ?_⟩) hHeld ?_ ?_
            rotate_left
            ·rintro w' ⟨s0, s1, s2, s3, s4, s5⟩
             go_simp
             with_reducible rfl
            rotate_left
            ·simp only [Act.put, List.setIfInBounds_toArray, List.set_cons_zero, List.set_cons_succ, i64_w, i32_w]
             rfl
            refine take_ (i := 7) (N := some 64) (v := ?_) (a' := ?_) #[true, true, true, true, true, true, true, true, false, false, false] rfl rfl (take_ofW HT_.out HW_.out (by kernel_rfl)) (fun _ _ _ h => h) (Or.inl ⟨by rfl, ?_⟩) hHeld ?_ ?_
            rotate_left
            ·rintro w' ⟨s0, s1, s2, s3, s4, s5⟩
             go_simp
             with_reducible rfl
            rotate_left
            ·simp only [Act.put, List.setIfInBounds_toArray, List.set_cons_zero, List.set_cons_succ, i64_w, i32_w]
             rfl
            refine one_ (i := 8) (N := some 65) #[true, true, true, true, true, true, true, true, true, false, false] rfl rfl (one_of HT_.out (by kernel_rfl)) (by decide) (fun K hK => ?_)
            refine goes_ Try.func18 (by kernel_rfl) rfl #[.agg #[.int .i64 t425, .float .f64 t426, .string t427], .agg #[.int .i64 ((rd_T27 x5_3 x8_2).f0), .float .f64 ((rd_T27 x5_3 x8_2).f1), .string ((rd_T27 x5_3 x8_2).f2)]] (by rfl) rfl rfl (by (try simp only [List.map_toArray, List.map_cons, List.map_nil]); first | done | rfl | (simp only [List.length_drop, List.length_take]; rfl)) ?_
            with_reducible refine (engrossref1_EqVal.calls t425 t426 t427 ((rd_T27 x5_3 x8_2).f0) ((rd_T27 x5_3 x8_2).f1) ((rd_T27 x5_3 x8_2).f2) true _ A33.out).mono ?_
            rintro e w44 ⟨rfl, hb⟩
            have HS3_ := (hb.cell (World.block_lt_of_cell? _ _ (hHeld.2.2.2.1))).trans (hHeld.2.2.2.1)
            have HS4_ := (hb.cell (World.block_lt_of_cell? _ _ (hHeld.2.2.2.2.1))).trans (hHeld.2.2.2.2.1)
            have HS5_ := (hb.cell (World.block_lt_of_cell? _ _ (hHeld.2.2.2.2.2))).trans (hHeld.2.2.2.2.2)
            refine ⟨_, rfl, ?_⟩
            replace HO_4 := Aside0.mk (Kd.Q_below (by (with_reducible repeat (first | apply Kd.Q_alloc | apply Kd.Q_drewN | apply Kd.Q_drew)); exact HO_4.out) hb)
            replace HO_5 := Aside0.mk (Kd.R_below (by (with_reducible repeat (first | apply Kd.R_alloc | apply Kd.R_drewN | apply Kd.R_drew)); exact HO_5.out) hb)
            replace BK430 := bB BK430 hb
            replace HB := bW HB hb
            (try clear hb)
            (try clear hb2)
            (try clear hk)
            (try clear hi)
            refine hK.out _ _ (bn3 BK430 ⟨HS3_, HS4_, HS5_⟩) (fun hHeld => ?_)
            clear hK K
            refine norm_ (a' := ?_) ?_ ?_
            rotate_left
            ·show Act.put _ (some 65) _ = _
             simp only [Act.put, List.setIfInBounds_toArray, List.set_cons_zero, List.set_cons_succ, i64_w, i32_w]
             rfl
            refine pure_ (i := 9) (N := some 66) (v := ?_) (a' := ?_) #[true, true, true, true, true, true, true, true, true, true, false] rfl rfl (any_of HT_.out (by kernel_rfl)) (fun _ _ _ h => h) (Or.inl ⟨by rfl, ?_⟩) ?_ ?_
            rotate_left
            ·intro w'
             go_simp
             with_reducible rfl
            rotate_left
            ·simp only [Act.put, List.setIfInBounds_toArray, List.set_cons_zero, List.set_cons_succ, i64_w, i32_w]
             rfl
            refine pure_ (i := 10) (N := some 67) (v := ?_) (a' := ?_) #[true, true, true, true, true, true, true, true, true, true, true] rfl rfl (any_of HT_.out (by kernel_rfl)) (fun _ _ _ h => h) (Or.inl ⟨by rfl, ?_⟩) ?_ ?_
            rotate_left
            ·intro w'
             go_simp
             with_reducible rfl
            rotate_left
            ·simp only [Act.put, List.setIfInBounds_toArray, List.set_cons_zero, List.set_cons_succ, i64_w, i32_w]
             rfl
            refine done_ (done_of HT_.out (by kernel_rfl)) ?_
            have q45 : (t428 : Int) ≤ ((x4_2.length : Int) : Int) := of_decide_eq_true (by first | (with_reducible assumption) | assumption)
            obtain ⟨i045, hi045, _, hsz45, _⟩ := info_parts info5
            have hcut45 := cut_from (P := Try.prog) 23 5 .i64 Try.underlying23 hi045 1 hsz45 Ao38 x4_2.length co38 t428 (of_decide_eq_true (by first | (with_reducible assumption) | assumption)) q45
            have hr45 := Kd.Q_drop (k := (t428 : Int).toNat) HO_4.out (by omega)
            obtain ⟨A45, hA45⟩ : ∃ A1, A1 = (if co38 = (t428 : Int).toNat then Ao38 else (Ao38 : Option Addr).map (·.add ((t428 : Int).toNat * 1))) := ⟨_, rfl⟩
            obtain ⟨c45, hc45⟩ : ∃ c1, c1 = co38 - (t428 : Int).toNat := ⟨_, rfl⟩
            have hy45 : y433.length = x4_2.length - (t428 : Int).toNat := (by rw [Ny433.out, List.length_drop])
            rw [← Ny433.out] at hr45
            rw [← hy45, ← hA45, ← hc45] at hcut45
            replace hr45 : Kd.Q (Kd.int .u8) 5 w44 w.heap.size (fun _ => True) (.slice A45 y433.length c45) y433 := (by rw [hA45, hc45, hy45]; exact hr45)
            have HE45 : Aside0 ((Value.slice A45 y433.length c45).ownBlock = (.slice Ao38 x4_2.length co38 : Value).ownBlock) := ⟨by rw [hA45]; split <;> (cases (Ao38 : Option Addr) <;> first | rfl | simp [Value.ownBlock, add_block])⟩
            clear hy45 hi045 hsz45 HO_4 hA45 hc45
            have HO435 := Aside0.mk hr45
            clear hr45
            replace q45 := eq_true q45
            try go_wp2
            go_roundg k2
            case measure => have := HJ3.out; have := HK2.out; omega
            case rel => exact ⟨(y433), (wrap64 (x8_2 + 1)), (by first | rfl | (simp; done) | (simp [*]; done)), H', ⟨by have := HJ3.out; have := HK2.out; omega⟩, ⟨by (with_reducible repeat (first | apply Kd.Q_alloc | apply Kd.Q_drewN | apply Kd.Q_drew)); exact HO435.out⟩, ⟨by (with_reducible repeat (first | apply Kd.R_alloc | apply Kd.R_drewN | apply Kd.R_drew)); exact Kd.R_mono HO_5.out (fun _ hk => trivial)⟩, ⟨by repeat (first | (with_reducible first | exact HB.out | apply below_alloc | apply pw_below_drewN | apply below_drew1 | refine below_set ?_ GE430.out) | exact HB.out)⟩⟩
           ·rw [if_neg c36] at H
            exact absurd H (by simp)
          ·rw [if_neg c35] at H
           exact absurd H (by simp)
         ·replace c34 := Bool.eq_false_iff.mpr c34
          subst c34
          have H1 : (none) = some r := by rw [if_neg (show ¬ (false = true) by decide)] at H; exact H
          clear H
          have H := H1
          clear H1
          exact absurd H (by simp)
        ·rw [if_neg c32] at H
         exact absurd H (by simp)
       ·rw [if_neg c31] at H
        have c31b0 : (t429 == 0) = false := beq_eq_false_iff_ne.mpr c31
        have c31b1 : (t429 != 0) = true := bne_iff_ne.mpr c31
        exact absurd H (by simp)
      ·rw [if_neg c29] at H
       have c29b0 : decide (x8_2 < (x5_3.length : Int)) = false := decide_eq_false c29
       clear c29
       obtain rfl := Option.some.inj H
       obtain ⟨Ao46, co46, eo46⟩ := Kd.R_slice HO_5.out
       subst eo46
       obtain ⟨Ao47, co47, eo47, _⟩ := Kd.Q_slice HO_4.out
       subst eo47
       go_wp2
       go_ret
       exact ⟨by first | rfl | (simp [errW_none, errW_some] <;> rfl) | (simp [*, errW_none, errW_some] <;> rfl), by repeat (first | (with_reducible first | exact HB.out | apply below_alloc | apply pw_below_drewN | apply below_drew1) | exact HB.out)⟩
 ·replace c3 := Bool.eq_false_iff.mpr c3
  subst c3
  have H1 : (none) = some r := by rw [if_neg (show ¬ (false = true) by decide)] at H; exact H
  clear H
  have H := H1
  clear H1
  exact absurd H (by simp)

/-- THE ONE PURE STATEMENT of engrosslaw4_DatumMany. -/
def engrosslaw4_DatumMany.Pure : Prop := ∀ (l0 : List (S27)), (l0.length ≤ 9223372036854775807 ∧ ∀ y ∈ l0, wf27 y) → ∃ k, engrosslaw4_DatumMany.f k l0 = some true

end Go.Proofs.Ythfpmpnedaliaaa.P
