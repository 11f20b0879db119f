/- Functions of the program as Lean functions, and that each call answers as its function does. No condition. (Lines written by a generator of this session.) -/
import Derived.Test.YtijnfnlahhgpgaaDoorPx0
import Derived.Test.YtijnfnlahhgpgaaDoorPx1
import Derived.Test.YtijnfnlahhgpgaaDoorPx2
import Derived.Test.YtijnfnlahhgpgaaDoorPx4
import Derived.Test.YtijnfnlahhgpgaaDoorPx5
import Derived.Test.YtijnfnlahhgpgaaDoorPx7
import Derived.Test.YtijnfnlahhgpgaaDoorXM
namespace Go.Proofs.YtijnfnlahhgpgaaDoor.P
open Go.RowKit Go.Proofs.YtijnfnlahhgpgaaDoorW.PrintWords Go.Proofs.YtijnfnlahhgpgaaDoorW.PrintLast Go.Proofs.YtijnfnlahhgpgaaDoorW.PrintMore
attribute [local go_sem] max2_int min2_int max_two min_two max_three min_three max_four min_four   -- for this text's walks alone
attribute [local go_sem] x_str_gtr x_str_leq x_str_geq  Instr.field asAgg
set_option linter.unusedVariables false
set_option linter.unusedSimpArgs false

/-! ### engrosslaw16_ChangeMany: function 5 -/
mutual
def engrosslaw16_ChangeMany.j0 : Nat → Int → Int → List Int → Bool → Option (Bool)
 | 0, _, _, _, _ => none
 | k + 1, x0, x1, x2, x35 => if x35 = true then (some true) else (engrosslaw16_ChangeMany.l0 k x0 x1 x2 ([] : List (S38)) 0)
def engrosslaw16_ChangeMany.l0 : Nat → Int → Int → List Int → List (S38) → Int → Option (Bool)
 | 0, _, _, _, _, _ => none
 | k + 1, x0, x1, x2, x8, x9 => if x9 < x0 then ((engrosslaw9_Of.f x2).bind fun t284 => (if x8.length < 4398046511104 then (engrosslaw16_ChangeMany.l0 k x0 x1 x2 (x8 ++ [(⟨wrap64 (x1 + x9), t284⟩ : S38)]) (wrap64 (x9 + 1))) else (none))) else (if x0 ≥ 1 then (engrosslaw16_ChangeMany.j2 k x8 (decide ((wrap64 (x1 + x0)) ≤ 96))) else (engrosslaw16_ChangeMany.j2 k x8 false))
def engrosslaw16_ChangeMany.j2 : Nat → List (S38) → Bool → Option (Bool)
 | 0, _, _ => none
 | k + 1, x8, x10 => (change_Encode.f k x8).bind fun t290 => ((change_May.f k x8).bind fun t293 => (if (t293 != x10) = true then (none) else (engrosslaw16_ChangeMany.j3 k x8 x10 t290 ((decide ((t290.length : Int) > 0)) != x10))))
def engrosslaw16_ChangeMany.j3 : Nat → List (S38) → Bool → List Int → Bool → Option (Bool)
 | 0, _, _, _, _ => none
 | k + 1, x8, x10, x11, x70 => if x70 = true then (none) else ((change_Decode.f k x11).bind fun bt294 => (if x10 = true then (if bt294.2 = 0 then ((engrossref10_EqImages.f k x8 bt294.1).bind fun t298 => (some t298)) else (none)) else (some true)))
end
def engrosslaw16_ChangeMany.f (k : Nat) (a0 : Int) (a1 : Int) (l2 : List Int) : Option (Bool) := (engrosslaw16_begun.f k).bind fun t283 => (if t283 = true then (if a0 < 0 then (engrosslaw16_ChangeMany.j0 k a0 a1 l2 true) else (if a0 > 100 then (engrosslaw16_ChangeMany.j0 k a0 a1 l2 true) else (if a1 < 0 then (engrosslaw16_ChangeMany.j0 k a0 a1 l2 true) else (if a1 > 10 then (engrosslaw16_ChangeMany.j0 k a0 a1 l2 true) else (engrosslaw16_ChangeMany.j0 k a0 a1 l2 (decide ((l2.length : Int) > 256))))))) else (none))
theorem engrosslaw16_ChangeMany.mono_l : ∀ k, (∀ y0 y1 y2 y3, LeO (engrosslaw16_ChangeMany.j0 k y0 y1 y2 y3) (engrosslaw16_ChangeMany.j0 (k + 1) y0 y1 y2 y3)) ∧ (∀ y0 y1 y2 y3 y4, LeO (engrosslaw16_ChangeMany.l0 k y0 y1 y2 y3 y4) (engrosslaw16_ChangeMany.l0 (k + 1) y0 y1 y2 y3 y4)) ∧ (∀ y0 y1, LeO (engrosslaw16_ChangeMany.j2 k y0 y1) (engrosslaw16_ChangeMany.j2 (k + 1) y0 y1)) ∧ (∀ y0 y1 y2 y3, LeO (engrosslaw16_ChangeMany.j3 k y0 y1 y2 y3) (engrosslaw16_ChangeMany.j3 (k + 1) y0 y1 y2 y3))
 | 0 => ⟨fun _ _ _ _ r h => by simp [engrosslaw16_ChangeMany.j0] at h, fun _ _ _ _ _ r h => by simp [engrosslaw16_ChangeMany.l0] at h, fun _ _ r h => by simp [engrosslaw16_ChangeMany.j2] at h, fun _ _ _ _ r h => by simp [engrosslaw16_ChangeMany.j3] at h⟩
 | k + 1 => by
  obtain ⟨ih0, ih1, ih2, ih3⟩ := engrosslaw16_ChangeMany.mono_l k
  refine ⟨?_, ?_, ?_, ?_⟩
  ·intro y0 y1 y2 y3
   unfold engrosslaw16_ChangeMany.j0
   repeat' first
   | (with_reducible exact ih0 _ _ _ _)
   | (with_reducible exact ih1 _ _ _ _ _)
   | (with_reducible exact ih2 _ _)
   | (with_reducible exact ih3 _ _ _ _)
   | (with_reducible exact change_Decode.mono _ _)
   | (with_reducible exact change_Encode.mono _ _)
   | (with_reducible exact change_May.mono _ _)
   | (with_reducible exact engrosslaw16_begun.mono _)
   | (with_reducible exact engrossref10_EqImages.mono _ _ _)
   | (with_reducible exact LeO.refl _)
   | (with_reducible exact LeO.none _)
   | (with_reducible refine LeO.ite ?_ ?_)
   | (with_reducible refine LeO.bind ?_ (fun _ => ?_))
   | exact ih0 _ _ _ _
   | exact ih1 _ _ _ _ _
   | exact ih2 _ _
   | exact ih3 _ _ _ _
   | exact change_Decode.mono _ _
   | exact change_Encode.mono _ _
   | exact change_May.mono _ _
   | exact engrosslaw16_begun.mono _
   | exact engrossref10_EqImages.mono _ _ _
   | exact LeO.none _
   | refine LeO.ite ?_ ?_
   | refine LeO.bind ?_ (fun _ => ?_)
  ·intro y0 y1 y2 y3 y4
   unfold engrosslaw16_ChangeMany.l0
   repeat' first
   | (with_reducible exact ih0 _ _ _ _)
   | (with_reducible exact ih1 _ _ _ _ _)
   | (with_reducible exact ih2 _ _)
   | (with_reducible exact ih3 _ _ _ _)
   | (with_reducible exact change_Decode.mono _ _)
   | (with_reducible exact change_Encode.mono _ _)
   | (with_reducible exact change_May.mono _ _)
   | (with_reducible exact engrosslaw16_begun.mono _)
   | (with_reducible exact engrossref10_EqImages.mono _ _ _)
   | (with_reducible exact LeO.refl _)
   | (with_reducible exact LeO.none _)
   | (with_reducible refine LeO.ite ?_ ?_)
   | (with_reducible refine LeO.bind ?_ (fun _ => ?_))
   | exact ih0 _ _ _ _
   | exact ih1 _ _ _ _ _
   | exact ih2 _ _
   | exact ih3 _ _ _ _
   | exact change_Decode.mono _ _
   | exact change_Encode.mono _ _
   | exact change_May.mono _ _
   | exact engrosslaw16_begun.mono _
   | exact engrossref10_EqImages.mono _ _ _
   | exact LeO.none _
   | refine LeO.ite ?_ ?_
   | refine LeO.bind ?_ (fun _ => ?_)
  ·intro y0 y1
   unfold engrosslaw16_ChangeMany.j2
   repeat' first
   | (with_reducible exact ih0 _ _ _ _)
   | (with_reducible exact ih1 _ _ _ _ _)
   | (with_reducible exact ih2 _ _)
   | (with_reducible exact ih3 _ _ _ _)
   | (with_reducible exact change_Decode.mono _ _)
   | (with_reducible exact change_Encode.mono _ _)
   | (with_reducible exact change_May.mono _ _)
   | (with_reducible exact engrosslaw16_begun.mono _)
   | (with_reducible exact engrossref10_EqImages.mono _ _ _)
   | (with_reducible exact LeO.refl _)
   | (with_reducible exact LeO.none _)
   | (with_reducible refine LeO.ite ?_ ?_)
   | (with_reducible refine LeO.bind ?_ (fun _ => ?_))
   | exact ih0 _ _ _ _
   | exact ih1 _ _ _ _ _
   | exact ih2 _ _
   | exact ih3 _ _ _ _
   | exact change_Decode.mono _ _
   | exact change_Encode.mono _ _
   | exact change_May.mono _ _
   | exact engrosslaw16_begun.mono _
   | exact engrossref10_EqImages.mono _ _ _
   | exact LeO.none _
   | refine LeO.ite ?_ ?_
   | refine LeO.bind ?_ (fun _ => ?_)
  ·intro y0 y1 y2 y3
   unfold engrosslaw16_ChangeMany.j3
   repeat' first
   | (with_reducible exact ih0 _ _ _ _)
   | (with_reducible exact ih1 _ _ _ _ _)
   | (with_reducible exact ih2 _ _)
   | (with_reducible exact ih3 _ _ _ _)
   | (with_reducible exact change_Decode.mono _ _)
   | (with_reducible exact change_Encode.mono _ _)
   | (with_reducible exact change_May.mono _ _)
   | (with_reducible exact engrosslaw16_begun.mono _)
   | (with_reducible exact engrossref10_EqImages.mono _ _ _)
   | (with_reducible exact LeO.refl _)
   | (with_reducible exact LeO.none _)
   | (with_reducible refine LeO.ite ?_ ?_)
   | (with_reducible refine LeO.bind ?_ (fun _ => ?_))
   | exact ih0 _ _ _ _
   | exact ih1 _ _ _ _ _
   | exact ih2 _ _
   | exact ih3 _ _ _ _
   | exact change_Decode.mono _ _
   | exact change_Encode.mono _ _
   | exact change_May.mono _ _
   | exact engrosslaw16_begun.mono _
   | exact engrossref10_EqImages.mono _ _ _
   | exact LeO.none _
   | refine LeO.ite ?_ ?_
   | refine LeO.bind ?_ (fun _ => ?_)
theorem engrosslaw16_ChangeMany.mono : ∀ a0 a1 a2 k, LeO (engrosslaw16_ChangeMany.f k a0 a1 a2) (engrosslaw16_ChangeMany.f (k + 1) a0 a1 a2) := by
 intro a0 a1 a2 k
 obtain ⟨ih0, ih1, ih2, ih3⟩ := engrosslaw16_ChangeMany.mono_l k
 unfold engrosslaw16_ChangeMany.f
 repeat' first
   | (with_reducible exact ih0 _ _ _ _)
   | (with_reducible exact ih1 _ _ _ _ _)
   | (with_reducible exact ih2 _ _)
   | (with_reducible exact ih3 _ _ _ _)
   | (with_reducible exact change_Decode.mono _ _)
   | (with_reducible exact change_Encode.mono _ _)
   | (with_reducible exact change_May.mono _ _)
   | (with_reducible exact engrosslaw16_begun.mono _)
   | (with_reducible exact engrossref10_EqImages.mono _ _ _)
   | (with_reducible exact LeO.refl _)
   | (with_reducible exact LeO.none _)
   | (with_reducible refine LeO.ite ?_ ?_)
   | (with_reducible refine LeO.bind ?_ (fun _ => ?_))
   | exact ih0 _ _ _ _
   | exact ih1 _ _ _ _ _
   | exact ih2 _ _
   | exact ih3 _ _ _ _
   | exact change_Decode.mono _ _
   | exact change_Encode.mono _ _
   | exact change_May.mono _ _
   | exact engrosslaw16_begun.mono _
   | exact engrossref10_EqImages.mono _ _ _
   | exact LeO.none _
   | refine LeO.ite ?_ ?_
   | refine LeO.bind ?_ (fun _ => ?_)
set_option maxHeartbeats 8000000 in
set_option maxRecDepth 100000 in
theorem engrosslaw16_ChangeMany.calls (k : Nat) (a0 : Int) (a1 : Int) (A2 : Option Addr) (c2 : Nat) (l2 : List Int) (r : Bool) (w : World) (hr2 : Kd.C (Kd.int .u8) w A2 l2.length l2) (hc2 : l2.length ≤ c2) (h : engrosslaw16_ChangeMany.f k a0 a1 l2 = some r) :
  Calls Tryd.prog 5 #[.int .i64 a0, .int .i64 a1, .slice A2 l2.length c2] w fun e w' => e = .returned (.bool r) ∧ Below w.heap.size w w' := by
 have hu38 := Tryd.underlying38
 have HR2 := Aside0.mk hr2
 have HC2 := Aside0.mk hc2
 clear hr2 hc2
 have HB := Aside0.mk (Below.refl w.heap.size w)
 have H : ((engrosslaw16_begun.f k).bind fun t283 => (if t283 = true then (if a0 < 0 then (engrosslaw16_ChangeMany.j0 k a0 a1 l2 true) else (if a0 > 100 then (engrosslaw16_ChangeMany.j0 k a0 a1 l2 true) else (if a1 < 0 then (engrosslaw16_ChangeMany.j0 k a0 a1 l2 true) else (if a1 > 10 then (engrosslaw16_ChangeMany.j0 k a0 a1 l2 true) else (engrosslaw16_ChangeMany.j0 k a0 a1 l2 (decide ((l2.length : Int) > 256))))))) else (none))) = some r := h
 clear h
 replace H := Option.bind_eq_some_iff.mp H
 obtain ⟨t283, A40, H⟩ := H
 replace H : (if t283 = true then (if a0 < 0 then (engrosslaw16_ChangeMany.j0 k a0 a1 l2 true) else (if a0 > 100 then (engrosslaw16_ChangeMany.j0 k a0 a1 l2 true) else (if a1 < 0 then (engrosslaw16_ChangeMany.j0 k a0 a1 l2 true) else (if a1 > 10 then (engrosslaw16_ChangeMany.j0 k a0 a1 l2 true) else (engrosslaw16_ChangeMany.j0 k a0 a1 l2 (decide ((l2.length : Int) > 256))))))) else (none)) = some r := H
 have A4 := Aside0.mk A40
 clear A40
 by_cases c5 : t283 = true
 ·subst c5
  have H1 : (if a0 < 0 then (engrosslaw16_ChangeMany.j0 k a0 a1 l2 true) else (if a0 > 100 then (engrosslaw16_ChangeMany.j0 k a0 a1 l2 true) else (if a1 < 0 then (engrosslaw16_ChangeMany.j0 k a0 a1 l2 true) else (if a1 > 10 then (engrosslaw16_ChangeMany.j0 k a0 a1 l2 true) else (engrosslaw16_ChangeMany.j0 k a0 a1 l2 (decide ((l2.length : Int) > 256))))))) = some r := by rw [if_pos rfl] at H; exact H
  clear H
  have H := H1
  clear H1
  have HC6 := Aside0.mk H
  clear H
  go_enter Tryd.func5, Tryd.ntmps5
  go_upto_region 4 with (first | ((with_reducible refine gate_callee (f := 9) rfl ?_); refine goesL_ (some 14) rfl rfl Tryd.func9 (by kernel_rfl) rfl #[] rfl (by (try simp only [List.map_toArray, List.map_cons, List.map_nil]); first | done | rfl | (simp only [List.length_drop, List.length_take]; rfl)) ?_; (with_reducible refine (engrosslaw16_begun.calls k  true _ A4.out).mono ?_); rintro e w7 ⟨rfl, hb⟩; refine ⟨_, rfl, ?_⟩; replace HB := bW HB hb; (try clear hb); (try clear hb2); (try clear hk); (try clear hi)))
  (try simp only [Act.put, List.setIfInBounds_toArray, List.set_cons_zero, List.set_cons_succ])
  go_cut [35] (fun v35 wc => ∃ (kq : Nat) (x35_5 : Bool), v35 = .bool x35_5 ∧ Aside0 (engrosslaw16_ChangeMany.j0 kq a0 a1 l2 x35_5 = some r) ∧ Aside0 (kq ≤ k) ∧ Aside0 (Below w.heap.size w wc))
  case first =>
   have H := HC6.out
   clear HC6
   by_cases c8 : a0 < 0
   ·rw [if_pos c8] at H
    have c8b0 : decide (a0 < 0) = true := decide_eq_true c8
    clear c8
    (first | rw [c8b0] | (simp only [i64_w, i32_w]; rw [c8b0]) | skip)
    have H' := Aside0.mk H
    clear H
    go_wp2
    go_meet
    case rel => exact ⟨_, (true), (by first | rfl | (simp; done) | (simp [*]; done)), H', ⟨by first | omega | exact Nat.le_refl _⟩, ⟨by repeat (first | (with_reducible first | exact HB.out | apply below_alloc | apply pw_below_drewN | apply below_drew1) | exact HB.out)⟩⟩
   ·rw [if_neg c8] at H
    have c8b0 : decide (a0 < 0) = false := decide_eq_false c8
    clear c8
    (first | rw [c8b0] | (simp only [i64_w, i32_w]; rw [c8b0]) | skip)
    by_cases c9 : a0 > 100
    ·rw [if_pos c9] at H
     have c9b0 : decide (100 < a0) = true := decide_eq_true c9
     clear c9
     have H' := Aside0.mk H
     clear H
     go_wp2
     go_meet
     case rel => exact ⟨_, (true), (by first | rfl | (simp; done) | (simp [*]; done)), H', ⟨by first | omega | exact Nat.le_refl _⟩, ⟨by repeat (first | (with_reducible first | exact HB.out | apply below_alloc | apply pw_below_drewN | apply below_drew1) | exact HB.out)⟩⟩
    ·rw [if_neg c9] at H
     have c9b0 : decide (100 < a0) = false := decide_eq_false c9
     clear c9
     by_cases c10 : a1 < 0
     ·rw [if_pos c10] at H
      have c10b0 : decide (a1 < 0) = true := decide_eq_true c10
      clear c10
      have H' := Aside0.mk H
      clear H
      go_wp2
      go_meet
      case rel => exact ⟨_, (true), (by first | rfl | (simp; done) | (simp [*]; done)), H', ⟨by first | omega | exact Nat.le_refl _⟩, ⟨by repeat (first | (with_reducible first | exact HB.out | apply below_alloc | apply pw_below_drewN | apply below_drew1) | exact HB.out)⟩⟩
     ·rw [if_neg c10] at H
      have c10b0 : decide (a1 < 0) = false := decide_eq_false c10
      clear c10
      by_cases c11 : a1 > 10
      ·rw [if_pos c11] at H
       have c11b0 : decide (10 < a1) = true := decide_eq_true c11
       clear c11
       have H' := Aside0.mk H
       clear H
       go_wp2
       go_meet
       case rel => exact ⟨_, (true), (by first | rfl | (simp; done) | (simp [*]; done)), H', ⟨by first | omega | exact Nat.le_refl _⟩, ⟨by repeat (first | (with_reducible first | exact HB.out | apply below_alloc | apply pw_below_drewN | apply below_drew1) | exact HB.out)⟩⟩
      ·rw [if_neg c11] at H
       have c11b0 : decide (10 < a1) = false := decide_eq_false c11
       clear c11
       have H' := Aside0.mk H
       clear H
       go_wp2
       go_meet
       case rel => exact ⟨_, (decide ((l2.length : Int) > 256)), (by first | rfl | (simp; done) | (simp [*]; done)), H', ⟨by first | omega | exact Nat.le_refl _⟩, ⟨by repeat (first | (with_reducible first | exact HB.out | apply below_alloc | apply pw_below_drewN | apply below_drew1) | exact HB.out)⟩⟩
  case rest =>
   clear HC6
   try clear c1
   try clear c2
   try clear p2
   try clear c5
   try clear c8
   try clear c8b0
   try clear c9
   try clear c9b0
   try clear c10
   try clear c10b0
   try clear c11
   try clear c11b0
   obtain ⟨kq, x35_5, rfl, HA, HJ5, HB⟩ := hcut
   cases kq with
   | zero => exact absurd HA.out (by simp [engrosslaw16_ChangeMany.j0])
   | succ kj5 =>
    have H := HA.out
    clear HA
    simp only [engrosslaw16_ChangeMany.j0] at H
    by_cases c12 : x35_5 = true
    ·subst c12
     have H1 : (some true) = some r := by rw [if_pos rfl] at H; exact H
     clear H
     have H := H1
     clear H1
     obtain rfl := Option.some.inj H
     go_wp2
     go_ret
     exact ⟨by first | rfl | (simp [errW_none, errW_some] <;> rfl) | (simp [*, errW_none, errW_some] <;> rfl), by repeat (first | (with_reducible first | exact HB.out | apply below_alloc | apply pw_below_drewN | apply below_drew1) | exact HB.out)⟩
    ·replace c12 := Bool.eq_false_iff.mpr c12
     subst c12
     have H1 : (engrosslaw16_ChangeMany.l0 kj5 a0 a1 l2 ([] : List (S38)) 0) = some r := by rw [if_neg (show ¬ (false = true) by decide)] at H; exact H
     clear H
     have H := H1
     clear H1
     have H' := Aside0.mk H
     clear H
     go_wp2
     go_loopg [8, 9] kj5 (fun kq v8 v9 w' => ∃ (x8_2 : List (S38)) (x9_2 : Int), v9 = .int .i64 x9_2 ∧ Aside0 (engrosslaw16_ChangeMany.l0 kq a0 a1 l2 x8_2 x9_2 = some r) ∧ Aside0 (kq ≤ kj5) ∧ Aside0 (Kd.S k38 38 w' w.heap.size (fun _ => True) v8 x8_2) ∧ Aside0 (Below w.heap.size w w'))
     case atStart => exact ⟨(([] : List (S38))), (0), (by first | rfl | (simp; done) | (simp [*]; done)), H', ⟨Nat.le_refl _⟩, ⟨by first | exact Kd.S_nil _ _ _ _ _ | exact Kd.N_nil _ _ _ _ _ | exact Kd.V_nil _ _ _ _ _ | exact Kd.Q_nil _ _ _ _ _ | exact Kd.R_nil _ _ _ _ _⟩, ⟨by repeat (first | (with_reducible first | exact HB.out | apply below_alloc | apply pw_below_drewN | apply below_drew1) | exact HB.out)⟩⟩
     case round =>
      clear H'
      try clear c1
      try clear c2
      try clear p2
      try clear c5
      try clear c8
      try clear c8b0
      try clear c9
      try clear c9b0
      try clear c10
      try clear c10b0
      try clear c11
      try clear c11b0
      try clear c12
      try clear p2
      obtain ⟨x8_2, x9_2, rfl, HA, HK2, HO_8, HB⟩ := hrel
      cases gk with
      | zero => exact absurd HA.out (by simp [engrosslaw16_ChangeMany.l0])
      | succ k2 =>
       have H := HA.out
       clear HA
       simp only [engrosslaw16_ChangeMany.l0] at H
       by_cases c13 : x9_2 < a0
       ·rw [if_pos c13] at H
        have c13b0 : decide (x9_2 < a0) = true := decide_eq_true c13
        clear c13
        replace H := Option.bind_eq_some_iff.mp H
        obtain ⟨t284, A140, H⟩ := H
        replace H : (if x8_2.length < 4398046511104 then (engrosslaw16_ChangeMany.l0 k2 a0 a1 l2 (x8_2 ++ [(⟨wrap64 (a1 + x9_2), t284⟩ : S38)]) (wrap64 (x9_2 + 1))) else (none)) = some r := H
        have A14 := Aside0.mk A140
        clear A140
        by_cases c15 : x8_2.length < 4398046511104
        ·rw [if_pos c15] at H
         have LMc15 := Aside0.mk c15
         clear c15
         obtain ⟨y287, hy287⟩ : ∃ y_ : List (S38), y_ = (x8_2 ++ [(⟨wrap64 (a1 + x9_2), t284⟩ : S38)]) := ⟨_, rfl⟩
         replace H : (engrosslaw16_ChangeMany.l0 k2 a0 a1 l2 y287 (wrap64 (x9_2 + 1))) = some r := by first | (rw [hy287]; with_reducible exact H) | (have H2_ := (Option.bind_some _ _).symm.trans H; rw [hy287]; with_reducible exact H2_) | (have H2_ := (Option.bind_some _ _).symm.trans H; with_reducible exact H2_) | with_reducible exact H | (rw [hy287]; exact H) | exact H
         have Ny287 := Aside0.mk hy287
         clear hy287
         have H' := Aside0.mk H
         clear H
         go_wp2_with (first | ((with_reducible refine gate_callee (f := 20) rfl ?_); refine goesL_ (some 46) rfl rfl Tryd.func20 (by kernel_rfl) rfl #[.slice A2 l2.length c2] rfl (by (try simp only [List.map_toArray, List.map_cons, List.map_nil]); first | done | rfl | (simp only [List.length_drop, List.length_take]; rfl)) ?_; (with_reducible refine (engrosslaw9_Of.calls _ _ l2 t284 _ ?side1 ?side2 A14.out).mono ?_); (case side1 => repeat (first | exact (Kd.C_below HR2.out HB.out) | (with_reducible refine Kd.C_alloc ?_ _) | (with_reducible refine Kd.C_drewN ?_ _) | (with_reducible refine Kd.C_drew ?_))); (case side2 => exact HC2.out); rintro e w16 ⟨v285, rfl, ho0, hb⟩; refine ⟨_, rfl, ?_⟩; have HO286 := Aside0.mk (Kd.R_lower ho0 (below_size (bC HB))); replace HO_8 := Aside0.mk (Kd.S_elder' (by (with_reducible repeat (first | apply Kd.S_alloc | apply Kd.S_drewN | apply Kd.S_drew)); exact HO_8.out) (Kd.R_base ho0) hb); replace HB := bW HB hb; (try clear hb); (try clear hb2); (try clear hk); (try clear hi); (try clear ho0); obtain ⟨Ao17, co17, eo17⟩ := Kd.R_slice HO286.out; subst eo17) | ((with_reducible refine gate_builtin (b := .append) (xs := #[.tmp 41, .tmp 48]) rfl ?_); (try (refine gate_guard (by rfl) ?_; dsimp only)); at_builtin; refine Kd.S_append k38 (w0 := w) w.heap.size rfl (.tmp 41) (.tmp 48) 24 38 (.agg #[(.int .i64 0), (.slice none 0 0)]) 32 rfl Tryd.underlying24 info38 rfl (by decide) (by omega) u8 x8_2 (⟨wrap64 (a1 + x9_2), t284⟩ : S38) [.int .i64 (wrap64 (a1 + x9_2)), .slice Ao17 t284.length co17] (fun _ => True) (fun k_ => some k_ = (.slice Ao17 t284.length co17 : Value).ownBlock) rfl rfl ?aP (fun k_ hk_ => ((Kd.R_mono (ok' := fun k_ => ((fun _ => True)) k_ ∧ some k_ ≠ (u8 : Value).ownBlock) (Kd.R_apart' (HO286.out) (Kd.S_typed HO_8.out) (by decide)) (fun k_ hk => ⟨trivial, hk.2⟩))).1 k_ hk_.symm) ?aF ?aO ?aB ?aS ?aL ?_; (case aP => exact k38_mkM _ _ _ (⟨wrap64 (a1 + x9_2), t284⟩ : S38) (Kd.R_mono (Kd.R_tight rfl (Kd.R_mono (ok' := fun k_ => ((fun _ => True)) k_ ∧ some k_ ≠ (u8 : Value).ownBlock) (Kd.R_apart' (HO286.out) (Kd.S_typed HO_8.out) (by decide)) (fun k_ hk => ⟨trivial, hk.2⟩))) (fun _ h_ => h_))); (case aB => exact (bC HB)); (case aF => exact (fun _ _ => trivial)); (case aO => exact (by (with_reducible repeat (first | apply Kd.S_alloc | apply Kd.S_drewN | apply Kd.S_drew)); exact Kd.S_mono HO_8.out (fun k_ hk => ⟨trivial, fun e_ => hk.2 e_⟩))); (case aS => exact (below_size (bC HB))); (case aL => have := LMc15.out; omega); intro v288 w18 ho hb hg hat; rw [← Ny287.out] at ho; have HO289 := Aside0.mk (ho); replace HB := Aside0.mk (hb); clear HO_8 HO286; clear ho hb hg hat))
         go_roundg k2
         case measure => have := HJ5.out; have := HK2.out; omega
         case rel => exact ⟨(y287), (wrap64 (x9_2 + 1)), (by first | rfl | (simp; done) | (simp [*]; done)), H', ⟨by have := HJ5.out; have := HK2.out; omega⟩, ⟨by (with_reducible repeat (first | apply Kd.S_alloc | apply Kd.S_drewN | apply Kd.S_drew)); exact HO289.out⟩, ⟨by repeat (first | (with_reducible first | exact HB.out | apply below_alloc | apply pw_below_drewN | apply below_drew1) | exact HB.out)⟩⟩
        ·rw [if_neg c15] at H
         exact absurd H (by simp)
       ·rw [if_neg c13] at H
        have c13b0 : decide (x9_2 < a0) = false := decide_eq_false c13
        clear c13
        have HC19 := Aside0.mk H
        clear H
        go_upto_region 11 with (fail)
        go_cut [10] (fun v10 wc => ∃ (kq : Nat) (x10_18 : Bool), v10 = .bool x10_18 ∧ Aside0 (engrosslaw16_ChangeMany.j2 kq x8_2 x10_18 = some r) ∧ Aside0 (kq ≤ k2) ∧ Aside0 (Kd.S k38 38 wc w.heap.size (fun _ => True) u8 x8_2) ∧ Aside0 (Below w.heap.size w wc))
        case first =>
         have H := HC19.out
         clear HC19
         by_cases c20 : a0 ≥ 1
         ·rw [if_pos c20] at H
          have c20b0 : decide (1 ≤ a0) = true := decide_eq_true c20
          clear c20
          (first | rw [c20b0] | (simp only [i64_w, i32_w]; rw [c20b0]) | skip)
          have H' := Aside0.mk H
          clear H
          go_wp2
          go_meet
          case rel => exact ⟨_, (decide ((wrap64 (a1 + a0)) ≤ 96)), (by first | rfl | (simp; done) | (simp [*]; done)), H', ⟨by have := HJ5.out; have := HK2.out; first | omega | exact Nat.le_refl _⟩, ⟨by (with_reducible repeat (first | apply Kd.S_alloc | apply Kd.S_drewN | apply Kd.S_drew)); exact HO_8.out⟩, ⟨by repeat (first | (with_reducible first | exact HB.out | apply below_alloc | apply pw_below_drewN | apply below_drew1) | exact HB.out)⟩⟩
         ·rw [if_neg c20] at H
          have c20b0 : decide (1 ≤ a0) = false := decide_eq_false c20
          clear c20
          (first | rw [c20b0] | (simp only [i64_w, i32_w]; rw [c20b0]) | skip)
          have H' := Aside0.mk H
          clear H
          go_wp2
          go_meet
          case rel => exact ⟨_, (false), (by first | rfl | (simp; done) | (simp [*]; done)), H', ⟨by have := HJ5.out; have := HK2.out; first | omega | exact Nat.le_refl _⟩, ⟨by (with_reducible repeat (first | apply Kd.S_alloc | apply Kd.S_drewN | apply Kd.S_drew)); exact HO_8.out⟩, ⟨by repeat (first | (with_reducible first | exact HB.out | apply below_alloc | apply pw_below_drewN | apply below_drew1) | exact HB.out)⟩⟩
        case rest =>
         clear HC19
         try clear c1
         try clear c2
         try clear p2
         try clear c5
         try clear p6
         try clear c8
         try clear c8b0
         try clear c9
         try clear c9b0
         try clear c10
         try clear c10b0
         try clear c11
         try clear c11b0
         try clear c12
         try clear c13
         try clear c13b0
         try clear c15
         try clear c20
         try clear c20b0
         try clear p2
         obtain ⟨kq, x10_18, rfl, HA, HJ18, HO_8, HB⟩ := hcut
         cases kq with
         | zero => exact absurd HA.out (by simp [engrosslaw16_ChangeMany.j2])
         | succ kj18 =>
          have H := HA.out
          clear HA
          simp only [engrosslaw16_ChangeMany.j2] at H
          replace H := Option.bind_eq_some_iff.mp H
          obtain ⟨t290, A210, H⟩ := H
          replace H : ((change_May.f kj18 x8_2).bind fun t293 => (if (t293 != x10_18) = true then (none) else (engrosslaw16_ChangeMany.j3 kj18 x8_2 x10_18 t290 ((decide ((t290.length : Int) > 0)) != x10_18)))) = some r := H
          have A21 := Aside0.mk A210
          clear A210
          have HC22 := Aside0.mk H
          clear H
          obtain ⟨Ao23, co23, eo23⟩ := Kd.S_slice HO_8.out
          subst eo23
          go_upto_region 13 with (first | ((with_reducible refine gate_callee (f := 11) rfl ?_); refine goesL_ (some 59) rfl rfl Tryd.func11 (by kernel_rfl) rfl #[.slice Ao23 x8_2.length co23] rfl (by (try simp only [List.map_toArray, List.map_cons, List.map_nil]); first | done | rfl | (simp only [List.length_drop, List.length_take]; rfl)) ?_; (with_reducible refine (change_Encode.calls kj18 _ _ x8_2 t290 _ ?side1 ?side2 A21.out).mono ?_); (case side1 => repeat (first | exact (Kd.S_reads' HO_8.out).2.2 | (with_reducible refine Kd.C_alloc ?_ _) | (with_reducible refine Kd.C_drewN ?_ _) | (with_reducible refine Kd.C_drew ?_))); (case side2 => exact (Kd.S_reads' HO_8.out).2.1); rintro e w24 ⟨v291, rfl, ho0, hb⟩; refine ⟨_, rfl, ?_⟩; have HO292 := Aside0.mk (Kd.R_lower ho0 (below_size (bC HB))); replace HO_8 := Aside0.mk (Kd.S_elder' (by (with_reducible repeat (first | apply Kd.S_alloc | apply Kd.S_drewN | apply Kd.S_drew)); exact HO_8.out) (Kd.R_base ho0) hb); replace HB := bW HB hb; (try clear hb); (try clear hb2); (try clear hk); (try clear hi); (try clear ho0)))
          (try simp only [Act.put, List.setIfInBounds_toArray, List.set_cons_zero, List.set_cons_succ])
          go_cut [70] (fun v70 wc => ∃ (kq : Nat) (x70_21 : Bool), v70 = .bool x70_21 ∧ Aside0 (engrosslaw16_ChangeMany.j3 kq x8_2 x10_18 t290 x70_21 = some r) ∧ Aside0 (kq ≤ kj18) ∧ Aside0 (Kd.S k38 38 wc w.heap.size (fun k_ => some k_ ≠ (v291 : Value).ownBlock) (.slice Ao23 x8_2.length co23) x8_2) ∧ Aside0 (Kd.R (Kd.int .u8) 5 wc w.heap.size (fun _ => True) v291 t290) ∧ Aside0 (Below w.heap.size w wc))
          case first =>
           have H := HC22.out
           clear HC22
           replace H := Option.bind_eq_some_iff.mp H
           obtain ⟨t293, A250, H⟩ := H
           replace H : (if (t293 != x10_18) = true then (none) else (engrosslaw16_ChangeMany.j3 kj18 x8_2 x10_18 t290 ((decide ((t290.length : Int) > 0)) != x10_18))) = some r := H
           have A25 := Aside0.mk A250
           clear A250
           by_cases c26 : (t293 != x10_18) = true
           ·rw [if_pos c26] at H
            exact absurd H (by simp)
           ·rw [if_neg c26] at H
            have c26b0 : (t293 != x10_18) = false := by simpa using c26
            (try (have c26b1 : decide (t293 = x10_18) = true := by simpa using c26))
            (try (have c26b2 : (t293 == x10_18) = true := by simpa using c26))
            clear c26
            (first | rw [c26b0] | (simp only [i64_w, i32_w]; rw [c26b0]) | skip)
            have H' := Aside0.mk H
            clear H
            go_wp2_with (first | ((with_reducible refine gate_callee (f := 12) rfl ?_); refine goesL_ (some 61) rfl rfl Tryd.func12 (by kernel_rfl) rfl #[.slice Ao23 x8_2.length co23] rfl (by (try simp only [List.map_toArray, List.map_cons, List.map_nil]); first | done | rfl | (simp only [List.length_drop, List.length_take]; rfl)) ?_; (with_reducible refine (change_May.calls kj18 _ _ x8_2 t293 _ ?side1 ?side2 A25.out).mono ?_); (case side1 => repeat (first | exact (Kd.S_reads' HO_8.out).2.2 | (with_reducible refine Kd.C_alloc ?_ _) | (with_reducible refine Kd.C_drewN ?_ _) | (with_reducible refine Kd.C_drew ?_))); (case side2 => exact (Kd.S_reads' HO_8.out).2.1); rintro e w27 ⟨rfl, hb⟩; refine ⟨_, rfl, ?_⟩; replace HO_8 := Aside0.mk (Kd.S_below (by (with_reducible repeat (first | apply Kd.S_alloc | apply Kd.S_drewN | apply Kd.S_drew)); exact HO_8.out) hb); replace HO292 := Aside0.mk (Kd.R_below (by (with_reducible repeat (first | apply Kd.R_alloc | apply Kd.R_drewN | apply Kd.R_drew)); exact HO292.out) hb); replace HB := bW HB hb; (try clear hb); (try clear hb2); (try clear hk); (try clear hi); obtain ⟨Ao28, co28, eo28⟩ := Kd.R_slice HO292.out; subst eo28))
            go_meet
            case rel => exact ⟨_, (((decide ((t290.length : Int) > 0)) != x10_18)), (by first | rfl | (simp; done) | (simp [*]; done) | (simp; cases (decide (0 < t290.length)) <;> cases x10_18 <;> rfl)), H', ⟨by have := HJ5.out; have := HK2.out; have := HJ18.out; first | omega | exact Nat.le_refl _⟩, ⟨by (with_reducible repeat (first | apply Kd.S_alloc | apply Kd.S_drewN | apply Kd.S_drew)); exact Kd.S_mono HO_8.out (fun _ hk => hk.2)⟩, ⟨by (with_reducible repeat (first | apply Kd.R_alloc | apply Kd.R_drewN | apply Kd.R_drew)); exact HO292.out⟩, ⟨by repeat (first | (with_reducible first | exact HB.out | apply below_alloc | apply pw_below_drewN | apply below_drew1) | exact HB.out)⟩⟩
          case rest =>
           clear HC22
           try clear c1
           try clear c2
           try clear p2
           try clear c5
           try clear p6
           try clear c8
           try clear c8b0
           try clear c9
           try clear c9b0
           try clear c10
           try clear c10b0
           try clear c11
           try clear c11b0
           try clear c12
           try clear c13
           try clear c13b0
           try clear c15
           try clear c20
           try clear c20b0
           try clear c26
           try clear c26b0
           try clear c26b1
           try clear c26b2
           try clear p2
           try clear p6
           obtain ⟨kq, x70_21, rfl, HA, HJ21, HO_8, HO_11, HB⟩ := hcut
           cases kq with
           | zero => exact absurd HA.out (by simp [engrosslaw16_ChangeMany.j3])
           | succ kj21 =>
            have H := HA.out
            clear HA
            simp only [engrosslaw16_ChangeMany.j3] at H
            by_cases c29 : x70_21 = true
            ·subst c29
             have H1 : (none) = some r := by rw [if_pos rfl] at H; exact H
             clear H
             have H := H1
             clear H1
             exact absurd H (by simp)
            ·replace c29 := Bool.eq_false_iff.mpr c29
             subst c29
             have H1 : ((change_Decode.f kj21 t290).bind fun bt294 => (if x10_18 = true then (if bt294.2 = 0 then ((engrossref10_EqImages.f kj21 x8_2 bt294.1).bind fun t298 => (some t298)) else (none)) else (some true))) = some r := by rw [if_neg (show ¬ (false = true) by decide)] at H; exact H
             clear H
             have H := H1
             clear H1
             replace H := Option.bind_eq_some_iff.mp H
             obtain ⟨⟨t294, t295⟩, A300, H⟩ := H
             replace H : (if x10_18 = true then (if t295 = 0 then ((engrossref10_EqImages.f kj21 x8_2 t294).bind fun t298 => (some t298)) else (none)) else (some true)) = some r := H
             have A30 := Aside0.mk A300
             clear A300
             by_cases c31 : x10_18 = true
             ·subst c31
              have H1 : (if t295 = 0 then ((engrossref10_EqImages.f kj21 x8_2 t294).bind fun t298 => (some t298)) else (none)) = some r := by rw [if_pos rfl] at H; exact H
              clear H
              have H := H1
              clear H1
              by_cases c32 : t295 = 0
              ·rw [if_pos c32] at H
               have c32b0 : (t295 == 0) = true := beq_iff_eq.mpr c32
               have c32b1 : (t295 != 0) = false := bne_eq_false_iff_eq.mpr c32
               clear c32
               replace H := Option.bind_eq_some_iff.mp H
               obtain ⟨t298, A330, H⟩ := H
               replace H : (some t298) = some r := H
               have A33 := Aside0.mk A330
               clear A330
               obtain rfl := Option.some.inj H
               obtain ⟨Ao34, co34, eo34⟩ := Kd.R_slice HO_11.out
               subst eo34
               go_wp2_with (first | ((with_reducible refine gate_callee (f := 17) rfl ?_); refine goesL_ (some 73) rfl rfl Tryd.func17 (by kernel_rfl) rfl #[.slice Ao34 t290.length co34] rfl (by (try simp only [List.map_toArray, List.map_cons, List.map_nil]); first | done | rfl | (simp only [List.length_drop, List.length_take]; rfl)) ?_; (with_reducible refine (change_Decode.calls kj21 _ _ t290 t294 t295 _ ?side1 ?side2 A30.out).mono ?_); (case side1 => repeat (first | exact (Kd.R_reads' HO_11.out).2.2 | (with_reducible refine Kd.C_alloc ?_ _) | (with_reducible refine Kd.C_drewN ?_ _) | (with_reducible refine Kd.C_drew ?_))); (case side2 => exact (Kd.R_reads' HO_11.out).2.1); rintro e w35 ⟨v296, rfl, ho0, hb⟩; refine ⟨_, rfl, ?_⟩; have HO297 := Aside0.mk (Kd.S_lower (Kd.S_new' (Kd.S_new' ho0 (Kd.S_lt (by (with_reducible repeat (first | apply Kd.S_alloc | apply Kd.S_drewN | apply Kd.S_drew)); exact HO_8.out))) (Kd.R_lt (by (with_reducible repeat (first | apply Kd.R_alloc | apply Kd.R_drewN | apply Kd.R_drew)); exact HO_11.out))) (below_size (bC HB))); replace HO_8 := Aside0.mk (Kd.S_elder' (by (with_reducible repeat (first | apply Kd.S_alloc | apply Kd.S_drewN | apply Kd.S_drew)); exact HO_8.out) (Kd.S_base ho0) hb); replace HO_11 := Aside0.mk (Kd.R_below (by (with_reducible repeat (first | apply Kd.R_alloc | apply Kd.R_drewN | apply Kd.R_drew)); exact HO_11.out) hb); replace HB := bW HB hb; (try clear hb); (try clear hb2); (try clear hk); (try clear hi); (try clear ho0); obtain ⟨Ao36, co36, eo36⟩ := Kd.S_slice HO297.out; subst eo36) | (go_at_call 16; (with_reducible refine (engrossref10_EqImages.calls kj21 _ _ x8_2 _ _ t294 t298 _ ?side1 ?side2 ?side3 ?side4 A33.out).mono ?_); (case side1 => repeat (first | exact (Kd.S_reads' HO_8.out).2.2 | (with_reducible refine Kd.C_alloc ?_ _) | (with_reducible refine Kd.C_drewN ?_ _) | (with_reducible refine Kd.C_drew ?_))); (case side2 => exact (Kd.S_reads' HO_8.out).2.1); (case side3 => repeat (first | exact (Kd.S_reads' HO297.out).2.2 | (with_reducible refine Kd.C_alloc ?_ _) | (with_reducible refine Kd.C_drewN ?_ _) | (with_reducible refine Kd.C_drew ?_))); (case side4 => exact (Kd.S_reads' HO297.out).2.1); rintro e w' ⟨rfl, ⟨nd, rfl⟩⟩))
               go_ret
               exact ⟨by first | rfl | (simp [errW_none, errW_some] <;> rfl) | (simp [*, errW_none, errW_some] <;> rfl), by repeat (first | (with_reducible first | exact HB.out | apply below_alloc | apply pw_below_drewN | apply below_drew1) | exact HB.out)⟩
              ·rw [if_neg c32] at H
               exact absurd H (by simp)
             ·replace c31 := Bool.eq_false_iff.mpr c31
              subst c31
              have H1 : (some true) = some r := by rw [if_neg (show ¬ (false = true) by decide)] at H; exact H
              clear H
              have H := H1
              clear H1
              obtain rfl := Option.some.inj H
              obtain ⟨Ao37, co37, eo37⟩ := Kd.R_slice HO_11.out
              subst eo37
              go_wp2_with (first | ((with_reducible refine gate_callee (f := 17) rfl ?_); refine goesL_ (some 73) rfl rfl Tryd.func17 (by kernel_rfl) rfl #[.slice Ao37 t290.length co37] rfl (by (try simp only [List.map_toArray, List.map_cons, List.map_nil]); first | done | rfl | (simp only [List.length_drop, List.length_take]; rfl)) ?_; (with_reducible refine (change_Decode.calls kj21 _ _ t290 t294 t295 _ ?side1 ?side2 A30.out).mono ?_); (case side1 => repeat (first | exact (Kd.R_reads' HO_11.out).2.2 | (with_reducible refine Kd.C_alloc ?_ _) | (with_reducible refine Kd.C_drewN ?_ _) | (with_reducible refine Kd.C_drew ?_))); (case side2 => exact (Kd.R_reads' HO_11.out).2.1); rintro e w38 ⟨v296, rfl, ho0, hb⟩; refine ⟨_, rfl, ?_⟩; have HO297 := Aside0.mk (Kd.S_lower (Kd.S_new' (Kd.S_new' ho0 (Kd.S_lt (by (with_reducible repeat (first | apply Kd.S_alloc | apply Kd.S_drewN | apply Kd.S_drew)); exact HO_8.out))) (Kd.R_lt (by (with_reducible repeat (first | apply Kd.R_alloc | apply Kd.R_drewN | apply Kd.R_drew)); exact HO_11.out))) (below_size (bC HB))); replace HO_8 := Aside0.mk (Kd.S_elder' (by (with_reducible repeat (first | apply Kd.S_alloc | apply Kd.S_drewN | apply Kd.S_drew)); exact HO_8.out) (Kd.S_base ho0) hb); replace HO_11 := Aside0.mk (Kd.R_below (by (with_reducible repeat (first | apply Kd.R_alloc | apply Kd.R_drewN | apply Kd.R_drew)); exact HO_11.out) hb); replace HB := bW HB hb; (try clear hb); (try clear hb2); (try clear hk); (try clear hi); (try clear ho0)))
              go_ret
              exact ⟨by first | rfl | (simp [errW_none, errW_some] <;> rfl) | (simp [*, errW_none, errW_some] <;> rfl), by repeat (first | (with_reducible first | exact HB.out | apply below_alloc | apply pw_below_drewN | apply below_drew1) | exact HB.out)⟩
 ·replace c5 := Bool.eq_false_iff.mpr c5
  subst c5
  have H1 : (none) = some r := by rw [if_neg (show ¬ (false = true) by decide)] at H; exact H
  clear H
  have H := H1
  clear H1
  exact absurd H (by simp)

/-- THE ONE PURE STATEMENT of engrosslaw16_ChangeMany: yours. -/
def engrosslaw16_ChangeMany.Pure : Prop := ∀ (a0 : Int) (a1 : Int) (l2 : List Int), (Lit.int .i64 a0).wf = true → (Lit.int .i64 a1).wf = true → l2.length ≤ maxLen → l2.length * 1 ≤ 140737488351232 → (∀ x ∈ l2, (Lit.int .u8 x).wf = true) → ∃ k, engrosslaw16_ChangeMany.f k a0 a1 l2 = some true
theorem engrosslaw16_ChangeMany.walk (P : engrosslaw16_ChangeMany.Pure) (a0 : Int) (a1 : Int) (a2 : Option Addr) (len2 cap2 : Nat) (z2 : List Int) (w : World) (w0 : (Lit.int .i64 a0).wf = true) (w1 : (Lit.int .i64 a1).wf = true) (w2 : (a2 = none ∧ len2 = 0 ∧ cap2 = 0 ∧ z2 = []) ∨ ∃ x, a2 = some x ∧ len2 ≤ cap2 ∧ cap2 ≤ maxLen ∧ z2.length = cap2 ∧ (∀ i, i < z2.length → w.cell? (x.add i) = some (.int .u8 (z2.getD i 0))) ∧ ∀ n ∈ z2, (Lit.int .u8 n).wf = true) (y2 : len2 * 1 ≤ 140737488351232) :
  Calls Tryd.prog 5 #[.int .i64 a0, .int .i64 a1, .slice a2 len2 cap2] w fun e w' => e = .returned (.bool true) ∧ Below w.heap.size w w' := by
 obtain ⟨l2, rfl, hr2, hm2, hw2, hc2⟩ := ReadsInt.ofRowC w2
 obtain ⟨k, h⟩ := P a0 a1 l2 w0 w1 hm2 y2 hw2
 refine (engrosslaw16_ChangeMany.calls k a0 a1 _ _ l2 true w (Kd.C_of_reads (d := (0 : Int)) (h1 := fun _ => rfl) hr2) hc2 h).mono ?_
 rintro e w' ⟨rfl, hd⟩
 exact ⟨rfl, hd⟩

-- NOT PRINTED: function 6 (engrosslaw16_ChangeTwins)

/-! ### engrosslaw16_ChangeZero: function 7 -/
mutual
def engrosslaw16_ChangeZero.j0 : Nat → Int → Int → Bool → Option (Bool)
 | 0, _, _, _ => none
 | k + 1, x0, x1, x27 => if x27 = true then (some true) else (if 256 ≤ 281474976710656 then (engrosslaw16_ChangeZero.l0 k x0 x1 (List.replicate 256 0) 0) else (none))
def engrosslaw16_ChangeZero.l0 : Nat → Int → Int → List Int → Int → Option (Bool)
 | 0, _, _, _, _ => none
 | k + 1, x0, x1, x6, x7 => if x7 < x1 then (if 0 ≤ x7 then (if x7 < (x6.length : Int) then (engrosslaw16_ChangeZero.l0 k x0 x1 (x6.set (x7 : Int).toNat 7) (wrap64 (x7 + 1))) else (none)) else (none)) else ((change_Encode.f k (([(⟨x0, x6⟩ : S38)] : List (S38)))).bind fun t322 => ((change_Decode.f k t322).bind fun bt325 => (if bt325.2 = 0 then (if (bt325.1.length : Int) = 1 then (if 0 < (bt325.1.length : Int) then (if ((rd_T38 bt325.1 0).f0) = x0 then (if (strOfNums ((rd_T38 bt325.1 0).f1)).toList = (strOfNums x6).toList then (if (t322.length : Int) ≥ x1 then (some (decide ((t322.length : Int) ≤ (wrap64 (x1 + 6))))) else (none)) else (none)) else (none)) else (none)) else (none)) else (none))))
end
def engrosslaw16_ChangeZero.f (k : Nat) (a0 : Int) (a1 : Int) : Option (Bool) := (engrosslaw16_begun.f k).bind fun t314 => (if t314 = true then (if a0 < 0 then (engrosslaw16_ChangeZero.j0 k a0 a1 true) else (if a0 > 95 then (engrosslaw16_ChangeZero.j0 k a0 a1 true) else (if a1 < 0 then (engrosslaw16_ChangeZero.j0 k a0 a1 true) else (engrosslaw16_ChangeZero.j0 k a0 a1 (decide (a1 > 256)))))) else (none))
theorem engrosslaw16_ChangeZero.mono_l : ∀ k, (∀ y0 y1 y2, LeO (engrosslaw16_ChangeZero.j0 k y0 y1 y2) (engrosslaw16_ChangeZero.j0 (k + 1) y0 y1 y2)) ∧ (∀ y0 y1 y2 y3, LeO (engrosslaw16_ChangeZero.l0 k y0 y1 y2 y3) (engrosslaw16_ChangeZero.l0 (k + 1) y0 y1 y2 y3))
 | 0 => ⟨fun _ _ _ r h => by simp [engrosslaw16_ChangeZero.j0] at h, fun _ _ _ _ r h => by simp [engrosslaw16_ChangeZero.l0] at h⟩
 | k + 1 => by
  obtain ⟨ih0, ih1⟩ := engrosslaw16_ChangeZero.mono_l k
  refine ⟨?_, ?_⟩
  ·intro y0 y1 y2
   unfold engrosslaw16_ChangeZero.j0
   repeat' first
   | (with_reducible exact ih0 _ _ _)
   | (with_reducible exact ih1 _ _ _ _)
   | (with_reducible exact change_Decode.mono _ _)
   | (with_reducible exact change_Encode.mono _ _)
   | (with_reducible exact engrosslaw16_begun.mono _)
   | (with_reducible exact LeO.refl _)
   | (with_reducible exact LeO.none _)
   | (with_reducible refine LeO.ite ?_ ?_)
   | (with_reducible refine LeO.bind ?_ (fun _ => ?_))
   | exact ih0 _ _ _
   | exact ih1 _ _ _ _
   | exact change_Decode.mono _ _
   | exact change_Encode.mono _ _
   | exact engrosslaw16_begun.mono _
   | exact LeO.none _
   | refine LeO.ite ?_ ?_
   | refine LeO.bind ?_ (fun _ => ?_)
  ·intro y0 y1 y2 y3
   unfold engrosslaw16_ChangeZero.l0
   repeat' first
   | (with_reducible exact ih0 _ _ _)
   | (with_reducible exact ih1 _ _ _ _)
   | (with_reducible exact change_Decode.mono _ _)
   | (with_reducible exact change_Encode.mono _ _)
   | (with_reducible exact engrosslaw16_begun.mono _)
   | (with_reducible exact LeO.refl _)
   | (with_reducible exact LeO.none _)
   | (with_reducible refine LeO.ite ?_ ?_)
   | (with_reducible refine LeO.bind ?_ (fun _ => ?_))
   | exact ih0 _ _ _
   | exact ih1 _ _ _ _
   | exact change_Decode.mono _ _
   | exact change_Encode.mono _ _
   | exact engrosslaw16_begun.mono _
   | exact LeO.none _
   | refine LeO.ite ?_ ?_
   | refine LeO.bind ?_ (fun _ => ?_)
theorem engrosslaw16_ChangeZero.mono : ∀ a0 a1 k, LeO (engrosslaw16_ChangeZero.f k a0 a1) (engrosslaw16_ChangeZero.f (k + 1) a0 a1) := by
 intro a0 a1 k
 obtain ⟨ih0, ih1⟩ := engrosslaw16_ChangeZero.mono_l k
 unfold engrosslaw16_ChangeZero.f
 repeat' first
   | (with_reducible exact ih0 _ _ _)
   | (with_reducible exact ih1 _ _ _ _)
   | (with_reducible exact change_Decode.mono _ _)
   | (with_reducible exact change_Encode.mono _ _)
   | (with_reducible exact engrosslaw16_begun.mono _)
   | (with_reducible exact LeO.refl _)
   | (with_reducible exact LeO.none _)
   | (with_reducible refine LeO.ite ?_ ?_)
   | (with_reducible refine LeO.bind ?_ (fun _ => ?_))
   | exact ih0 _ _ _
   | exact ih1 _ _ _ _
   | exact change_Decode.mono _ _
   | exact change_Encode.mono _ _
   | exact engrosslaw16_begun.mono _
   | exact LeO.none _
   | refine LeO.ite ?_ ?_
   | refine LeO.bind ?_ (fun _ => ?_)
set_option maxHeartbeats 8000000 in
set_option maxRecDepth 100000 in
theorem engrosslaw16_ChangeZero.calls (k : Nat) (a0 : Int) (a1 : Int) (r : Bool) (w : World) (h : engrosslaw16_ChangeZero.f k a0 a1 = some r) :
  Calls Tryd.prog 7 #[.int .i64 a0, .int .i64 a1] w fun e w' => e = .returned (.bool r) ∧ Below w.heap.size w w' := by
 have hu38 := Tryd.underlying38
 have HB := Aside0.mk (Below.refl w.heap.size w)
 have H : ((engrosslaw16_begun.f k).bind fun t314 => (if t314 = true then (if a0 < 0 then (engrosslaw16_ChangeZero.j0 k a0 a1 true) else (if a0 > 95 then (engrosslaw16_ChangeZero.j0 k a0 a1 true) else (if a1 < 0 then (engrosslaw16_ChangeZero.j0 k a0 a1 true) else (engrosslaw16_ChangeZero.j0 k a0 a1 (decide (a1 > 256)))))) else (none))) = some r := h
 clear h
 replace H := Option.bind_eq_some_iff.mp H
 obtain ⟨t314, A30, H⟩ := H
 replace H : (if t314 = true then (if a0 < 0 then (engrosslaw16_ChangeZero.j0 k a0 a1 true) else (if a0 > 95 then (engrosslaw16_ChangeZero.j0 k a0 a1 true) else (if a1 < 0 then (engrosslaw16_ChangeZero.j0 k a0 a1 true) else (engrosslaw16_ChangeZero.j0 k a0 a1 (decide (a1 > 256)))))) else (none)) = some r := H
 have A3 := Aside0.mk A30
 clear A30
 by_cases c4 : t314 = true
 ·subst c4
  have H1 : (if a0 < 0 then (engrosslaw16_ChangeZero.j0 k a0 a1 true) else (if a0 > 95 then (engrosslaw16_ChangeZero.j0 k a0 a1 true) else (if a1 < 0 then (engrosslaw16_ChangeZero.j0 k a0 a1 true) else (engrosslaw16_ChangeZero.j0 k a0 a1 (decide (a1 > 256)))))) = some r := by rw [if_pos rfl] at H; exact H
  clear H
  have H := H1
  clear H1
  have HC5 := Aside0.mk H
  clear H
  go_enter Tryd.func7, Tryd.ntmps7
  go_upto_region 4 with (first | (go_at_call 9; (with_reducible refine (engrosslaw16_begun.calls k  true _ A3.out).mono ?_); rintro e w6 ⟨rfl, hb⟩; replace HB := bW HB hb; (try clear hb); (try clear hb2); (try clear hk); (try clear hi)))
  repeat (go_quiet (first | (go_at_call 9; (with_reducible refine (engrosslaw16_begun.calls k  true _ A3.out).mono ?_); rintro e w6 ⟨rfl, hb⟩; replace HB := bW HB hb; (try clear hb); (try clear hb2); (try clear hk); (try clear hi))); go_upto_region 4 with (first | (go_at_call 9; (with_reducible refine (engrosslaw16_begun.calls k  true _ A3.out).mono ?_); rintro e w6 ⟨rfl, hb⟩; replace HB := bW HB hb; (try clear hb); (try clear hb2); (try clear hk); (try clear hi))))
  (try simp only [Act.put, List.setIfInBounds_toArray, List.set_cons_zero, List.set_cons_succ])
  go_cut [27] (fun v27 wc => ∃ (kq : Nat) (x27_4 : Bool), v27 = .bool x27_4 ∧ Aside0 (engrosslaw16_ChangeZero.j0 kq a0 a1 x27_4 = some r) ∧ Aside0 (kq ≤ k) ∧ Aside0 (Below w.heap.size w wc))
  case first =>
   have H := HC5.out
   clear HC5
   by_cases c7 : a0 < 0
   ·rw [if_pos c7] at H
    have c7b0 : decide (a0 < 0) = true := decide_eq_true c7
    clear c7
    (first | rw [c7b0] | (simp only [i64_w, i32_w]; rw [c7b0]) | skip)
    have H' := Aside0.mk H
    clear H
    go_wp2
    repeat (go_quiet (fail); try go_wp2)
    go_meet
    case rel => exact ⟨_, (true), (by first | rfl | (simp; done) | (simp [*]; done)), H', ⟨by first | omega | exact Nat.le_refl _⟩, ⟨by repeat (first | (with_reducible first | exact HB.out | apply below_alloc | apply pw_below_drewN | apply below_drew1) | exact HB.out)⟩⟩
   ·rw [if_neg c7] at H
    have c7b0 : decide (a0 < 0) = false := decide_eq_false c7
    clear c7
    (first | rw [c7b0] | (simp only [i64_w, i32_w]; rw [c7b0]) | skip)
    by_cases c8 : a0 > 95
    ·rw [if_pos c8] at H
     have c8b0 : decide (95 < a0) = true := decide_eq_true c8
     clear c8
     have H' := Aside0.mk H
     clear H
     go_wp2
     repeat (go_quiet (fail); try go_wp2)
     go_meet
     case rel => exact ⟨_, (true), (by first | rfl | (simp; done) | (simp [*]; done)), H', ⟨by first | omega | exact Nat.le_refl _⟩, ⟨by repeat (first | (with_reducible first | exact HB.out | apply below_alloc | apply pw_below_drewN | apply below_drew1) | exact HB.out)⟩⟩
    ·rw [if_neg c8] at H
     have c8b0 : decide (95 < a0) = false := decide_eq_false c8
     clear c8
     by_cases c9 : a1 < 0
     ·rw [if_pos c9] at H
      have c9b0 : decide (a1 < 0) = true := decide_eq_true c9
      clear c9
      have H' := Aside0.mk H
      clear H
      go_wp2
      repeat (go_quiet (fail); try go_wp2)
      go_meet
      case rel => exact ⟨_, (true), (by first | rfl | (simp; done) | (simp [*]; done)), H', ⟨by first | omega | exact Nat.le_refl _⟩, ⟨by repeat (first | (with_reducible first | exact HB.out | apply below_alloc | apply pw_below_drewN | apply below_drew1) | exact HB.out)⟩⟩
     ·rw [if_neg c9] at H
      have c9b0 : decide (a1 < 0) = false := decide_eq_false c9
      clear c9
      have H' := Aside0.mk H
      clear H
      go_wp2
      repeat (go_quiet (fail); try go_wp2)
      go_meet
      case rel => exact ⟨_, (decide (a1 > 256)), (by first | rfl | (simp; done) | (simp [*]; done)), H', ⟨by first | omega | exact Nat.le_refl _⟩, ⟨by repeat (first | (with_reducible first | exact HB.out | apply below_alloc | apply pw_below_drewN | apply below_drew1) | exact HB.out)⟩⟩
  case rest =>
   clear HC5
   try clear p2
   try clear c4
   try clear c7
   try clear c7b0
   try clear c8
   try clear c8b0
   try clear c9
   try clear c9b0
   obtain ⟨kq, x27_4, rfl, HA, HJ4, HB⟩ := hcut
   cases kq with
   | zero => exact absurd HA.out (by simp [engrosslaw16_ChangeZero.j0])
   | succ kj4 =>
    have H := HA.out
    clear HA
    simp only [engrosslaw16_ChangeZero.j0] at H
    by_cases c10 : x27_4 = true
    ·subst c10
     have H1 : (some true) = some r := by rw [if_pos rfl] at H; exact H
     clear H
     have H := H1
     clear H1
     obtain rfl := Option.some.inj H
     go_wp2
     repeat (go_quiet (fail); try go_wp2)
     go_ret
     exact ⟨by first | rfl | (simp [errW_none, errW_some] <;> rfl) | (simp [*, errW_none, errW_some] <;> rfl), by repeat (first | (with_reducible first | exact HB.out | apply below_alloc | apply pw_below_drewN | apply below_drew1) | exact HB.out)⟩
    ·replace c10 := Bool.eq_false_iff.mpr c10
     subst c10
     have H1 : (if 256 ≤ 281474976710656 then (engrosslaw16_ChangeZero.l0 kj4 a0 a1 (List.replicate 256 0) 0) else (none)) = some r := by rw [if_neg (show ¬ (false = true) by decide)] at H; exact H
     clear H
     have H := H1
     clear H1
     by_cases c11 : 256 ≤ 281474976710656
     ·rw [if_pos c11] at H
      have c11b0 := eq_true c11
      have c11b1 : decide (256 ≤ 281474976710656) = true := decide_eq_true c11
      clear c11
      obtain ⟨y315, hy315⟩ : ∃ y_ : List Int, y_ = (List.replicate 256 0) := ⟨_, rfl⟩
      replace H : (engrosslaw16_ChangeZero.l0 kj4 a0 a1 y315 0) = some r := by first | (rw [hy315]; with_reducible exact H) | (have H2_ := (Option.bind_some _ _).symm.trans H; rw [hy315]; with_reducible exact H2_) | (have H2_ := (Option.bind_some _ _).symm.trans H; with_reducible exact H2_) | with_reducible exact H | (rw [hy315]; exact H) | exact H
      have Ny315 := Aside0.mk hy315
      clear hy315
      have H' := Aside0.mk H
      clear H
      go_wp2_with (first | ((with_reducible refine gate_dst (N := 28) rfl ?_); (try (refine gate_guard (by rfl) ?_; dsimp only)); refine Kd.R_make (Kd.int .u8) _ 5 rfl (N := 28) rfl 26 _ _ rfl 256 rfl rfl Tryd.underlying26 (.int .u8 0) 1 info5 rfl (by decide) (by omega) 0 (ok := fun _ => True) (okp := fun _ => True) rfl (fun _ hk => hk) trivial (by omega) (by omega) (Below.refl _ _) (Nat.le_refl _) ?_; intro v316 w12 ho13 hb hg_ hnew_; clear hg_ hnew_; (first | rw [← Ny315.out] at ho13 | (simp only [Int.reduceToNat] at ho13; rw [← Ny315.out] at ho13)); have HO317 := Aside0.mk (Kd.R_lower ho13 (below_size (bC HB))); replace HB := bW HB hb; clear hb ho13))
      repeat (go_quiet (first | ((with_reducible refine gate_dst (N := 28) rfl ?_); (try (refine gate_guard (by rfl) ?_; dsimp only)); refine Kd.R_make (Kd.int .u8) _ 5 rfl (N := 28) rfl 26 _ _ rfl 256 rfl rfl Tryd.underlying26 (.int .u8 0) 1 info5 rfl (by decide) (by omega) 0 (ok := fun _ => True) (okp := fun _ => True) rfl (fun _ hk => hk) trivial (by omega) (by omega) (Below.refl _ _) (Nat.le_refl _) ?_; intro v316 w12 ho13 hb hg_ hnew_; clear hg_ hnew_; (first | rw [← Ny315.out] at ho13 | (simp only [Int.reduceToNat] at ho13; rw [← Ny315.out] at ho13)); have HO317 := Aside0.mk (Kd.R_lower ho13 (below_size (bC HB))); replace HB := bW HB hb; clear hb ho13)); try go_wp2_with (first | ((with_reducible refine gate_dst (N := 28) rfl ?_); (try (refine gate_guard (by rfl) ?_; dsimp only)); refine Kd.R_make (Kd.int .u8) _ 5 rfl (N := 28) rfl 26 _ _ rfl 256 rfl rfl Tryd.underlying26 (.int .u8 0) 1 info5 rfl (by decide) (by omega) 0 (ok := fun _ => True) (okp := fun _ => True) rfl (fun _ hk => hk) trivial (by omega) (by omega) (Below.refl _ _) (Nat.le_refl _) ?_; intro v316 w12 ho13 hb hg_ hnew_; clear hg_ hnew_; (first | rw [← Ny315.out] at ho13 | (simp only [Int.reduceToNat] at ho13; rw [← Ny315.out] at ho13)); have HO317 := Aside0.mk (Kd.R_lower ho13 (below_size (bC HB))); replace HB := bW HB hb; clear hb ho13)))
      go_loopg [7] kj4 (fun kq v7 w' => ∃ (x6_2 : List Int) (x7_2 : Int), v7 = .int .i64 x7_2 ∧ Aside0 (engrosslaw16_ChangeZero.l0 kq a0 a1 x6_2 x7_2 = some r) ∧ Aside0 (kq ≤ kj4) ∧ Aside0 (Kd.R (Kd.int .u8) 5 w' w.heap.size (fun _ => True) v316 x6_2) ∧ Aside0 (Below w.heap.size w w'))
      case atStart => exact ⟨(y315), (0), (by first | rfl | (simp; done) | (simp [*]; done)), H', ⟨Nat.le_refl _⟩, ⟨by (with_reducible repeat (first | apply Kd.R_alloc | apply Kd.R_drewN | apply Kd.R_drew)); exact HO317.out⟩, ⟨by repeat (first | (with_reducible first | exact HB.out | apply below_alloc | apply pw_below_drewN | apply below_drew1) | exact HB.out)⟩⟩
      case round =>
       clear H'
       try clear c1
       try clear p2
       try clear c4
       try clear c7
       try clear c7b0
       try clear c8
       try clear c8b0
       try clear c9
       try clear c9b0
       try clear c10
       try clear c11
       try clear c11b0
       try clear c11b1
       try clear p2
       obtain ⟨x6_2, x7_2, rfl, HA, HK2, HO_6, HB⟩ := hrel
       cases gk with
       | zero => exact absurd HA.out (by simp [engrosslaw16_ChangeZero.l0])
       | succ k2 =>
        have H := HA.out
        clear HA
        simp only [engrosslaw16_ChangeZero.l0] at H
        by_cases c14 : x7_2 < a1
        ·rw [if_pos c14] at H
         have c14b0 : decide (x7_2 < a1) = true := decide_eq_true c14
         clear c14
         by_cases c15 : 0 ≤ x7_2
         ·rw [if_pos c15] at H
          have c15b0 : decide (0 ≤ x7_2) = true := decide_eq_true c15
          clear c15
          by_cases c16 : x7_2 < (x6_2.length : Int)
          ·rw [if_pos c16] at H
           have c16b0 : decide (x7_2 < (x6_2.length : Int)) = true := decide_eq_true c16
           clear c16
           obtain ⟨y318, hy318⟩ : ∃ y_ : List Int, y_ = (x6_2.set (x7_2 : Int).toNat 7) := ⟨_, rfl⟩
           replace H : (engrosslaw16_ChangeZero.l0 k2 a0 a1 y318 (wrap64 (x7_2 + 1))) = some r := by first | (rw [hy318]; with_reducible exact H) | (have H2_ := (Option.bind_some _ _).symm.trans H; rw [hy318]; with_reducible exact H2_) | (have H2_ := (Option.bind_some _ _).symm.trans H; with_reducible exact H2_) | with_reducible exact H | (rw [hy318]; exact H) | exact H
           have Ny318 := Aside0.mk hy318
           clear hy318
           have H' := Aside0.mk H
           clear H
           have p17 : 0 ≤ (x7_2 : Int) := of_decide_eq_true (by first | (with_reducible assumption) | assumption)
           have q17 : (x7_2 : Int) < ((x6_2.length : Int) : Int) := of_decide_eq_true (by first | (with_reducible assumption) | assumption)
           obtain ⟨go17, co17, eo17, gb17, gl17, cl17, HG17⟩ := Kd.R_form HO_6.out (by omega)
           (first | cases eo17 | (injection eo17 with ea_ en_ ec_; (first | subst ea_ | (injection ea_ with ea_; subst ea_)); subst ec_; clear en_))
           have GB17 := Aside0.mk gb17
           have GG17 := Aside0.mk HG17
           clear gb17 gl17 HG17
           obtain ⟨hx17_0, hf17_0⟩ := Kd.R_celln 0 HO_6.out (x7_2 : Int) p17 q17
           replace p17 := eq_true p17
           replace q17 := eq_true q17
           have HP18 := Kd.R_putg HO_6.out (x7_2 : Int) 7
           go_wp2_with (first | ((with_reducible refine gate_store (t := 5) (p := 36) rfl ?_); (try (rw [drewN_self wr]; generalize hq_ : World.drewN wr _ = wr; have n0_ := Aside0.mk (Kd.R_at hq_ HO_6.out); have n1_ := Aside0.mk (below_at hq_ HB.out); clear hq_ HO_6 HB; have HO_6 := n0_; have HB := n1_; clear n0_ n1_; (try (have HP18 := Kd.R_putg HO_6.out (x7_2 : Int) 7)))); refine store_event (t := 5) (p := 36) (v := ?vo_w19) (w1 := (wr.setCell ⟨go17, (x7_2 : Int).toNat, none⟩ (.int .u8 7))) ?hg ?ho ?hn ?hr ?_; (case ho => rfl); (case hg => rfl); (case hn => rfl); (case hr => first | (go_simp; done) | (go_simp; rfl)); intro w19 hw; have hg : wr.grownBy w19 (some go17) := (by rw [hw]; exact HP18.2); have hp_ : Kd.R (Kd.int .u8) 5 w19 w.heap.size (fun _ => True) (.slice (some ⟨go17, 0, none⟩) x6_2.length co17) y318 := (by rw [hw, Ny318.out]; exact HP18.1); clear HP18; replace HO_6 := Aside0.mk (hp_); replace HB := Aside0.mk ((by rw [hw]; exact below_set (HB.out) GB17.out : Below w.heap.size w w19)); clear hg hw hp_))
           repeat (go_quiet (first | ((with_reducible refine gate_store (t := 5) (p := 36) rfl ?_); (try (rw [drewN_self wr]; generalize hq_ : World.drewN wr _ = wr; have n0_ := Aside0.mk (Kd.R_at hq_ HO_6.out); have n1_ := Aside0.mk (below_at hq_ HB.out); clear hq_ HO_6 HB; have HO_6 := n0_; have HB := n1_; clear n0_ n1_; (try (have HP18 := Kd.R_putg HO_6.out (x7_2 : Int) 7)))); refine store_event (t := 5) (p := 36) (v := ?vo_w19) (w1 := (wr.setCell ⟨go17, (x7_2 : Int).toNat, none⟩ (.int .u8 7))) ?hg ?ho ?hn ?hr ?_; (case ho => rfl); (case hg => rfl); (case hn => rfl); (case hr => first | (go_simp; done) | (go_simp; rfl)); intro w19 hw; have hg : wr.grownBy w19 (some go17) := (by rw [hw]; exact HP18.2); have hp_ : Kd.R (Kd.int .u8) 5 w19 w.heap.size (fun _ => True) (.slice (some ⟨go17, 0, none⟩) x6_2.length co17) y318 := (by rw [hw, Ny318.out]; exact HP18.1); clear HP18; replace HO_6 := Aside0.mk (hp_); replace HB := Aside0.mk ((by rw [hw]; exact below_set (HB.out) GB17.out : Below w.heap.size w w19)); clear hg hw hp_)); try go_wp2_with (first | ((with_reducible refine gate_store (t := 5) (p := 36) rfl ?_); (try (rw [drewN_self wr]; generalize hq_ : World.drewN wr _ = wr; have n0_ := Aside0.mk (Kd.R_at hq_ HO_6.out); have n1_ := Aside0.mk (below_at hq_ HB.out); clear hq_ HO_6 HB; have HO_6 := n0_; have HB := n1_; clear n0_ n1_; (try (have HP18 := Kd.R_putg HO_6.out (x7_2 : Int) 7)))); refine store_event (t := 5) (p := 36) (v := ?vo_w19) (w1 := (wr.setCell ⟨go17, (x7_2 : Int).toNat, none⟩ (.int .u8 7))) ?hg ?ho ?hn ?hr ?_; (case ho => rfl); (case hg => rfl); (case hn => rfl); (case hr => first | (go_simp; done) | (go_simp; rfl)); intro w19 hw; have hg : wr.grownBy w19 (some go17) := (by rw [hw]; exact HP18.2); have hp_ : Kd.R (Kd.int .u8) 5 w19 w.heap.size (fun _ => True) (.slice (some ⟨go17, 0, none⟩) x6_2.length co17) y318 := (by rw [hw, Ny318.out]; exact HP18.1); clear HP18; replace HO_6 := Aside0.mk (hp_); replace HB := Aside0.mk ((by rw [hw]; exact below_set (HB.out) GB17.out : Below w.heap.size w w19)); clear hg hw hp_)))
           go_roundg k2
           case measure => have := HJ4.out; have := HK2.out; omega
           case rel => exact ⟨(y318), (wrap64 (x7_2 + 1)), (by first | rfl | (simp; done) | (simp [*]; done)), H', ⟨by have := HJ4.out; have := HK2.out; omega⟩, ⟨by (with_reducible repeat (first | apply Kd.R_alloc | apply Kd.R_drewN | apply Kd.R_drew)); exact HO_6.out⟩, ⟨by repeat (first | (with_reducible first | exact HB.out | apply below_alloc | apply pw_below_drewN | apply below_drew1) | exact HB.out)⟩⟩
          ·rw [if_neg c16] at H
           exact absurd H (by simp)
         ·rw [if_neg c15] at H
          exact absurd H (by simp)
        ·rw [if_neg c14] at H
         have c14b0 : decide (x7_2 < a1) = false := decide_eq_false c14
         clear c14
         obtain ⟨y319, hy319⟩ : ∃ y_ : List (S38), y_ = (([(⟨a0, x6_2⟩ : S38)] : List (S38))) := ⟨_, rfl⟩
         replace H : ((change_Encode.f k2 y319).bind fun t322 => ((change_Decode.f k2 t322).bind fun bt325 => (if bt325.2 = 0 then (if (bt325.1.length : Int) = 1 then (if 0 < (bt325.1.length : Int) then (if ((rd_T38 bt325.1 0).f0) = a0 then (if (strOfNums ((rd_T38 bt325.1 0).f1)).toList = (strOfNums x6_2).toList then (if (t322.length : Int) ≥ a1 then (some (decide ((t322.length : Int) ≤ (wrap64 (a1 + 6))))) else (none)) else (none)) else (none)) else (none)) else (none)) else (none)))) = some r := by first | (rw [hy319]; with_reducible exact H) | (have H2_ := (Option.bind_some _ _).symm.trans H; rw [hy319]; with_reducible exact H2_) | (have H2_ := (Option.bind_some _ _).symm.trans H; with_reducible exact H2_) | with_reducible exact H | (rw [hy319]; exact H) | exact H
         have Ny319 := Aside0.mk hy319
         clear hy319
         replace H := Option.bind_eq_some_iff.mp H
         obtain ⟨t322, A200, H⟩ := H
         replace H : ((change_Decode.f k2 t322).bind fun bt325 => (if bt325.2 = 0 then (if (bt325.1.length : Int) = 1 then (if 0 < (bt325.1.length : Int) then (if ((rd_T38 bt325.1 0).f0) = a0 then (if (strOfNums ((rd_T38 bt325.1 0).f1)).toList = (strOfNums x6_2).toList then (if (t322.length : Int) ≥ a1 then (some (decide ((t322.length : Int) ≤ (wrap64 (a1 + 6))))) else (none)) else (none)) else (none)) else (none)) else (none)) else (none))) = some r := H
         have A20 := Aside0.mk A200
         clear A200
         replace H := Option.bind_eq_some_iff.mp H
         obtain ⟨⟨t325, t326⟩, A210, H⟩ := H
         replace H : (if t326 = 0 then (if (t325.length : Int) = 1 then (if 0 < (t325.length : Int) then (if ((rd_T38 t325 0).f0) = a0 then (if (strOfNums ((rd_T38 t325 0).f1)).toList = (strOfNums x6_2).toList then (if (t322.length : Int) ≥ a1 then (some (decide ((t322.length : Int) ≤ (wrap64 (a1 + 6))))) else (none)) else (none)) else (none)) else (none)) else (none)) else (none)) = some r := H
         have A21 := Aside0.mk A210
         clear A210
         by_cases c22 : t326 = 0
         ·rw [if_pos c22] at H
          have c22b0 : (t326 == 0) = true := beq_iff_eq.mpr c22
          have c22b1 : (t326 != 0) = false := bne_eq_false_iff_eq.mpr c22
          clear c22
          by_cases c23 : (t325.length : Int) = 1
          ·rw [if_pos c23] at H
           have c23b0 : ((t325.length : Int) == 1) = true := beq_iff_eq.mpr c23
           have c23b1 : ((t325.length : Int) != 1) = false := bne_eq_false_iff_eq.mpr c23
           clear c23
           by_cases c24 : 0 < (t325.length : Int)
           ·rw [if_pos c24] at H
            have c24b0 : decide (0 < (t325.length : Int)) = true := decide_eq_true c24
            have c24b1 : decide (0 < t325.length) = true := decide_eq_true (by omega)
            clear c24
            by_cases c25 : ((rd_T38 t325 0).f0) = a0
            ·rw [if_pos c25] at H
             have c25b0 : (((rd_T38 t325 0).f0) == a0) = true := beq_iff_eq.mpr c25
             have c25b1 : (((rd_T38 t325 0).f0) != a0) = false := bne_eq_false_iff_eq.mpr c25
             clear c25
             by_cases c26 : (strOfNums ((rd_T38 t325 0).f1)).toList = (strOfNums x6_2).toList
             ·rw [if_pos c26] at H
              have c26b0 : ((strOfNums ((rd_T38 t325 0).f1)).toList == (strOfNums x6_2).toList) = true := beq_iff_eq.mpr c26
              have c26b1 : ((strOfNums ((rd_T38 t325 0).f1)).toList != (strOfNums x6_2).toList) = false := bne_eq_false_iff_eq.mpr c26
              clear c26
              by_cases c27 : (t322.length : Int) ≥ a1
              ·rw [if_pos c27] at H
               have c27b0 : decide (a1 ≤ (t322.length : Int)) = true := decide_eq_true c27
               clear c27
               obtain rfl := Option.some.inj H
               obtain ⟨Ao28, co28, eo28⟩ := Kd.R_slice HO_6.out
               subst eo28
               go_wp2_with (first | ((with_reducible refine gate_dst (N := 40) rfl ?_); (try (refine gate_guard (by rfl) ?_; dsimp only)); refine Kd.N_lit k38 _ 38 ?hg (N' := 40) ?hd (xs := ([(⟨a0, x6_2⟩ : S38)] : List (S38))) (inner := [.int .i64 a0, .slice Ao28 x6_2.length co28]) (ok := (fun _ => True)) (okp := (fun _ => True)) ?hr ?hp (fun _ hk => hk) ((show ∀ k_, wr.heap.size ≤ k_ → (fun _ => True) k_ from fun k_ hk => trivial) _ (Nat.le_refl _)) (Below.refl _ _) (Nat.le_refl _) (by simp) ?_; (case hd => rfl); (case hg => rfl); (case hr => first | (go_simp; done) | (go_simp; rfl)); (case hp => exact (Reps.c2 (show Kd.FK k38 _ _ (⟨a0, x6_2⟩ : S38) [.int .i64 a0, .slice Ao28 x6_2.length co28] from (k38_mkF _ _ (⟨a0, x6_2⟩ : S38) (Kd.R_reads' (Kd.R_mono (ok' := (fun _ => True)) (HO_6.out) (fun k_ hk => trivial))).2.1 (Kd.R_F (Kd.R_mono (ok' := (fun _ => True)) (HO_6.out) (fun k_ hk => trivial))))) (Reps.none _ _))); intro v320 w29 ho30 hb hg_ hnew_; clear hg_ hnew_; (first | rw [← Ny319.out] at ho30 | (simp only [Int.reduceToNat] at ho30; rw [← Ny319.out] at ho30)); have HO321 := Aside0.mk (Kd.N_lower ho30 (below_size (bC HB))); replace HB := bW HB hb; have HZ6_ := Aside0.mk (Kd.C_below (by (with_reducible repeat (first | apply Kd.C_alloc | apply Kd.C_drewN | apply Kd.C_drew)); exact (Kd.R_reads' HO_6.out).2.2) hb); clear HO_6; clear hb ho30; obtain ⟨Ao31, co31, eo31⟩ := Kd.N_slice HO321.out; subst eo31) | (go_at_call 11; (with_reducible refine (change_Encode.calls k2 _ _ y319 t322 _ ?side1 ?side2 A20.out).mono ?_); (case side1 => repeat (first | exact (Kd.N_reads' HO321.out).2.2 | (with_reducible refine Kd.C_alloc ?_ _) | (with_reducible refine Kd.C_drewN ?_ _) | (with_reducible refine Kd.C_drew ?_))); (case side2 => exact (Kd.N_reads' HO321.out).2.1); rintro e w32 ⟨v323, rfl, ho0, hb⟩; have HO324 := Aside0.mk (Kd.R_lower ho0 (below_size (bC HB))); replace HO321 := Aside0.mk (Kd.N_elder' (by (with_reducible repeat (first | apply Kd.N_alloc | apply Kd.N_drewN | apply Kd.N_drew)); exact HO321.out) (Kd.R_base ho0) hb); replace HZ6_ := Aside0.mk (Kd.C_below (by (with_reducible repeat (first | apply Kd.C_alloc | apply Kd.C_drewN | apply Kd.C_drew)); exact HZ6_.out) hb); replace HB := bW HB hb; (try clear hb); (try clear hb2); (try clear hk); (try clear hi); (try clear ho0); obtain ⟨Ao33, co33, eo33⟩ := Kd.R_slice HO324.out; subst eo33) | (go_at_call 17; (with_reducible refine (change_Decode.calls k2 _ _ t322 t325 t326 _ ?side1 ?side2 A21.out).mono ?_); (case side1 => repeat (first | exact (Kd.R_reads' HO324.out).2.2 | (with_reducible refine Kd.C_alloc ?_ _) | (with_reducible refine Kd.C_drewN ?_ _) | (with_reducible refine Kd.C_drew ?_))); (case side2 => exact (Kd.R_reads' HO324.out).2.1); rintro e w34 ⟨v327, rfl, ho0, hb⟩; have HO328 := Aside0.mk (Kd.N_lower (Kd.N_mono (ok' := fun k_ => some k_ ≠ (.slice Ao31 y319.length co31 : Value).ownBlock ∧ some k_ ≠ (.slice Ao33 t322.length co33 : Value).ownBlock) (Kd.S_N (Kd.S_bound ho0)) (fun k_ hk_ => ⟨(Kd.fresh' (Kd.N_lt (by (with_reducible repeat (first | apply Kd.N_alloc | apply Kd.N_drewN | apply Kd.N_drew)); exact HO321.out)) k_ hk_.2.1), (Kd.fresh' (Kd.R_lt (by (with_reducible repeat (first | apply Kd.R_alloc | apply Kd.R_drewN | apply Kd.R_drew)); exact HO324.out)) k_ hk_.2.1)⟩)) (below_size (bC HB))); replace HO321 := Aside0.mk (Kd.N_elder' (by (with_reducible repeat (first | apply Kd.N_alloc | apply Kd.N_drewN | apply Kd.N_drew)); exact HO321.out) (Kd.N_base (Kd.S_N ho0)) hb); replace HO324 := Aside0.mk (Kd.R_below (by (with_reducible repeat (first | apply Kd.R_alloc | apply Kd.R_drewN | apply Kd.R_drew)); exact HO324.out) hb); replace HZ6_ := Aside0.mk (Kd.C_below (by (with_reducible repeat (first | apply Kd.C_alloc | apply Kd.C_drewN | apply Kd.C_drew)); exact HZ6_.out) hb); replace HB := bW HB hb; (try clear hb); (try clear hb2); (try clear hk); (try clear hi); (try clear ho0); obtain ⟨Ao35, co35, eo35⟩ := Kd.N_slice HO328.out; subst eo35; have p329 : 0 ≤ (0 : Int) := (by omega); have q329 : 0 < (t325.length : Int) := of_decide_eq_true (by first | (with_reducible assumption) | assumption); obtain ⟨ad329, A329_1, c329_1, e329, hx329_0, hx329_1, hl329_1, hi329_1⟩ := at_T38 (Kd.N_reads' HO328.out).2.2 0 p329 q329; cases e329; obtain ⟨ce329, hce329, hMe329, hcc329⟩ := Kd.N_get HO328.out z38 0 p329 (by first | exact q329 | exact of_decide_eq_true (by first | (with_reducible assumption) | assumption) | (have e_ := (Kd.N_reads' HO328.out).1; omega)); obtain ⟨ua329_1, uc329_1, rfl, ul329_1, ge329_1⟩ := k38_openF hMe329; have hv329_1 := hcc329 1 _ rfl; rw [add_field _ _ 1 (by omega)] at hv329_1; replace hv329_1 := Option.some.inj (hv329_1.symm.trans hx329_1); injection hv329_1 with hva_ hvn_ hvc_; rw [hva_] at ge329_1; rw [hvc_] at ul329_1; have HL329_1 := Aside0.mk (show Kd.V (Kd.int .u8) 5 _ w.heap.size _ _ ((rd_T38 t325 0).f1) from Kd.V_mk ul329_1 ge329_1); clear hva_ hvn_ hvc_ ge329_1 ul329_1; clear hcc329 hce329; have qi329 : (0 < t325.length) = True := eq_true (by omega); (try rw [show ((0 : Int)).toNat = 0 from rfl] at hx329_0); (try rw [show 0 * 2 = 0 from rfl] at hx329_0); (try rw [Addr.add_zero'] at hx329_0); (try rw [show ((0 : Int)).toNat = 0 from rfl] at hx329_1); (try rw [show 0 * 2 = 0 from rfl] at hx329_1); (try rw [Addr.add_zero'] at hx329_1); have HR329_1 := Aside0.mk hi329_1; have HC329_1 := Aside0.mk hl329_1; clear hi329_1 hl329_1; replace p329 := eq_true p329; replace q329 := eq_true q329; have p330 : 0 ≤ (0 : Int) := (by omega); have q330 : 0 < (t325.length : Int) := of_decide_eq_true (by first | (with_reducible assumption) | assumption); obtain ⟨ad330, A330_1, c330_1, e330, hx330_0, hx330_1, hl330_1, hi330_1⟩ := at_T38 (Kd.N_reads' HO328.out).2.2 0 p330 q330; obtain rfl : ad329 = ad330 := (by injection e330); obtain ⟨ce330, hce330, hMe330, hcc330⟩ := Kd.N_get HO328.out z38 0 p330 (by first | exact q330 | exact of_decide_eq_true (by first | (with_reducible assumption) | assumption) | (have e_ := (Kd.N_reads' HO328.out).1; omega)); obtain ⟨ua330_1, uc330_1, rfl, ul330_1, ge330_1⟩ := k38_openF hMe330; have hv330_1 := hcc330 1 _ rfl; rw [add_field _ _ 1 (by omega)] at hv330_1; replace hv330_1 := Option.some.inj (hv330_1.symm.trans hx330_1); injection hv330_1 with hva_ hvn_ hvc_; rw [hva_] at ge330_1; rw [hvc_] at ul330_1; have HL330_1 := Aside0.mk (show Kd.V (Kd.int .u8) 5 _ w.heap.size _ _ ((rd_T38 t325 0).f1) from Kd.V_mk ul330_1 ge330_1); clear hva_ hvn_ hvc_ ge330_1 ul330_1; clear hcc330 hce330; have qi330 : (0 < t325.length) = True := eq_true (by omega); (try rw [show ((0 : Int)).toNat = 0 from rfl] at hx330_0); (try rw [show 0 * 2 = 0 from rfl] at hx330_0); (try rw [Addr.add_zero'] at hx330_0); (try rw [show ((0 : Int)).toNat = 0 from rfl] at hx330_1); (try rw [show 0 * 2 = 0 from rfl] at hx330_1); (try rw [Addr.add_zero'] at hx330_1); have HR330_1 := Aside0.mk hi330_1; have HC330_1 := Aside0.mk hl330_1; clear hi330_1 hl330_1; replace p330 := eq_true p330; replace q330 := eq_true q330; have ea_ := Option.some.inj (hx329_1.symm.trans hx330_1); injection ea_ with ea_ en_ ec_; subst ea_; subst ec_; clear en_; have hcv36 := Kd.x_C_string (P := Tryd.prog) (A := A329_1) (c := c329_1) Tryd.underlying26 Tryd.underlying5 Tryd.underlying9 (by repeat (first | (with_reducible exact HR330_1.out) | (with_reducible refine Kd.C_alloc ?_ _) | (with_reducible refine Kd.C_drewN ?_ _) | (with_reducible refine Kd.C_drew ?_) | exact HR330_1.out)); have hcv37 := Kd.x_C_string (P := Tryd.prog) (A := Ao28) (c := co28) Tryd.underlying26 Tryd.underlying5 Tryd.underlying9 HZ6_.out))
               repeat (go_quiet (first | ((with_reducible refine gate_dst (N := 40) rfl ?_); (try (refine gate_guard (by rfl) ?_; dsimp only)); refine Kd.N_lit k38 _ 38 ?hg (N' := 40) ?hd (xs := ([(⟨a0, x6_2⟩ : S38)] : List (S38))) (inner := [.int .i64 a0, .slice Ao28 x6_2.length co28]) (ok := (fun _ => True)) (okp := (fun _ => True)) ?hr ?hp (fun _ hk => hk) ((show ∀ k_, wr.heap.size ≤ k_ → (fun _ => True) k_ from fun k_ hk => trivial) _ (Nat.le_refl _)) (Below.refl _ _) (Nat.le_refl _) (by simp) ?_; (case hd => rfl); (case hg => rfl); (case hr => first | (go_simp; done) | (go_simp; rfl)); (case hp => exact (Reps.c2 (show Kd.FK k38 _ _ (⟨a0, x6_2⟩ : S38) [.int .i64 a0, .slice Ao28 x6_2.length co28] from (k38_mkF _ _ (⟨a0, x6_2⟩ : S38) (Kd.R_reads' (Kd.R_mono (ok' := (fun _ => True)) (HO_6.out) (fun k_ hk => trivial))).2.1 (Kd.R_F (Kd.R_mono (ok' := (fun _ => True)) (HO_6.out) (fun k_ hk => trivial))))) (Reps.none _ _))); intro v320 w29 ho30 hb hg_ hnew_; clear hg_ hnew_; (first | rw [← Ny319.out] at ho30 | (simp only [Int.reduceToNat] at ho30; rw [← Ny319.out] at ho30)); have HO321 := Aside0.mk (Kd.N_lower ho30 (below_size (bC HB))); replace HB := bW HB hb; have HZ6_ := Aside0.mk (Kd.C_below (by (with_reducible repeat (first | apply Kd.C_alloc | apply Kd.C_drewN | apply Kd.C_drew)); exact (Kd.R_reads' HO_6.out).2.2) hb); clear HO_6; clear hb ho30; obtain ⟨Ao31, co31, eo31⟩ := Kd.N_slice HO321.out; subst eo31) | (go_at_call 11; (with_reducible refine (change_Encode.calls k2 _ _ y319 t322 _ ?side1 ?side2 A20.out).mono ?_); (case side1 => repeat (first | exact (Kd.N_reads' HO321.out).2.2 | (with_reducible refine Kd.C_alloc ?_ _) | (with_reducible refine Kd.C_drewN ?_ _) | (with_reducible refine Kd.C_drew ?_))); (case side2 => exact (Kd.N_reads' HO321.out).2.1); rintro e w32 ⟨v323, rfl, ho0, hb⟩; have HO324 := Aside0.mk (Kd.R_lower ho0 (below_size (bC HB))); replace HO321 := Aside0.mk (Kd.N_elder' (by (with_reducible repeat (first | apply Kd.N_alloc | apply Kd.N_drewN | apply Kd.N_drew)); exact HO321.out) (Kd.R_base ho0) hb); replace HZ6_ := Aside0.mk (Kd.C_below (by (with_reducible repeat (first | apply Kd.C_alloc | apply Kd.C_drewN | apply Kd.C_drew)); exact HZ6_.out) hb); replace HB := bW HB hb; (try clear hb); (try clear hb2); (try clear hk); (try clear hi); (try clear ho0); obtain ⟨Ao33, co33, eo33⟩ := Kd.R_slice HO324.out; subst eo33) | (go_at_call 17; (with_reducible refine (change_Decode.calls k2 _ _ t322 t325 t326 _ ?side1 ?side2 A21.out).mono ?_); (case side1 => repeat (first | exact (Kd.R_reads' HO324.out).2.2 | (with_reducible refine Kd.C_alloc ?_ _) | (with_reducible refine Kd.C_drewN ?_ _) | (with_reducible refine Kd.C_drew ?_))); (case side2 => exact (Kd.R_reads' HO324.out).2.1); rintro e w34 ⟨v327, rfl, ho0, hb⟩; have HO328 := Aside0.mk (Kd.N_lower (Kd.N_mono (ok' := fun k_ => some k_ ≠ (.slice Ao31 y319.length co31 : Value).ownBlock ∧ some k_ ≠ (.slice Ao33 t322.length co33 : Value).ownBlock) (Kd.S_N (Kd.S_bound ho0)) (fun k_ hk_ => ⟨(Kd.fresh' (Kd.N_lt (by (with_reducible repeat (first | apply Kd.N_alloc | apply Kd.N_drewN | apply Kd.N_drew)); exact HO321.out)) k_ hk_.2.1), (Kd.fresh' (Kd.R_lt (by (with_reducible repeat (first | apply Kd.R_alloc | apply Kd.R_drewN | apply Kd.R_drew)); exact HO324.out)) k_ hk_.2.1)⟩)) (below_size (bC HB))); replace HO321 := Aside0.mk (Kd.N_elder' (by (with_reducible repeat (first | apply Kd.N_alloc | apply Kd.N_drewN | apply Kd.N_drew)); exact HO321.out) (Kd.N_base (Kd.S_N ho0)) hb); replace HO324 := Aside0.mk (Kd.R_below (by (with_reducible repeat (first | apply Kd.R_alloc | apply Kd.R_drewN | apply Kd.R_drew)); exact HO324.out) hb); replace HZ6_ := Aside0.mk (Kd.C_below (by (with_reducible repeat (first | apply Kd.C_alloc | apply Kd.C_drewN | apply Kd.C_drew)); exact HZ6_.out) hb); replace HB := bW HB hb; (try clear hb); (try clear hb2); (try clear hk); (try clear hi); (try clear ho0); obtain ⟨Ao35, co35, eo35⟩ := Kd.N_slice HO328.out; subst eo35; have p329 : 0 ≤ (0 : Int) := (by omega); have q329 : 0 < (t325.length : Int) := of_decide_eq_true (by first | (with_reducible assumption) | assumption); obtain ⟨ad329, A329_1, c329_1, e329, hx329_0, hx329_1, hl329_1, hi329_1⟩ := at_T38 (Kd.N_reads' HO328.out).2.2 0 p329 q329; cases e329; obtain ⟨ce329, hce329, hMe329, hcc329⟩ := Kd.N_get HO328.out z38 0 p329 (by first | exact q329 | exact of_decide_eq_true (by first | (with_reducible assumption) | assumption) | (have e_ := (Kd.N_reads' HO328.out).1; omega)); obtain ⟨ua329_1, uc329_1, rfl, ul329_1, ge329_1⟩ := k38_openF hMe329; have hv329_1 := hcc329 1 _ rfl; rw [add_field _ _ 1 (by omega)] at hv329_1; replace hv329_1 := Option.some.inj (hv329_1.symm.trans hx329_1); injection hv329_1 with hva_ hvn_ hvc_; rw [hva_] at ge329_1; rw [hvc_] at ul329_1; have HL329_1 := Aside0.mk (show Kd.V (Kd.int .u8) 5 _ w.heap.size _ _ ((rd_T38 t325 0).f1) from Kd.V_mk ul329_1 ge329_1); clear hva_ hvn_ hvc_ ge329_1 ul329_1; clear hcc329 hce329; have qi329 : (0 < t325.length) = True := eq_true (by omega); (try rw [show ((0 : Int)).toNat = 0 from rfl] at hx329_0); (try rw [show 0 * 2 = 0 from rfl] at hx329_0); (try rw [Addr.add_zero'] at hx329_0); (try rw [show ((0 : Int)).toNat = 0 from rfl] at hx329_1); (try rw [show 0 * 2 = 0 from rfl] at hx329_1); (try rw [Addr.add_zero'] at hx329_1); have HR329_1 := Aside0.mk hi329_1; have HC329_1 := Aside0.mk hl329_1; clear hi329_1 hl329_1; replace p329 := eq_true p329; replace q329 := eq_true q329; have p330 : 0 ≤ (0 : Int) := (by omega); have q330 : 0 < (t325.length : Int) := of_decide_eq_true (by first | (with_reducible assumption) | assumption); obtain ⟨ad330, A330_1, c330_1, e330, hx330_0, hx330_1, hl330_1, hi330_1⟩ := at_T38 (Kd.N_reads' HO328.out).2.2 0 p330 q330; obtain rfl : ad329 = ad330 := (by injection e330); obtain ⟨ce330, hce330, hMe330, hcc330⟩ := Kd.N_get HO328.out z38 0 p330 (by first | exact q330 | exact of_decide_eq_true (by first | (with_reducible assumption) | assumption) | (have e_ := (Kd.N_reads' HO328.out).1; omega)); obtain ⟨ua330_1, uc330_1, rfl, ul330_1, ge330_1⟩ := k38_openF hMe330; have hv330_1 := hcc330 1 _ rfl; rw [add_field _ _ 1 (by omega)] at hv330_1; replace hv330_1 := Option.some.inj (hv330_1.symm.trans hx330_1); injection hv330_1 with hva_ hvn_ hvc_; rw [hva_] at ge330_1; rw [hvc_] at ul330_1; have HL330_1 := Aside0.mk (show Kd.V (Kd.int .u8) 5 _ w.heap.size _ _ ((rd_T38 t325 0).f1) from Kd.V_mk ul330_1 ge330_1); clear hva_ hvn_ hvc_ ge330_1 ul330_1; clear hcc330 hce330; have qi330 : (0 < t325.length) = True := eq_true (by omega); (try rw [show ((0 : Int)).toNat = 0 from rfl] at hx330_0); (try rw [show 0 * 2 = 0 from rfl] at hx330_0); (try rw [Addr.add_zero'] at hx330_0); (try rw [show ((0 : Int)).toNat = 0 from rfl] at hx330_1); (try rw [show 0 * 2 = 0 from rfl] at hx330_1); (try rw [Addr.add_zero'] at hx330_1); have HR330_1 := Aside0.mk hi330_1; have HC330_1 := Aside0.mk hl330_1; clear hi330_1 hl330_1; replace p330 := eq_true p330; replace q330 := eq_true q330; have ea_ := Option.some.inj (hx329_1.symm.trans hx330_1); injection ea_ with ea_ en_ ec_; subst ea_; subst ec_; clear en_; have hcv36 := Kd.x_C_string (P := Tryd.prog) (A := A329_1) (c := c329_1) Tryd.underlying26 Tryd.underlying5 Tryd.underlying9 (by repeat (first | (with_reducible exact HR330_1.out) | (with_reducible refine Kd.C_alloc ?_ _) | (with_reducible refine Kd.C_drewN ?_ _) | (with_reducible refine Kd.C_drew ?_) | exact HR330_1.out)); have hcv37 := Kd.x_C_string (P := Tryd.prog) (A := Ao28) (c := co28) Tryd.underlying26 Tryd.underlying5 Tryd.underlying9 HZ6_.out)); try go_wp2_with (first | ((with_reducible refine gate_dst (N := 40) rfl ?_); (try (refine gate_guard (by rfl) ?_; dsimp only)); refine Kd.N_lit k38 _ 38 ?hg (N' := 40) ?hd (xs := ([(⟨a0, x6_2⟩ : S38)] : List (S38))) (inner := [.int .i64 a0, .slice Ao28 x6_2.length co28]) (ok := (fun _ => True)) (okp := (fun _ => True)) ?hr ?hp (fun _ hk => hk) ((show ∀ k_, wr.heap.size ≤ k_ → (fun _ => True) k_ from fun k_ hk => trivial) _ (Nat.le_refl _)) (Below.refl _ _) (Nat.le_refl _) (by simp) ?_; (case hd => rfl); (case hg => rfl); (case hr => first | (go_simp; done) | (go_simp; rfl)); (case hp => exact (Reps.c2 (show Kd.FK k38 _ _ (⟨a0, x6_2⟩ : S38) [.int .i64 a0, .slice Ao28 x6_2.length co28] from (k38_mkF _ _ (⟨a0, x6_2⟩ : S38) (Kd.R_reads' (Kd.R_mono (ok' := (fun _ => True)) (HO_6.out) (fun k_ hk => trivial))).2.1 (Kd.R_F (Kd.R_mono (ok' := (fun _ => True)) (HO_6.out) (fun k_ hk => trivial))))) (Reps.none _ _))); intro v320 w29 ho30 hb hg_ hnew_; clear hg_ hnew_; (first | rw [← Ny319.out] at ho30 | (simp only [Int.reduceToNat] at ho30; rw [← Ny319.out] at ho30)); have HO321 := Aside0.mk (Kd.N_lower ho30 (below_size (bC HB))); replace HZ6_ := Aside0.mk (Kd.C_below (by (with_reducible repeat (first | apply Kd.C_alloc | apply Kd.C_drewN | apply Kd.C_drew)); exact HZ6_.out) hb); replace HB := bW HB hb; clear HO_6; clear hb ho30; obtain ⟨Ao31, co31, eo31⟩ := Kd.N_slice HO321.out; subst eo31) | (go_at_call 11; (with_reducible refine (change_Encode.calls k2 _ _ y319 t322 _ ?side1 ?side2 A20.out).mono ?_); (case side1 => repeat (first | exact (Kd.N_reads' HO321.out).2.2 | (with_reducible refine Kd.C_alloc ?_ _) | (with_reducible refine Kd.C_drewN ?_ _) | (with_reducible refine Kd.C_drew ?_))); (case side2 => exact (Kd.N_reads' HO321.out).2.1); rintro e w32 ⟨v323, rfl, ho0, hb⟩; have HO324 := Aside0.mk (Kd.R_lower ho0 (below_size (bC HB))); replace HO321 := Aside0.mk (Kd.N_elder' (by (with_reducible repeat (first | apply Kd.N_alloc | apply Kd.N_drewN | apply Kd.N_drew)); exact HO321.out) (Kd.R_base ho0) hb); replace HZ6_ := Aside0.mk (Kd.C_below (by (with_reducible repeat (first | apply Kd.C_alloc | apply Kd.C_drewN | apply Kd.C_drew)); exact HZ6_.out) hb); replace HB := bW HB hb; (try clear hb); (try clear hb2); (try clear hk); (try clear hi); (try clear ho0); obtain ⟨Ao33, co33, eo33⟩ := Kd.R_slice HO324.out; subst eo33) | (go_at_call 17; (with_reducible refine (change_Decode.calls k2 _ _ t322 t325 t326 _ ?side1 ?side2 A21.out).mono ?_); (case side1 => repeat (first | exact (Kd.R_reads' HO324.out).2.2 | (with_reducible refine Kd.C_alloc ?_ _) | (with_reducible refine Kd.C_drewN ?_ _) | (with_reducible refine Kd.C_drew ?_))); (case side2 => exact (Kd.R_reads' HO324.out).2.1); rintro e w34 ⟨v327, rfl, ho0, hb⟩; have HO328 := Aside0.mk (Kd.N_lower (Kd.N_mono (ok' := fun k_ => some k_ ≠ (.slice Ao31 y319.length co31 : Value).ownBlock ∧ some k_ ≠ (.slice Ao33 t322.length co33 : Value).ownBlock) (Kd.S_N (Kd.S_bound ho0)) (fun k_ hk_ => ⟨(Kd.fresh' (Kd.N_lt (by (with_reducible repeat (first | apply Kd.N_alloc | apply Kd.N_drewN | apply Kd.N_drew)); exact HO321.out)) k_ hk_.2.1), (Kd.fresh' (Kd.R_lt (by (with_reducible repeat (first | apply Kd.R_alloc | apply Kd.R_drewN | apply Kd.R_drew)); exact HO324.out)) k_ hk_.2.1)⟩)) (below_size (bC HB))); replace HO321 := Aside0.mk (Kd.N_elder' (by (with_reducible repeat (first | apply Kd.N_alloc | apply Kd.N_drewN | apply Kd.N_drew)); exact HO321.out) (Kd.N_base (Kd.S_N ho0)) hb); replace HO324 := Aside0.mk (Kd.R_below (by (with_reducible repeat (first | apply Kd.R_alloc | apply Kd.R_drewN | apply Kd.R_drew)); exact HO324.out) hb); replace HZ6_ := Aside0.mk (Kd.C_below (by (with_reducible repeat (first | apply Kd.C_alloc | apply Kd.C_drewN | apply Kd.C_drew)); exact HZ6_.out) hb); replace HB := bW HB hb; (try clear hb); (try clear hb2); (try clear hk); (try clear hi); (try clear ho0); obtain ⟨Ao35, co35, eo35⟩ := Kd.N_slice HO328.out; subst eo35; have p329 : 0 ≤ (0 : Int) := (by omega); have q329 : 0 < (t325.length : Int) := of_decide_eq_true (by first | (with_reducible assumption) | assumption); obtain ⟨ad329, A329_1, c329_1, e329, hx329_0, hx329_1, hl329_1, hi329_1⟩ := at_T38 (Kd.N_reads' HO328.out).2.2 0 p329 q329; cases e329; obtain ⟨ce329, hce329, hMe329, hcc329⟩ := Kd.N_get HO328.out z38 0 p329 (by first | exact q329 | exact of_decide_eq_true (by first | (with_reducible assumption) | assumption) | (have e_ := (Kd.N_reads' HO328.out).1; omega)); obtain ⟨ua329_1, uc329_1, rfl, ul329_1, ge329_1⟩ := k38_openF hMe329; have hv329_1 := hcc329 1 _ rfl; rw [add_field _ _ 1 (by omega)] at hv329_1; replace hv329_1 := Option.some.inj (hv329_1.symm.trans hx329_1); injection hv329_1 with hva_ hvn_ hvc_; rw [hva_] at ge329_1; rw [hvc_] at ul329_1; have HL329_1 := Aside0.mk (show Kd.V (Kd.int .u8) 5 _ w.heap.size _ _ ((rd_T38 t325 0).f1) from Kd.V_mk ul329_1 ge329_1); clear hva_ hvn_ hvc_ ge329_1 ul329_1; clear hcc329 hce329; have qi329 : (0 < t325.length) = True := eq_true (by omega); (try rw [show ((0 : Int)).toNat = 0 from rfl] at hx329_0); (try rw [show 0 * 2 = 0 from rfl] at hx329_0); (try rw [Addr.add_zero'] at hx329_0); (try rw [show ((0 : Int)).toNat = 0 from rfl] at hx329_1); (try rw [show 0 * 2 = 0 from rfl] at hx329_1); (try rw [Addr.add_zero'] at hx329_1); have HR329_1 := Aside0.mk hi329_1; have HC329_1 := Aside0.mk hl329_1; clear hi329_1 hl329_1; replace p329 := eq_true p329; replace q329 := eq_true q329; have p330 : 0 ≤ (0 : Int) := (by omega); have q330 : 0 < (t325.length : Int) := of_decide_eq_true (by first | (with_reducible assumption) | assumption); obtain ⟨ad330, A330_1, c330_1, e330, hx330_0, hx330_1, hl330_1, hi330_1⟩ := at_T38 (Kd.N_reads' HO328.out).2.2 0 p330 q330; obtain rfl : ad329 = ad330 := (by injection e330); obtain ⟨ce330, hce330, hMe330, hcc330⟩ := Kd.N_get HO328.out z38 0 p330 (by first | exact q330 | exact of_decide_eq_true (by first | (with_reducible assumption) | assumption) | (have e_ := (Kd.N_reads' HO328.out).1; omega)); obtain ⟨ua330_1, uc330_1, rfl, ul330_1, ge330_1⟩ := k38_openF hMe330; have hv330_1 := hcc330 1 _ rfl; rw [add_field _ _ 1 (by omega)] at hv330_1; replace hv330_1 := Option.some.inj (hv330_1.symm.trans hx330_1); injection hv330_1 with hva_ hvn_ hvc_; rw [hva_] at ge330_1; rw [hvc_] at ul330_1; have HL330_1 := Aside0.mk (show Kd.V (Kd.int .u8) 5 _ w.heap.size _ _ ((rd_T38 t325 0).f1) from Kd.V_mk ul330_1 ge330_1); clear hva_ hvn_ hvc_ ge330_1 ul330_1; clear hcc330 hce330; have qi330 : (0 < t325.length) = True := eq_true (by omega); (try rw [show ((0 : Int)).toNat = 0 from rfl] at hx330_0); (try rw [show 0 * 2 = 0 from rfl] at hx330_0); (try rw [Addr.add_zero'] at hx330_0); (try rw [show ((0 : Int)).toNat = 0 from rfl] at hx330_1); (try rw [show 0 * 2 = 0 from rfl] at hx330_1); (try rw [Addr.add_zero'] at hx330_1); have HR330_1 := Aside0.mk hi330_1; have HC330_1 := Aside0.mk hl330_1; clear hi330_1 hl330_1; replace p330 := eq_true p330; replace q330 := eq_true q330; have ea_ := Option.some.inj (hx329_1.symm.trans hx330_1); injection ea_ with ea_ en_ ec_; subst ea_; subst ec_; clear en_; have hcv36 := Kd.x_C_string (P := Tryd.prog) (A := A329_1) (c := c329_1) Tryd.underlying26 Tryd.underlying5 Tryd.underlying9 (by repeat (first | (with_reducible exact HR330_1.out) | (with_reducible refine Kd.C_alloc ?_ _) | (with_reducible refine Kd.C_drewN ?_ _) | (with_reducible refine Kd.C_drew ?_) | exact HR330_1.out)); have hcv37 := Kd.x_C_string (P := Tryd.prog) (A := Ao28) (c := co28) Tryd.underlying26 Tryd.underlying5 Tryd.underlying9 HZ6_.out)))
               go_ret
               exact ⟨by first | rfl | (simp [errW_none, errW_some] <;> rfl) | (simp [*, errW_none, errW_some] <;> rfl), by repeat (first | (with_reducible first | exact HB.out | apply below_alloc | apply pw_below_drewN | apply below_drew1) | exact HB.out)⟩
              ·rw [if_neg c27] at H
               exact absurd H (by simp)
             ·rw [if_neg c26] at H
              exact absurd H (by simp)
            ·rw [if_neg c25] at H
             exact absurd H (by simp)
           ·rw [if_neg c24] at H
            exact absurd H (by simp)
          ·rw [if_neg c23] at H
           exact absurd H (by simp)
         ·rw [if_neg c22] at H
          exact absurd H (by simp)
     ·rw [if_neg c11] at H
      exact absurd H (by simp)
 ·replace c4 := Bool.eq_false_iff.mpr c4
  subst c4
  have H1 : (none) = some r := by rw [if_neg (show ¬ (false = true) by decide)] at H; exact H
  clear H
  have H := H1
  clear H1
  exact absurd H (by simp)

/-- THE ONE PURE STATEMENT of engrosslaw16_ChangeZero: yours. -/
def engrosslaw16_ChangeZero.Pure : Prop := ∀ (a0 : Int) (a1 : Int), (Lit.int .i64 a0).wf = true → (Lit.int .i64 a1).wf = true → ∃ k, engrosslaw16_ChangeZero.f k a0 a1 = some true
theorem engrosslaw16_ChangeZero.walk (P : engrosslaw16_ChangeZero.Pure) (a0 : Int) (a1 : Int) (w : World) (w0 : (Lit.int .i64 a0).wf = true) (w1 : (Lit.int .i64 a1).wf = true) :
  Calls Tryd.prog 7 #[.int .i64 a0, .int .i64 a1] w fun e w' => e = .returned (.bool true) ∧ Below w.heap.size w w' := by
 obtain ⟨k, h⟩ := P a0 a1 w0 w1
 refine (engrosslaw16_ChangeZero.calls k a0 a1 true w h).mono ?_
 rintro e w' ⟨rfl, hd⟩
 exact ⟨rfl, hd⟩

end Go.Proofs.YtijnfnlahhgpgaaDoor.P
