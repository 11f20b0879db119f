/- Functions of the program as Lean functions, and that each call answers as its function does. No condition. (Lines written by a generator of this session.) -/
import Derived.Test.YtaphfjfalbeojaaPx0
import Derived.Test.YtaphfjfalbeojaaPx1
import Derived.Test.YtaphfjfalbeojaaPx2
import Derived.Test.YtaphfjfalbeojaaXF
import Derived.Test.YtaphfjfalbeojaaXI
namespace Go.Proofs.Ytaphfjfalbeojaa.P
open Go.RowKit Go.Proofs.YtaphfjfalbeojaaW.PrintWords Go.Proofs.YtaphfjfalbeojaaW.PrintLast Go.Proofs.YtaphfjfalbeojaaW.PrintMore
attribute [local go_sem] max2_int min2_int max_two min_two max_three min_three max_four min_four   -- for this text's walks alone
attribute [local go_sem] x_str_gtr x_str_leq x_str_geq ext_bits ext_frombits ext_neg Instr.field asAgg
set_option linter.unusedVariables false
set_option linter.unusedSimpArgs false

/-! ### engrosslaw3_FloatAdd: function 14 -/
mutual
def engrosslaw3_FloatAdd.j0 : Nat → List Int → Int → Option (Bool)
 | 0, _, _ => none
 | k + 1, x0, x1 => engrosslaw3_FloatAdd.l0 k x0 x1 ([] : List Nat) 0
def engrosslaw3_FloatAdd.l0 : Nat → List Int → Int → List Nat → Int → Option (Bool)
 | 0, _, _, _, _ => none
 | k + 1, x0, x1, x6, x7 => if x7 < (x0.length : Int) then (if 0 ≤ x7 then ((engrosslaw3_of.f (rd x0 x7)).bind fun t345 => (if x6.length < 17592186044416 then (engrosslaw3_FloatAdd.l0 k x0 x1 (x6 ++ [t345]) (wrap64 (x7 + 1))) else (none))) else (none)) else ((float_Sum.f x6).bind fun t349 => (if ([] : List Nat).length + x6.length < 17592186044416 then ((some (([] : List Nat) ++ x6 : List Nat)).bind fun y350 => ((engrosslaw3_of.f x1).bind fun t353 => (if y350.length < 17592186044416 then ((float_Sum.f (y350 ++ [t353])).bind fun t357 => ((engrosslaw3_of.f x1).bind fun t358 => ((engrossref1_Clean.f (addF t349 t358)).bind fun t359 => ((engrossref1_Bits.f t357 t359).bind fun t360 => (some t360))))) else (none)))) else (none)))
end
def engrosslaw3_FloatAdd.f (k : Nat) (l0 : List Int) (a1 : Int) : Option (Bool) := (engrosslaw3_begun.f k).bind fun t338 => (if t338 = true then (if (l0.length : Int) > 20 then (if 20 ≤ (l0.length : Int) then (engrosslaw3_FloatAdd.j0 k (l0.take 20) a1) else (none)) else (engrosslaw3_FloatAdd.j0 k l0 a1)) else (none))
theorem engrosslaw3_FloatAdd.mono_l : ∀ k, (∀ y0 y1, LeO (engrosslaw3_FloatAdd.j0 k y0 y1) (engrosslaw3_FloatAdd.j0 (k + 1) y0 y1)) ∧ (∀ y0 y1 y2 y3, LeO (engrosslaw3_FloatAdd.l0 k y0 y1 y2 y3) (engrosslaw3_FloatAdd.l0 (k + 1) y0 y1 y2 y3))
 | 0 => ⟨fun _ _ r h => by simp [engrosslaw3_FloatAdd.j0] at h, fun _ _ _ _ r h => by simp [engrosslaw3_FloatAdd.l0] at h⟩
 | k + 1 => by
  obtain ⟨ih0, ih1⟩ := engrosslaw3_FloatAdd.mono_l k
  refine ⟨?_, ?_⟩
  ·intro y0 y1
   unfold engrosslaw3_FloatAdd.j0
   repeat' first
   | (with_reducible exact ih0 _ _)
   | (with_reducible exact ih1 _ _ _ _)
   | (with_reducible exact engrosslaw3_begun.mono _)
   | (with_reducible exact LeO.refl _)
   | (with_reducible exact LeO.none _)
   | (with_reducible refine LeO.ite ?_ ?_)
   | (with_reducible refine LeO.bind ?_ (fun _ => ?_))
   | exact ih0 _ _
   | exact ih1 _ _ _ _
   | exact engrosslaw3_begun.mono _
   | exact LeO.none _
   | refine LeO.ite ?_ ?_
   | refine LeO.bind ?_ (fun _ => ?_)
  ·intro y0 y1 y2 y3
   unfold engrosslaw3_FloatAdd.l0
   repeat' first
   | (with_reducible exact ih0 _ _)
   | (with_reducible exact ih1 _ _ _ _)
   | (with_reducible exact engrosslaw3_begun.mono _)
   | (with_reducible exact LeO.refl _)
   | (with_reducible exact LeO.none _)
   | (with_reducible refine LeO.ite ?_ ?_)
   | (with_reducible refine LeO.bind ?_ (fun _ => ?_))
   | exact ih0 _ _
   | exact ih1 _ _ _ _
   | exact engrosslaw3_begun.mono _
   | exact LeO.none _
   | refine LeO.ite ?_ ?_
   | refine LeO.bind ?_ (fun _ => ?_)
theorem engrosslaw3_FloatAdd.mono : ∀ a0 a1 k, LeO (engrosslaw3_FloatAdd.f k a0 a1) (engrosslaw3_FloatAdd.f (k + 1) a0 a1) := by
 intro a0 a1 k
 obtain ⟨ih0, ih1⟩ := engrosslaw3_FloatAdd.mono_l k
 unfold engrosslaw3_FloatAdd.f
 repeat' first
   | (with_reducible exact ih0 _ _)
   | (with_reducible exact ih1 _ _ _ _)
   | (with_reducible exact engrosslaw3_begun.mono _)
   | (with_reducible exact LeO.refl _)
   | (with_reducible exact LeO.none _)
   | (with_reducible refine LeO.ite ?_ ?_)
   | (with_reducible refine LeO.bind ?_ (fun _ => ?_))
   | exact ih0 _ _
   | exact ih1 _ _ _ _
   | exact engrosslaw3_begun.mono _
   | exact LeO.none _
   | refine LeO.ite ?_ ?_
   | refine LeO.bind ?_ (fun _ => ?_)
set_option maxHeartbeats 8000000 in
set_option maxRecDepth 100000 in
theorem engrosslaw3_FloatAdd.calls (k : Nat) (P0_ : Nat → Prop) (A0 : Option Addr) (c0 : Nat) (l0 : List Int) (a1 : Int) (r : Bool) (w : World) (hs0 : Kd.V (Kd.int .u64) 22 w w.heap.size (fun k_ => P0_ k_) (.slice A0 l0.length c0) l0) (h : engrosslaw3_FloatAdd.f k l0 a1 = some r) :
  Calls Try.prog 14 #[.slice A0 l0.length c0, .int .u64 a1] w fun e w' => e = .returned (.bool r) ∧ Below w.heap.size w w' := by
 have HO0 := Aside0.mk (show Kd.V (Kd.int .u64) 22 w w.heap.size (fun k_ => (P0_ k_ ∨ w.heap.size ≤ k_)) (.slice A0 l0.length c0) l0 from Kd.V_mono hs0 (fun k_ hk => .inl hk))
 have HB := Aside0.mk (Below.refl w.heap.size w)
 have H : ((engrosslaw3_begun.f k).bind fun t338 => (if t338 = true then (if (l0.length : Int) > 20 then (if 20 ≤ (l0.length : Int) then (engrosslaw3_FloatAdd.j0 k (l0.take 20) a1) else (none)) else (engrosslaw3_FloatAdd.j0 k l0 a1)) else (none))) = some r := h
 clear h
 replace H := Option.bind_eq_some_iff.mp H
 obtain ⟨t338, A30, H⟩ := H
 replace H : (if t338 = true then (if (l0.length : Int) > 20 then (if 20 ≤ (l0.length : Int) then (engrosslaw3_FloatAdd.j0 k (l0.take 20) a1) else (none)) else (engrosslaw3_FloatAdd.j0 k l0 a1)) else (none)) = some r := H
 have A3 := Aside0.mk A30
 clear A30
 by_cases c4 : t338 = true
 ·subst c4
  have H1 : (if (l0.length : Int) > 20 then (if 20 ≤ (l0.length : Int) then (engrosslaw3_FloatAdd.j0 k (l0.take 20) a1) else (none)) else (engrosslaw3_FloatAdd.j0 k l0 a1)) = some r := by rw [if_pos rfl] at H; exact H
  clear H
  have H := H1
  clear H1
  have HC5 := Aside0.mk H
  clear H
  go_enter Try.func14, Try.ntmps14
  go_upto_if 15 with (first | ((with_reducible refine gate_callee (f := 15) rfl ?_); refine goesL_ (some 10) rfl rfl Try.func15 (by kernel_rfl) rfl #[] rfl (by (try simp only [List.map_toArray, List.map_cons, List.map_nil]); first | done | rfl | (simp only [List.length_drop, List.length_take]; rfl)) ?_; (with_reducible refine (engrosslaw3_begun.calls k  true _ A3.out).mono ?_); rintro e w6 ⟨rfl, hb⟩; refine ⟨_, rfl, ?_⟩; replace HO0 := Aside0.mk (Kd.V_below (by (with_reducible repeat (first | apply Kd.V_alloc | apply Kd.V_drewN | apply Kd.V_drew)); exact HO0.out) hb); replace HB := bW HB hb; (try clear hb); (try clear hb2); (try clear hk); (try clear hi)))
  (try simp only [Act.put, List.setIfInBounds_toArray, List.set_cons_zero, List.set_cons_succ])
  go_cut [0] (fun v0 wc => ∃ (kq : Nat) (x0_4 : List Int), Aside0 (engrosslaw3_FloatAdd.j0 kq x0_4 a1 = some r) ∧ Aside0 (kq ≤ k) ∧ Aside0 (Kd.V (Kd.int .u64) 22 wc w.heap.size (fun k_ => (P0_ k_ ∨ w.heap.size ≤ k_)) v0 x0_4) ∧ Aside0 (Below w.heap.size w wc))
  case first =>
   have H := HC5.out
   clear HC5
   by_cases c7 : (l0.length : Int) > 20
   ·rw [if_pos c7] at H
    have c7b0 : decide (20 < (l0.length : Int)) = true := decide_eq_true c7
    have c7b1 : decide (20 < l0.length) = true := decide_eq_true (by omega)
    clear c7
    (first | rw [c7b0] | (simp only [i64_w, i32_w]; rw [c7b0]) | skip)
    by_cases c8 : 20 ≤ (l0.length : Int)
    ·rw [if_pos c8] at H
     have c8b0 := eq_true c8
     have c8b1 : decide (20 ≤ (l0.length : Int)) = true := decide_eq_true c8
     clear c8
     obtain ⟨y339, hy339⟩ : ∃ y_ : List Int, y_ = (l0.take 20) := ⟨_, rfl⟩
     replace H : (engrosslaw3_FloatAdd.j0 k y339 a1) = some r := by first | (rw [hy339]; with_reducible exact H) | (have H2_ := (Option.bind_some _ _).symm.trans H; rw [hy339]; with_reducible exact H2_) | (have H2_ := (Option.bind_some _ _).symm.trans H; with_reducible exact H2_) | with_reducible exact H | (rw [hy339]; exact H) | exact H
     have Ny339 := Aside0.mk hy339
     clear hy339
     have H' := Aside0.mk H
     clear H
     have q9 : (20 : Int) ≤ ((l0.length : Int) : Int) := of_decide_eq_true (by first | (with_reducible assumption) | assumption)
     obtain ⟨i09, hi09, _, hsz9, _⟩ := info_parts info22
     have hroom9 : l0.length ≤ c0 := (Kd.V_reads' HO0.out).2.1
     have hC9 : Kd.F (Kd.int .u64) _ _ A0 l0.length l0 := (Kd.V_at (base := w.heap.size) HO0.out).2.2
     have hcut9 := cut_to (P := Try.prog) 38 22 .i64 Try.underlying38 hi09 A0 l0.length c0 20 (by omega) q9 hroom9
     have hr9 := Kd.F_take (m := 20) hC9 (by omega)
     have hy9 : y339.length = (20 : Int).toNat := (by rw [Ny339.out, List.length_take]; omega)
     rw [← Ny339.out] at hr9
     rw [← hy9] at hcut9
     have HO343 := Aside0.mk (show Kd.V (Kd.int .u64) 22 _ w.heap.size _ (.slice A0 y339.length c0) y339 from Kd.V_mk (by omega) hr9)
     have HC343 := Aside0.mk (show y339.length ≤ c0 from by omega)
     clear hr9 hC9 hroom9 hi09 hsz9
     have KY9 := Aside0.mk hy9
     clear hy9
     replace q9 := eq_true q9
     go_wp2
     go_meet
     case rel => exact ⟨_, (y339), H', ⟨by first | omega | exact Nat.le_refl _⟩, ⟨by (with_reducible repeat (first | apply Kd.V_alloc | apply Kd.V_drewN | apply Kd.V_drew)); exact HO343.out⟩, ⟨by repeat (first | (with_reducible first | exact HB.out | apply below_alloc | apply pw_below_drewN | apply below_drew1) | exact HB.out)⟩⟩
    ·rw [if_neg c8] at H
     exact absurd H (by simp)
   ·rw [if_neg c7] at H
    have c7b0 : decide (20 < (l0.length : Int)) = false := decide_eq_false c7
    have c7b1 : decide (20 < l0.length) = false := decide_eq_false (by omega)
    clear c7
    (first | rw [c7b0] | (simp only [i64_w, i32_w]; rw [c7b0]) | skip)
    have H' := Aside0.mk H
    clear H
    go_wp2
    go_meet
    case rel => exact ⟨_, (l0), H', ⟨by first | omega | exact Nat.le_refl _⟩, ⟨by (with_reducible repeat (first | apply Kd.V_alloc | apply Kd.V_drewN | apply Kd.V_drew)); exact HO0.out⟩, ⟨by repeat (first | (with_reducible first | exact HB.out | apply below_alloc | apply pw_below_drewN | apply below_drew1) | exact HB.out)⟩⟩
  case rest =>
   clear HC5
   try clear c1
   try clear p2
   try clear c4
   try clear c7
   try clear c7b0
   try clear c7b1
   try clear c8
   try clear c8b0
   try clear c8b1
   try clear q9
   try clear q9
   obtain ⟨kq, x0_4, HA, HJ4, HO_0, HB⟩ := hcut
   cases kq with
   | zero => exact absurd HA.out (by simp [engrosslaw3_FloatAdd.j0])
   | succ kj4 =>
    have H := HA.out
    clear HA
    simp only [engrosslaw3_FloatAdd.j0] at H
    have H' := Aside0.mk H
    clear H
    go_wp2
    go_loopg [6, 7] kj4 (fun kq v6 v7 w' => ∃ (x6_2 : List Nat) (x7_2 : Int), v7 = .int .i64 x7_2 ∧ Aside0 (engrosslaw3_FloatAdd.l0 kq x0_4 a1 x6_2 x7_2 = some r) ∧ Aside0 (kq ≤ kj4) ∧ Aside0 (Kd.V (Kd.int .u64) 22 w' w.heap.size (fun k_ => (P0_ k_ ∨ w.heap.size ≤ k_) ∧ some k_ ≠ (v6 : Value).ownBlock) u0 x0_4) ∧ Aside0 (Kd.R Kd.float 24 w' w.heap.size (fun k_ => (w.heap.size ≤ k_)) v6 x6_2) ∧ Aside0 (Below w.heap.size w w'))
    case atStart => exact ⟨(([] : List Nat)), (0), (by first | rfl | (simp; done) | (simp [*]; done)), H', ⟨Nat.le_refl _⟩, ⟨by (with_reducible repeat (first | apply Kd.V_alloc | apply Kd.V_drewN | apply Kd.V_drew)); exact Kd.V_mono HO_0.out (fun _ hk => ⟨hk, (by simp [Value.ownBlock])⟩)⟩, ⟨by first | exact Kd.R_nil _ _ _ _ _ | exact Kd.N_nil _ _ _ _ _ | exact Kd.V_nil _ _ _ _ _ | exact Kd.Q_nil _ _ _ _ _ | exact Kd.S_nil _ _ _ _ _⟩, ⟨by repeat (first | (with_reducible first | exact HB.out | apply below_alloc | apply pw_below_drewN | apply below_drew1) | exact HB.out)⟩⟩
    case round =>
     clear H'
     try clear c1
     try clear p2
     try clear c4
     try clear c7
     try clear c7b0
     try clear c7b1
     try clear c8
     try clear c8b0
     try clear c8b1
     try clear q9
     try clear p2
     try clear q9
     obtain ⟨x6_2, x7_2, rfl, HA, HK2, HO_0, HO_6, HB⟩ := hrel
     cases gk with
     | zero => exact absurd HA.out (by simp [engrosslaw3_FloatAdd.l0])
     | succ k2 =>
      have H := HA.out
      clear HA
      simp only [engrosslaw3_FloatAdd.l0] at H
      by_cases c10 : x7_2 < (x0_4.length : Int)
      ·rw [if_pos c10] at H
       have c10b0 : decide (x7_2 < (x0_4.length : Int)) = true := decide_eq_true c10
       clear c10
       by_cases c11 : 0 ≤ x7_2
       ·rw [if_pos c11] at H
        have c11b0 : decide (0 ≤ x7_2) = true := decide_eq_true c11
        clear c11
        replace H := Option.bind_eq_some_iff.mp H
        obtain ⟨t345, A120, H⟩ := H
        replace H : (if x6_2.length < 17592186044416 then (engrosslaw3_FloatAdd.l0 k2 x0_4 a1 (x6_2 ++ [t345]) (wrap64 (x7_2 + 1))) else (none)) = some r := H
        have A12 := Aside0.mk A120
        clear A120
        by_cases c13 : x6_2.length < 17592186044416
        ·rw [if_pos c13] at H
         have LMc13 := Aside0.mk c13
         clear c13
         obtain ⟨y346, hy346⟩ : ∃ y_ : List Nat, y_ = (x6_2 ++ [t345]) := ⟨_, rfl⟩
         replace H : (engrosslaw3_FloatAdd.l0 k2 x0_4 a1 y346 (wrap64 (x7_2 + 1))) = some r := by first | (rw [hy346]; with_reducible exact H) | (have H2_ := (Option.bind_some _ _).symm.trans H; rw [hy346]; with_reducible exact H2_) | (have H2_ := (Option.bind_some _ _).symm.trans H; with_reducible exact H2_) | with_reducible exact H | (rw [hy346]; exact H) | exact H
         have Ny346 := Aside0.mk hy346
         clear hy346
         have H' := Aside0.mk H
         clear H
         obtain ⟨Ao14, co14, eo14⟩ := Kd.V_slice HO_0.out
         subst eo14
         have p344 : 0 ≤ (x7_2 : Int) := of_decide_eq_true (by first | (with_reducible assumption) | assumption)
         have q344 : x7_2 < (x0_4.length : Int) := of_decide_eq_true (by first | (with_reducible assumption) | assumption)
         obtain ⟨ad344, e344, hx344_0⟩ := Kd.at_int (Kd.V_reads' HO_0.out).2.2 x7_2 p344 q344
         cases e344
         replace p344 := eq_true p344
         replace q344 := eq_true q344
         go_wp2_with (first | ((with_reducible refine gate_callee (f := 16) rfl ?_); refine goesL_ (some 29) rfl rfl Try.func16 (by kernel_rfl) rfl #[.int .u64 (rd x0_4 x7_2)] rfl (by (try simp only [List.map_toArray, List.map_cons, List.map_nil]); first | done | rfl | (simp only [List.length_drop, List.length_take]; rfl)) ?_; (with_reducible refine (engrosslaw3_of.calls (rd x0_4 x7_2) t345 _ A12.out).mono ?_); rintro e w' ⟨rfl, ⟨nd, rfl⟩⟩; refine ⟨_, rfl, ?_⟩) | ((with_reducible refine gate_builtin (b := .append) (xs := #[.tmp 24, .tmp 30]) rfl ?_); at_builtin; refine Kd.R_append Kd.float (w0 := w) w.heap.size rfl (.tmp 24) (.tmp 30) 39 24 (.float .f64 0) 8 rfl Try.underlying39 info24 rfl (by decide) (by omega) u6 x6_2 t345 [.float .f64 t345] (fun k_ => (w.heap.size ≤ k_)) (fun _ => False) rfl rfl ?aP (fun _ hk => hk.elim) ?aF ?aO ?aB ?aS ?aL ?_; (case aP => exact rfl); (case aB => exact (bC HB)); (case aF => exact (fun k_ hk => (Nat.le_trans (below_size (bC HB)) hk))); (case aO => exact (by (with_reducible repeat (first | apply Kd.R_alloc | apply Kd.R_drewN | apply Kd.R_drew)); exact HO_6.out)); (case aS => exact (below_size (bC HB))); (case aL => have := LMc13.out; omega); intro v347 w15 ho hb hg hat; rw [← Ny346.out] at ho; have HO348 := Aside0.mk (ho); replace HO_0 := Aside0.mk (Kd.V_afterv (ok := (fun k_ => (P0_ k_ ∨ w.heap.size ≤ k_))) (by (with_reducible repeat (first | apply Kd.V_alloc | apply Kd.V_drewN | apply Kd.V_drew)); exact HO_0.out) hg hat); replace HB := Aside0.mk (hb); clear HO_6; clear ho hb hg hat))
         go_roundg k2
         case measure => have := HJ4.out; have := HK2.out; omega
         case rel => exact ⟨(y346), (wrap64 (x7_2 + 1)), (by first | rfl | (simp; done) | (simp [*]; done)), H', ⟨by have := HJ4.out; have := HK2.out; omega⟩, ⟨by (with_reducible repeat (first | apply Kd.V_alloc | apply Kd.V_drewN | apply Kd.V_drew)); exact HO_0.out⟩, ⟨by (with_reducible repeat (first | apply Kd.R_alloc | apply Kd.R_drewN | apply Kd.R_drew)); exact HO348.out⟩, ⟨by repeat (first | (with_reducible first | exact HB.out | apply below_alloc | apply pw_below_drewN | apply below_drew1) | exact HB.out)⟩⟩
        ·rw [if_neg c13] at H
         exact absurd H (by simp)
       ·rw [if_neg c11] at H
        exact absurd H (by simp)
      ·rw [if_neg c10] at H
       have c10b0 : decide (x7_2 < (x0_4.length : Int)) = false := decide_eq_false c10
       clear c10
       replace H := Option.bind_eq_some_iff.mp H
       obtain ⟨t349, A160, H⟩ := H
       replace H : (if ([] : List Nat).length + x6_2.length < 17592186044416 then ((some (([] : List Nat) ++ x6_2 : List Nat)).bind fun y350 => ((engrosslaw3_of.f a1).bind fun t353 => (if y350.length < 17592186044416 then ((float_Sum.f (y350 ++ [t353])).bind fun t357 => ((engrosslaw3_of.f a1).bind fun t358 => ((engrossref1_Clean.f (addF t349 t358)).bind fun t359 => ((engrossref1_Bits.f t357 t359).bind fun t360 => (some t360))))) else (none)))) else (none)) = some r := H
       have A16 := Aside0.mk A160
       clear A160
       by_cases c17 : ([] : List Nat).length + x6_2.length < 17592186044416
       ·rw [if_pos c17] at H
        have LMc17 := Aside0.mk c17
        clear c17
        obtain ⟨y350, hy350⟩ : ∃ y_ : List Nat, y_ = (([] : List Nat) ++ x6_2) := ⟨_, rfl⟩
        replace H : ((engrosslaw3_of.f a1).bind fun t353 => (if y350.length < 17592186044416 then ((float_Sum.f (y350 ++ [t353])).bind fun t357 => ((engrosslaw3_of.f a1).bind fun t358 => ((engrossref1_Clean.f (addF t349 t358)).bind fun t359 => ((engrossref1_Bits.f t357 t359).bind fun t360 => (some t360))))) else (none))) = some r := by first | (rw [hy350]; with_reducible exact H) | (have H2_ := (Option.bind_some _ _).symm.trans H; rw [hy350]; with_reducible exact H2_) | (have H2_ := (Option.bind_some _ _).symm.trans H; with_reducible exact H2_) | with_reducible exact H | (rw [hy350]; exact H) | exact H
        have Ny350 := Aside0.mk hy350
        clear hy350
        replace H := Option.bind_eq_some_iff.mp H
        obtain ⟨t353, A180, H⟩ := H
        replace H : (if y350.length < 17592186044416 then ((float_Sum.f (y350 ++ [t353])).bind fun t357 => ((engrosslaw3_of.f a1).bind fun t358 => ((engrossref1_Clean.f (addF t349 t358)).bind fun t359 => ((engrossref1_Bits.f t357 t359).bind fun t360 => (some t360))))) else (none)) = some r := H
        have A18 := Aside0.mk A180
        clear A180
        by_cases c19 : y350.length < 17592186044416
        ·rw [if_pos c19] at H
         have LMc19 := Aside0.mk c19
         clear c19
         obtain ⟨y354, hy354⟩ : ∃ y_ : List Nat, y_ = (y350 ++ [t353]) := ⟨_, rfl⟩
         replace H : ((float_Sum.f y354).bind fun t357 => ((engrosslaw3_of.f a1).bind fun t358 => ((engrossref1_Clean.f (addF t349 t358)).bind fun t359 => ((engrossref1_Bits.f t357 t359).bind fun t360 => (some t360))))) = some r := by first | (rw [hy354]; with_reducible exact H) | (have H2_ := (Option.bind_some _ _).symm.trans H; rw [hy354]; with_reducible exact H2_) | (have H2_ := (Option.bind_some _ _).symm.trans H; with_reducible exact H2_) | with_reducible exact H | (rw [hy354]; exact H) | exact H
         have Ny354 := Aside0.mk hy354
         clear hy354
         replace H := Option.bind_eq_some_iff.mp H
         obtain ⟨t357, A200, H⟩ := H
         replace H : ((engrosslaw3_of.f a1).bind fun t358 => ((engrossref1_Clean.f (addF t349 t358)).bind fun t359 => ((engrossref1_Bits.f t357 t359).bind fun t360 => (some t360)))) = some r := H
         have A20 := Aside0.mk A200
         clear A200
         replace H := Option.bind_eq_some_iff.mp H
         obtain ⟨t358, A210, H⟩ := H
         replace H : ((engrossref1_Clean.f (addF t349 t358)).bind fun t359 => ((engrossref1_Bits.f t357 t359).bind fun t360 => (some t360))) = some r := H
         have A21 := Aside0.mk A210
         clear A210
         have EA21 := Option.some.inj (A18.out.symm.trans A21.out)
         subst EA21
         replace H := Option.bind_eq_some_iff.mp H
         obtain ⟨t359, A220, H⟩ := H
         replace H : ((engrossref1_Bits.f t357 t359).bind fun t360 => (some t360)) = some r := H
         have A22 := Aside0.mk A220
         clear A220
         replace H := Option.bind_eq_some_iff.mp H
         obtain ⟨t360, A230, H⟩ := H
         replace H : (some t360) = some r := H
         have A23 := Aside0.mk A230
         clear A230
         obtain rfl := Option.some.inj H
         obtain ⟨Ao24, co24, eo24⟩ := Kd.V_slice HO_0.out
         subst eo24
         obtain ⟨Ao25, co25, eo25⟩ := Kd.R_slice HO_6.out
         subst eo25
         go_wp2_with (first | (refine upon_add ?_; intro q900 nq900 hq900) | ((with_reducible refine gate_callee (f := 29) rfl ?_); refine goesL_ (some 33) rfl rfl Try.func29 (by kernel_rfl) rfl #[.slice Ao25 x6_2.length co25] rfl (by (try simp only [List.map_toArray, List.map_cons, List.map_nil]); first | done | rfl | (simp only [List.length_drop, List.length_take]; rfl)) ?_; (with_reducible refine (float_Sum.calls _ _ x6_2 t349 _ ?side1 ?side2 A16.out).mono ?_); (case side1 => repeat (first | exact (Kd.R_reads' HO_6.out).2.2 | (with_reducible refine Kd.C_alloc ?_ _) | (with_reducible refine Kd.C_drewN ?_ _) | (with_reducible refine Kd.C_drew ?_))); (case side2 => exact (Kd.R_reads' HO_6.out).2.1); rintro e w' ⟨rfl, ⟨nd, rfl⟩⟩; refine ⟨_, rfl, ?_⟩) | ((with_reducible refine gate_builtin (b := .append) (xs := #[.const (.slice none 0 0), .tmp 34]) rfl ?_); at_builtin; refine Kd.R_append_rows Kd.float (w0 := w) w.heap.size rfl (.const (.slice none 0 0)) (.tmp 34) 39 24 (.float .f64 0) 8 rfl Try.underlying39 info24 rfl (by decide) (by omega) (.slice none 0 0) ([] : List Nat) x6_2 _ _ _ (fun k_ => (w.heap.size ≤ k_) ∧ some k_ ≠ (.slice Ao25 x6_2.length co25 : Value).ownBlock) (fun _ => False) rfl rfl ?aO ?aR (fun _ _ h => h) (fun _ h => h.elim) ?aF ?aB ?aS ?aL ?_; (case aR => repeat (first | exact (Kd.R_reads' HO_6.out).2.2 | (with_reducible refine Kd.C_alloc ?_ _) | (with_reducible refine Kd.C_drewN ?_ _) | (with_reducible refine Kd.C_drew ?_))); (case aB => exact (bC HB)); (case aF => exact (fun k_ hk => ⟨(Nat.le_trans (below_size (bC HB)) hk), Kd.fresh' (Kd.R_lt (by (with_reducible repeat (first | apply Kd.R_alloc | apply Kd.R_drewN | apply Kd.R_drew)); exact HO_6.out)) k_ hk⟩)); (case aO => exact ((Kd.R_nil _ _ _ _ (fun k_ => (w.heap.size ≤ k_) ∧ some k_ ≠ (.slice Ao25 x6_2.length co25 : Value).ownBlock)))); (case aS => exact (below_size (bC HB))); (case aL => have := LMc17.out; omega); intro v351 w26 ho hb hg hat; rw [← Ny350.out] at ho; have HO352 := Aside0.mk (ho); replace HO_0 := Aside0.mk (Kd.V_afterv (Kd.V_apart_nil (by (with_reducible repeat (first | apply Kd.V_alloc | apply Kd.V_drewN | apply Kd.V_drew)); exact HO_0.out)) hg hat); replace HO_6 := Aside0.mk (Kd.R_after (Kd.R_apart_nil (by (with_reducible repeat (first | apply Kd.R_alloc | apply Kd.R_drewN | apply Kd.R_drew)); exact HO_6.out)) hg hat); replace HB := Aside0.mk (hb); clear ho hb hg hat) | ((with_reducible refine gate_callee (f := 16) rfl ?_); refine goesL_ (some 37) rfl rfl Try.func16 (by kernel_rfl) rfl #[.int .u64 a1] rfl (by (try simp only [List.map_toArray, List.map_cons, List.map_nil]); first | done | rfl | (simp only [List.length_drop, List.length_take]; rfl)) ?_; (with_reducible refine (engrosslaw3_of.calls a1 t353 _ A18.out).mono ?_); rintro e w' ⟨rfl, ⟨nd, rfl⟩⟩; refine ⟨_, rfl, ?_⟩) | ((with_reducible refine gate_builtin (b := .append) (xs := #[.tmp 35, .tmp 38]) rfl ?_); at_builtin; refine Kd.R_append Kd.float (w0 := w) w.heap.size rfl (.tmp 35) (.tmp 38) 39 24 (.float .f64 0) 8 rfl Try.underlying39 info24 rfl (by decide) (by omega) v351 y350 t353 [.float .f64 t353] (fun k_ => (w.heap.size ≤ k_) ∧ some k_ ≠ (.slice Ao25 x6_2.length co25 : Value).ownBlock) (fun _ => False) rfl rfl ?aP (fun _ hk => hk.elim) ?aF ?aO ?aB ?aS ?aL ?_; (case aP => exact rfl); (case aB => exact (bC HB)); (case aF => exact (fun k_ hk => ⟨(Nat.le_trans (below_size (bC HB)) hk), Kd.fresh' (Kd.R_lt (by (with_reducible repeat (first | apply Kd.R_alloc | apply Kd.R_drewN | apply Kd.R_drew)); exact HO_6.out)) k_ hk⟩)); (case aO => exact (by (with_reducible repeat (first | apply Kd.R_alloc | apply Kd.R_drewN | apply Kd.R_drew)); exact HO352.out)); (case aS => exact (below_size (bC HB))); (case aL => have := LMc19.out; omega); intro v355 w27 ho hb hg hat; rw [← Ny354.out] at ho; have HO356 := Aside0.mk (ho); replace HO_0 := Aside0.mk (Kd.V_afterv (ok := (fun k_ => (P0_ k_ ∨ w.heap.size ≤ k_) ∧ some k_ ≠ (.slice Ao25 x6_2.length co25 : Value).ownBlock)) (by (with_reducible repeat (first | apply Kd.V_alloc | apply Kd.V_drewN | apply Kd.V_drew)); exact HO_0.out) hg hat); replace HO_6 := Aside0.mk (Kd.R_after (ok := (fun k_ => (w.heap.size ≤ k_))) (by (with_reducible repeat (first | apply Kd.R_alloc | apply Kd.R_drewN | apply Kd.R_drew)); exact HO_6.out) hg hat); replace HB := Aside0.mk (hb); clear HO352; clear ho hb hg hat; obtain ⟨Ao28, co28, eo28⟩ := Kd.R_slice HO356.out; subst eo28) | ((with_reducible refine gate_callee (f := 29) rfl ?_); refine goesL_ (some 40) rfl rfl Try.func29 (by kernel_rfl) rfl #[.slice Ao28 y354.length co28] rfl (by (try simp only [List.map_toArray, List.map_cons, List.map_nil]); first | done | rfl | (simp only [List.length_drop, List.length_take]; rfl)) ?_; (with_reducible refine (float_Sum.calls _ _ y354 t357 _ ?side1 ?side2 A20.out).mono ?_); (case side1 => repeat (first | exact (Kd.R_reads' HO356.out).2.2 | (with_reducible refine Kd.C_alloc ?_ _) | (with_reducible refine Kd.C_drewN ?_ _) | (with_reducible refine Kd.C_drew ?_))); (case side2 => exact (Kd.R_reads' HO356.out).2.1); rintro e w' ⟨rfl, ⟨nd, rfl⟩⟩; refine ⟨_, rfl, ?_⟩) | ((with_reducible refine gate_callee (f := 16) rfl ?_); refine goesL_ (some 44) rfl rfl Try.func16 (by kernel_rfl) rfl #[.int .u64 a1] rfl (by (try simp only [List.map_toArray, List.map_cons, List.map_nil]); first | done | rfl | (simp only [List.length_drop, List.length_take]; rfl)) ?_; (with_reducible refine (engrosslaw3_of.calls a1 t353 _ A21.out).mono ?_); rintro e w' ⟨rfl, ⟨nd, rfl⟩⟩; refine ⟨_, rfl, ?_⟩) | ((with_reducible refine gate_callee (f := 24) rfl ?_); refine goesL_ (some 46) rfl rfl Try.func24 (by kernel_rfl) rfl #[.float .f64 q900] rfl (by (try simp only [List.map_toArray, List.map_cons, List.map_nil]); first | done | rfl | (simp only [List.length_drop, List.length_take]; rfl)) ?_; (with_reducible refine (engrossref1_Clean.calls q900 t359 _ (clean_like hq900 A22.out)).mono ?_); rintro e w' ⟨rfl, ⟨nd, rfl⟩⟩; refine ⟨_, rfl, ?_⟩) | ((with_reducible refine gate_callee (f := 23) rfl ?_); refine goesL_ (some 47) rfl rfl Try.func23 (by kernel_rfl) rfl #[.float .f64 t357, .float .f64 t359] rfl (by (try simp only [List.map_toArray, List.map_cons, List.map_nil]); first | done | rfl | (simp only [List.length_drop, List.length_take]; rfl)) ?_; (with_reducible refine (engrossref1_Bits.calls t357 t359 t360 _ A23.out).mono ?_); rintro e w' ⟨rfl, ⟨nd, rfl⟩⟩; refine ⟨_, rfl, ?_⟩))
         go_ret
         exact ⟨by first | rfl | (simp [errW_none, errW_some] <;> rfl) | (simp [*, errW_none, errW_some] <;> rfl), by repeat (first | (with_reducible first | exact HB.out | apply below_alloc | apply pw_below_drewN | apply below_drew1) | exact HB.out)⟩
        ·rw [if_neg c19] at H
         exact absurd H (by simp)
       ·rw [if_neg c17] at H
        exact absurd H (by simp)
 ·replace c4 := Bool.eq_false_iff.mpr c4
  subst c4
  have H1 : (none) = some r := by rw [if_neg (show ¬ (false = true) by decide)] at H; exact H
  clear H
  have H := H1
  clear H1
  exact absurd H (by simp)

/-- THE ONE PURE STATEMENT of engrosslaw3_FloatAdd: yours. -/
def engrosslaw3_FloatAdd.Pure : Prop := ∀ (l0 : List Int) (a1 : Int), l0.length ≤ maxLen → l0.length * 8 ≤ 140737488351232 → (∀ x ∈ l0, (Lit.int .u64 x).wf = true) → (Lit.int .u64 a1).wf = true → ∃ k, engrosslaw3_FloatAdd.f k l0 a1 = some true
theorem engrosslaw3_FloatAdd.walk (P : engrosslaw3_FloatAdd.Pure) (a0 : Option Addr) (len0 cap0 : Nat) (z0 : List Int) (a1 : Int) (w : World) (w0 : (a0 = none ∧ len0 = 0 ∧ cap0 = 0 ∧ z0 = []) ∨ ∃ x, a0 = some x ∧ len0 ≤ cap0 ∧ cap0 ≤ maxLen ∧ z0.length = cap0 ∧ (∀ i, i < z0.length → w.cell? (x.add i) = some (.int .u64 (z0.getD i 0))) ∧ ∀ n ∈ z0, (Lit.int .u64 n).wf = true) (y0 : len0 * 8 ≤ 140737488351232) (w1 : (Lit.int .u64 a1).wf = true) :
  Calls Try.prog 14 #[.slice a0 len0 cap0, .int .u64 a1] w fun e w' => e = .returned (.bool true) ∧ Below w.heap.size w w' := by
 obtain ⟨l0, rfl, hr0, hm0, hw0, hc0⟩ := ReadsInt.ofRowC w0
 obtain ⟨k, h⟩ := P l0 a1 hm0 y0 hw0 w1
 refine (engrosslaw3_FloatAdd.calls k (fun k_ => k_ < w.heap.size) _ _ l0 a1 true w (Kd.V_mk hc0 (Kd.C_F (Kd.heap_int .u64) (Kd.C_of_reads (d := (0 : Int)) (h1 := fun _ => rfl) hr0))) h).mono ?_
 rintro e w' ⟨rfl, hd⟩
 exact ⟨rfl, hd⟩

end Go.Proofs.Ytaphfjfalbeojaa.P
