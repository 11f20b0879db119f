/- Functions of the program as Lean functions, and that each call answers as its function does. No condition. (Lines written by a generator of this session.) -/
import Derived.Test.YtaphfjfalbeojaaPx0
import Derived.Test.YtaphfjfalbeojaaPx1
import Derived.Test.YtaphfjfalbeojaaPx2
import Derived.Test.YtaphfjfalbeojaaXF
namespace Go.Proofs.Ytaphfjfalbeojaa.P
open Go.RowKit Go.Proofs.YtaphfjfalbeojaaW.PrintWords Go.Proofs.YtaphfjfalbeojaaW.PrintLast Go.Proofs.YtaphfjfalbeojaaW.PrintMore
attribute [local go_sem] max2_int min2_int max_two min_two max_three min_three max_four min_four   -- for this text's walks alone
attribute [local go_sem] x_str_gtr x_str_leq x_str_geq ext_bits ext_frombits ext_neg Instr.field asAgg
set_option linter.unusedVariables false
set_option linter.unusedSimpArgs false

/-! ### engrosslaw3_FloatEdges: function 8 -/
mutual
def engrosslaw3_FloatEdges.j0 : Nat → List Int → Bool → Bool → Bool → Option (Bool)
 | 0, _, _, _, _ => none
 | k + 1, x0, x1, x2, x3 => engrosslaw3_FloatEdges.l0 k x0 x1 x2 x3 ([] : List Nat) 0
def engrosslaw3_FloatEdges.l0 : Nat → List Int → Bool → Bool → Bool → List Nat → Int → Option (Bool)
 | 0, _, _, _, _, _, _ => none
 | k + 1, x0, x1, x2, x3, x10, x11 => if x11 < (x0.length : Int) then (if 0 ≤ x11 then ((engrosslaw3_of.f (Go.bits .and .u64 (rd x0 x11) 9227875636482146303)).bind fun t246 => (if x10.length < 17592186044416 then (engrosslaw3_FloatEdges.l0 k x0 x1 x2 x3 (x10 ++ [t246]) (wrap64 (x11 + 1))) else (none))) else (none)) else (if x2 = true then ((engrosslaw3_of.f 9218868437227405312).bind fun t250 => (if x10.length < 17592186044416 then (engrosslaw3_FloatEdges.j2 k x1 x2 x3 (x10 ++ [t250])) else (none))) else (engrosslaw3_FloatEdges.j2 k x1 x2 x3 x10))
def engrosslaw3_FloatEdges.j2 : Nat → Bool → Bool → Bool → List Nat → Option (Bool)
 | 0, _, _, _, _ => none
 | k + 1, x1, x2, x3, x10 => if x3 = true then ((engrosslaw3_of.f 18442240474082181120).bind fun t254 => (if x10.length < 17592186044416 then (engrosslaw3_FloatEdges.j3 k x1 x2 x3 (x10 ++ [t254])) else (none))) else (engrosslaw3_FloatEdges.j3 k x1 x2 x3 x10)
def engrosslaw3_FloatEdges.j3 : Nat → Bool → Bool → Bool → List Nat → Option (Bool)
 | 0, _, _, _, _ => none
 | k + 1, x1, x2, x3, x10 => if x1 = true then ((engrosslaw3_of.f 9218868437227405319).bind fun t258 => (if x10.length < 17592186044416 then (engrosslaw3_FloatEdges.j4 k x1 x2 x3 (x10 ++ [t258])) else (none))) else (engrosslaw3_FloatEdges.j4 k x1 x2 x3 x10)
def engrosslaw3_FloatEdges.j4 : Nat → Bool → Bool → Bool → List Nat → Option (Bool)
 | 0, _, _, _, _ => none
 | k + 1, x1, x2, x3, x10 => (float_Sum.f x10).bind fun t262 => (if x1 = true then (engrosslaw3_FloatEdges.j5 k x2 x3 t262 true) else (if x2 = true then (engrosslaw3_FloatEdges.j5 k x2 x3 t262 x3) else (engrosslaw3_FloatEdges.j5 k x2 x3 t262 false)))
def engrosslaw3_FloatEdges.j5 : Nat → Bool → Bool → Nat → Bool → Option (Bool)
 | 0, _, _, _, _ => none
 | k + 1, x2, x3, x12, x53 => if x53 = true then ((engrosslaw3_of.f 9221120237041090560).bind fun t263 => ((engrossref1_Bits.f x12 t263).bind fun t264 => (some t264))) else (if x2 = true then ((engrosslaw3_of.f 9218868437227405312).bind fun t265 => ((engrossref1_Bits.f x12 t265).bind fun t266 => (some t266))) else (if x3 = true then ((engrosslaw3_of.f 18442240474082181120).bind fun t267 => ((engrossref1_Bits.f x12 t267).bind fun t268 => (some t268))) else ((engrossref1_NaN.f x12).bind fun t269 => (if t269 = true then (none) else (if (FloatKind.f64.format.order x12 4607182418800017408 == some .lt) = true then (some (FloatKind.f64.format.order x12 13830554455654793216 == some .gt)) else (none))))))
end
def engrosslaw3_FloatEdges.f (k : Nat) (l0 : List Int) (a1 : Bool) (a2 : Bool) (a3 : Bool) : Option (Bool) := (engrosslaw3_begun.f k).bind fun t239 => (if t239 = true then (if (l0.length : Int) > 20 then (if 20 ≤ (l0.length : Int) then (engrosslaw3_FloatEdges.j0 k (l0.take 20) a1 a2 a3) else (none)) else (engrosslaw3_FloatEdges.j0 k l0 a1 a2 a3)) else (none))
theorem engrosslaw3_FloatEdges.mono_l : ∀ k, (∀ y0 y1 y2 y3, LeO (engrosslaw3_FloatEdges.j0 k y0 y1 y2 y3) (engrosslaw3_FloatEdges.j0 (k + 1) y0 y1 y2 y3)) ∧ (∀ y0 y1 y2 y3 y4 y5, LeO (engrosslaw3_FloatEdges.l0 k y0 y1 y2 y3 y4 y5) (engrosslaw3_FloatEdges.l0 (k + 1) y0 y1 y2 y3 y4 y5)) ∧ (∀ y0 y1 y2 y3, LeO (engrosslaw3_FloatEdges.j2 k y0 y1 y2 y3) (engrosslaw3_FloatEdges.j2 (k + 1) y0 y1 y2 y3)) ∧ (∀ y0 y1 y2 y3, LeO (engrosslaw3_FloatEdges.j3 k y0 y1 y2 y3) (engrosslaw3_FloatEdges.j3 (k + 1) y0 y1 y2 y3)) ∧ (∀ y0 y1 y2 y3, LeO (engrosslaw3_FloatEdges.j4 k y0 y1 y2 y3) (engrosslaw3_FloatEdges.j4 (k + 1) y0 y1 y2 y3)) ∧ (∀ y0 y1 y2 y3, LeO (engrosslaw3_FloatEdges.j5 k y0 y1 y2 y3) (engrosslaw3_FloatEdges.j5 (k + 1) y0 y1 y2 y3))
 | 0 => ⟨fun _ _ _ _ r h => by simp [engrosslaw3_FloatEdges.j0] at h, fun _ _ _ _ _ _ r h => by simp [engrosslaw3_FloatEdges.l0] at h, fun _ _ _ _ r h => by simp [engrosslaw3_FloatEdges.j2] at h, fun _ _ _ _ r h => by simp [engrosslaw3_FloatEdges.j3] at h, fun _ _ _ _ r h => by simp [engrosslaw3_FloatEdges.j4] at h, fun _ _ _ _ r h => by simp [engrosslaw3_FloatEdges.j5] at h⟩
 | k + 1 => by
  obtain ⟨ih0, ih1, ih2, ih3, ih4, ih5⟩ := engrosslaw3_FloatEdges.mono_l k
  refine ⟨?_, ?_, ?_, ?_, ?_, ?_⟩
  ·intro y0 y1 y2 y3
   unfold engrosslaw3_FloatEdges.j0
   repeat' first
   | (with_reducible exact ih0 _ _ _ _)
   | (with_reducible exact ih1 _ _ _ _ _ _)
   | (with_reducible exact ih2 _ _ _ _)
   | (with_reducible exact ih3 _ _ _ _)
   | (with_reducible exact ih4 _ _ _ _)
   | (with_reducible exact ih5 _ _ _ _)
   | (with_reducible exact engrosslaw3_begun.mono _)
   | (with_reducible exact LeO.refl _)
   | (with_reducible exact LeO.none _)
   | (with_reducible refine LeO.ite ?_ ?_)
   | (with_reducible refine LeO.bind ?_ (fun _ => ?_))
   | exact ih0 _ _ _ _
   | exact ih1 _ _ _ _ _ _
   | exact ih2 _ _ _ _
   | exact ih3 _ _ _ _
   | exact ih4 _ _ _ _
   | exact ih5 _ _ _ _
   | exact engrosslaw3_begun.mono _
   | exact LeO.none _
   | refine LeO.ite ?_ ?_
   | refine LeO.bind ?_ (fun _ => ?_)
  ·intro y0 y1 y2 y3 y4 y5
   unfold engrosslaw3_FloatEdges.l0
   repeat' first
   | (with_reducible exact ih0 _ _ _ _)
   | (with_reducible exact ih1 _ _ _ _ _ _)
   | (with_reducible exact ih2 _ _ _ _)
   | (with_reducible exact ih3 _ _ _ _)
   | (with_reducible exact ih4 _ _ _ _)
   | (with_reducible exact ih5 _ _ _ _)
   | (with_reducible exact engrosslaw3_begun.mono _)
   | (with_reducible exact LeO.refl _)
   | (with_reducible exact LeO.none _)
   | (with_reducible refine LeO.ite ?_ ?_)
   | (with_reducible refine LeO.bind ?_ (fun _ => ?_))
   | exact ih0 _ _ _ _
   | exact ih1 _ _ _ _ _ _
   | exact ih2 _ _ _ _
   | exact ih3 _ _ _ _
   | exact ih4 _ _ _ _
   | exact ih5 _ _ _ _
   | exact engrosslaw3_begun.mono _
   | exact LeO.none _
   | refine LeO.ite ?_ ?_
   | refine LeO.bind ?_ (fun _ => ?_)
  ·intro y0 y1 y2 y3
   unfold engrosslaw3_FloatEdges.j2
   repeat' first
   | (with_reducible exact ih0 _ _ _ _)
   | (with_reducible exact ih1 _ _ _ _ _ _)
   | (with_reducible exact ih2 _ _ _ _)
   | (with_reducible exact ih3 _ _ _ _)
   | (with_reducible exact ih4 _ _ _ _)
   | (with_reducible exact ih5 _ _ _ _)
   | (with_reducible exact engrosslaw3_begun.mono _)
   | (with_reducible exact LeO.refl _)
   | (with_reducible exact LeO.none _)
   | (with_reducible refine LeO.ite ?_ ?_)
   | (with_reducible refine LeO.bind ?_ (fun _ => ?_))
   | exact ih0 _ _ _ _
   | exact ih1 _ _ _ _ _ _
   | exact ih2 _ _ _ _
   | exact ih3 _ _ _ _
   | exact ih4 _ _ _ _
   | exact ih5 _ _ _ _
   | exact engrosslaw3_begun.mono _
   | exact LeO.none _
   | refine LeO.ite ?_ ?_
   | refine LeO.bind ?_ (fun _ => ?_)
  ·intro y0 y1 y2 y3
   unfold engrosslaw3_FloatEdges.j3
   repeat' first
   | (with_reducible exact ih0 _ _ _ _)
   | (with_reducible exact ih1 _ _ _ _ _ _)
   | (with_reducible exact ih2 _ _ _ _)
   | (with_reducible exact ih3 _ _ _ _)
   | (with_reducible exact ih4 _ _ _ _)
   | (with_reducible exact ih5 _ _ _ _)
   | (with_reducible exact engrosslaw3_begun.mono _)
   | (with_reducible exact LeO.refl _)
   | (with_reducible exact LeO.none _)
   | (with_reducible refine LeO.ite ?_ ?_)
   | (with_reducible refine LeO.bind ?_ (fun _ => ?_))
   | exact ih0 _ _ _ _
   | exact ih1 _ _ _ _ _ _
   | exact ih2 _ _ _ _
   | exact ih3 _ _ _ _
   | exact ih4 _ _ _ _
   | exact ih5 _ _ _ _
   | exact engrosslaw3_begun.mono _
   | exact LeO.none _
   | refine LeO.ite ?_ ?_
   | refine LeO.bind ?_ (fun _ => ?_)
  ·intro y0 y1 y2 y3
   unfold engrosslaw3_FloatEdges.j4
   repeat' first
   | (with_reducible exact ih0 _ _ _ _)
   | (with_reducible exact ih1 _ _ _ _ _ _)
   | (with_reducible exact ih2 _ _ _ _)
   | (with_reducible exact ih3 _ _ _ _)
   | (with_reducible exact ih4 _ _ _ _)
   | (with_reducible exact ih5 _ _ _ _)
   | (with_reducible exact engrosslaw3_begun.mono _)
   | (with_reducible exact LeO.refl _)
   | (with_reducible exact LeO.none _)
   | (with_reducible refine LeO.ite ?_ ?_)
   | (with_reducible refine LeO.bind ?_ (fun _ => ?_))
   | exact ih0 _ _ _ _
   | exact ih1 _ _ _ _ _ _
   | exact ih2 _ _ _ _
   | exact ih3 _ _ _ _
   | exact ih4 _ _ _ _
   | exact ih5 _ _ _ _
   | exact engrosslaw3_begun.mono _
   | exact LeO.none _
   | refine LeO.ite ?_ ?_
   | refine LeO.bind ?_ (fun _ => ?_)
  ·intro y0 y1 y2 y3
   unfold engrosslaw3_FloatEdges.j5
   repeat' first
   | (with_reducible exact ih0 _ _ _ _)
   | (with_reducible exact ih1 _ _ _ _ _ _)
   | (with_reducible exact ih2 _ _ _ _)
   | (with_reducible exact ih3 _ _ _ _)
   | (with_reducible exact ih4 _ _ _ _)
   | (with_reducible exact ih5 _ _ _ _)
   | (with_reducible exact engrosslaw3_begun.mono _)
   | (with_reducible exact LeO.refl _)
   | (with_reducible exact LeO.none _)
   | (with_reducible refine LeO.ite ?_ ?_)
   | (with_reducible refine LeO.bind ?_ (fun _ => ?_))
   | exact ih0 _ _ _ _
   | exact ih1 _ _ _ _ _ _
   | exact ih2 _ _ _ _
   | exact ih3 _ _ _ _
   | exact ih4 _ _ _ _
   | exact ih5 _ _ _ _
   | exact engrosslaw3_begun.mono _
   | exact LeO.none _
   | refine LeO.ite ?_ ?_
   | refine LeO.bind ?_ (fun _ => ?_)
theorem engrosslaw3_FloatEdges.mono : ∀ a0 a1 a2 a3 k, LeO (engrosslaw3_FloatEdges.f k a0 a1 a2 a3) (engrosslaw3_FloatEdges.f (k + 1) a0 a1 a2 a3) := by
 intro a0 a1 a2 a3 k
 obtain ⟨ih0, ih1, ih2, ih3, ih4, ih5⟩ := engrosslaw3_FloatEdges.mono_l k
 unfold engrosslaw3_FloatEdges.f
 repeat' first
   | (with_reducible exact ih0 _ _ _ _)
   | (with_reducible exact ih1 _ _ _ _ _ _)
   | (with_reducible exact ih2 _ _ _ _)
   | (with_reducible exact ih3 _ _ _ _)
   | (with_reducible exact ih4 _ _ _ _)
   | (with_reducible exact ih5 _ _ _ _)
   | (with_reducible exact engrosslaw3_begun.mono _)
   | (with_reducible exact LeO.refl _)
   | (with_reducible exact LeO.none _)
   | (with_reducible refine LeO.ite ?_ ?_)
   | (with_reducible refine LeO.bind ?_ (fun _ => ?_))
   | exact ih0 _ _ _ _
   | exact ih1 _ _ _ _ _ _
   | exact ih2 _ _ _ _
   | exact ih3 _ _ _ _
   | exact ih4 _ _ _ _
   | exact ih5 _ _ _ _
   | exact engrosslaw3_begun.mono _
   | exact LeO.none _
   | refine LeO.ite ?_ ?_
   | refine LeO.bind ?_ (fun _ => ?_)
set_option maxHeartbeats 8000000 in
set_option maxRecDepth 100000 in
theorem engrosslaw3_FloatEdges.calls (k : Nat) (P0_ : Nat → Prop) (A0 : Option Addr) (c0 : Nat) (l0 : List Int) (a1 : Bool) (a2 : Bool) (a3 : Bool) (r : Bool) (w : World) (hs0 : Kd.V (Kd.int .u64) 22 w w.heap.size (fun k_ => P0_ k_) (.slice A0 l0.length c0) l0) (h : engrosslaw3_FloatEdges.f k l0 a1 a2 a3 = some r) :
  Calls Try.prog 8 #[.slice A0 l0.length c0, .bool a1, .bool a2, .bool a3] w fun e w' => e = .returned (.bool r) ∧ Below w.heap.size w w' := by
 have HO0 := Aside0.mk (show Kd.V (Kd.int .u64) 22 w w.heap.size (fun k_ => (P0_ k_ ∨ w.heap.size ≤ k_)) (.slice A0 l0.length c0) l0 from Kd.V_mono hs0 (fun k_ hk => .inl hk))
 have HB := Aside0.mk (Below.refl w.heap.size w)
 have H : ((engrosslaw3_begun.f k).bind fun t239 => (if t239 = true then (if (l0.length : Int) > 20 then (if 20 ≤ (l0.length : Int) then (engrosslaw3_FloatEdges.j0 k (l0.take 20) a1 a2 a3) else (none)) else (engrosslaw3_FloatEdges.j0 k l0 a1 a2 a3)) else (none))) = some r := h
 clear h
 replace H := Option.bind_eq_some_iff.mp H
 obtain ⟨t239, A50, H⟩ := H
 replace H : (if t239 = true then (if (l0.length : Int) > 20 then (if 20 ≤ (l0.length : Int) then (engrosslaw3_FloatEdges.j0 k (l0.take 20) a1 a2 a3) else (none)) else (engrosslaw3_FloatEdges.j0 k l0 a1 a2 a3)) else (none)) = some r := H
 have A5 := Aside0.mk A50
 clear A50
 by_cases c6 : t239 = true
 ·subst c6
  have H1 : (if (l0.length : Int) > 20 then (if 20 ≤ (l0.length : Int) then (engrosslaw3_FloatEdges.j0 k (l0.take 20) a1 a2 a3) else (none)) else (engrosslaw3_FloatEdges.j0 k l0 a1 a2 a3)) = some r := by rw [if_pos rfl] at H; exact H
  clear H
  have H := H1
  clear H1
  have HC7 := Aside0.mk H
  clear H
  go_enter Try.func8, Try.ntmps8
  go_upto_if 18 with (first | ((with_reducible refine gate_callee (f := 15) rfl ?_); refine goesL_ (some 13) rfl rfl Try.func15 (by kernel_rfl) rfl #[] rfl (by (try simp only [List.map_toArray, List.map_cons, List.map_nil]); first | done | rfl | (simp only [List.length_drop, List.length_take]; rfl)) ?_; (with_reducible refine (engrosslaw3_begun.calls k  true _ A5.out).mono ?_); rintro e w8 ⟨rfl, hb⟩; refine ⟨_, rfl, ?_⟩; replace HO0 := Aside0.mk (Kd.V_below (by (with_reducible repeat (first | apply Kd.V_alloc | apply Kd.V_drewN | apply Kd.V_drew)); exact HO0.out) hb); replace HB := bW HB hb; (try clear hb); (try clear hb2); (try clear hk); (try clear hi)))
  (try simp only [Act.put, List.setIfInBounds_toArray, List.set_cons_zero, List.set_cons_succ])
  go_cut [0] (fun v0 wc => ∃ (kq : Nat) (x0_6 : List Int), Aside0 (engrosslaw3_FloatEdges.j0 kq x0_6 a1 a2 a3 = some r) ∧ Aside0 (kq ≤ k) ∧ Aside0 (Kd.V (Kd.int .u64) 22 wc w.heap.size (fun k_ => (P0_ k_ ∨ w.heap.size ≤ k_)) v0 x0_6) ∧ Aside0 (Below w.heap.size w wc))
  case first =>
   have H := HC7.out
   clear HC7
   by_cases c9 : (l0.length : Int) > 20
   ·rw [if_pos c9] at H
    have c9b0 : decide (20 < (l0.length : Int)) = true := decide_eq_true c9
    have c9b1 : decide (20 < l0.length) = true := decide_eq_true (by omega)
    clear c9
    (first | rw [c9b0] | (simp only [i64_w, i32_w]; rw [c9b0]) | skip)
    by_cases c10 : 20 ≤ (l0.length : Int)
    ·rw [if_pos c10] at H
     have c10b0 := eq_true c10
     have c10b1 : decide (20 ≤ (l0.length : Int)) = true := decide_eq_true c10
     clear c10
     obtain ⟨y240, hy240⟩ : ∃ y_ : List Int, y_ = (l0.take 20) := ⟨_, rfl⟩
     replace H : (engrosslaw3_FloatEdges.j0 k y240 a1 a2 a3) = some r := by first | (rw [hy240]; with_reducible exact H) | (have H2_ := (Option.bind_some _ _).symm.trans H; rw [hy240]; with_reducible exact H2_) | (have H2_ := (Option.bind_some _ _).symm.trans H; with_reducible exact H2_) | with_reducible exact H | (rw [hy240]; exact H) | exact H
     have Ny240 := Aside0.mk hy240
     clear hy240
     have H' := Aside0.mk H
     clear H
     have q11 : (20 : Int) ≤ ((l0.length : Int) : Int) := of_decide_eq_true (by first | (with_reducible assumption) | assumption)
     obtain ⟨i011, hi011, _, hsz11, _⟩ := info_parts info22
     have hroom11 : l0.length ≤ c0 := (Kd.V_reads' HO0.out).2.1
     have hC11 : Kd.F (Kd.int .u64) _ _ A0 l0.length l0 := (Kd.V_at (base := w.heap.size) HO0.out).2.2
     have hcut11 := cut_to (P := Try.prog) 38 22 .i64 Try.underlying38 hi011 A0 l0.length c0 20 (by omega) q11 hroom11
     have hr11 := Kd.F_take (m := 20) hC11 (by omega)
     have hy11 : y240.length = (20 : Int).toNat := (by rw [Ny240.out, List.length_take]; omega)
     rw [← Ny240.out] at hr11
     rw [← hy11] at hcut11
     have HO244 := Aside0.mk (show Kd.V (Kd.int .u64) 22 _ w.heap.size _ (.slice A0 y240.length c0) y240 from Kd.V_mk (by omega) hr11)
     have HC244 := Aside0.mk (show y240.length ≤ c0 from by omega)
     clear hr11 hC11 hroom11 hi011 hsz11
     have KY11 := Aside0.mk hy11
     clear hy11
     replace q11 := eq_true q11
     go_wp2
     go_meet
     case rel => exact ⟨_, (y240), H', ⟨by first | omega | exact Nat.le_refl _⟩, ⟨by (with_reducible repeat (first | apply Kd.V_alloc | apply Kd.V_drewN | apply Kd.V_drew)); exact HO244.out⟩, ⟨by repeat (first | (with_reducible first | exact HB.out | apply below_alloc | apply pw_below_drewN | apply below_drew1) | exact HB.out)⟩⟩
    ·rw [if_neg c10] at H
     exact absurd H (by simp)
   ·rw [if_neg c9] at H
    have c9b0 : decide (20 < (l0.length : Int)) = false := decide_eq_false c9
    have c9b1 : decide (20 < l0.length) = false := decide_eq_false (by omega)
    clear c9
    (first | rw [c9b0] | (simp only [i64_w, i32_w]; rw [c9b0]) | skip)
    have H' := Aside0.mk H
    clear H
    go_wp2
    go_meet
    case rel => exact ⟨_, (l0), H', ⟨by first | omega | exact Nat.le_refl _⟩, ⟨by (with_reducible repeat (first | apply Kd.V_alloc | apply Kd.V_drewN | apply Kd.V_drew)); exact HO0.out⟩, ⟨by repeat (first | (with_reducible first | exact HB.out | apply below_alloc | apply pw_below_drewN | apply below_drew1) | exact HB.out)⟩⟩
  case rest =>
   clear HC7
   try clear c1
   try clear q1
   try clear p2
   try clear c6
   try clear c8
   try clear c9
   try clear c9b0
   try clear c9b1
   try clear c10
   try clear c10b0
   try clear c10b1
   try clear q11
   try clear q11
   obtain ⟨kq, x0_6, HA, HJ6, HO_0, HB⟩ := hcut
   cases kq with
   | zero => exact absurd HA.out (by simp [engrosslaw3_FloatEdges.j0])
   | succ kj6 =>
    have H := HA.out
    clear HA
    simp only [engrosslaw3_FloatEdges.j0] at H
    have H' := Aside0.mk H
    clear H
    go_wp2
    go_loopg [10, 11] kj6 (fun kq v10 v11 w' => ∃ (x10_2 : List Nat) (x11_2 : Int), v11 = .int .i64 x11_2 ∧ Aside0 (engrosslaw3_FloatEdges.l0 kq x0_6 a1 a2 a3 x10_2 x11_2 = some r) ∧ Aside0 (kq ≤ kj6) ∧ Aside0 (Kd.V (Kd.int .u64) 22 w' w.heap.size (fun k_ => (P0_ k_ ∨ w.heap.size ≤ k_) ∧ some k_ ≠ (v10 : Value).ownBlock) u0 x0_6) ∧ Aside0 (Kd.R Kd.float 24 w' w.heap.size (fun k_ => (w.heap.size ≤ k_)) v10 x10_2) ∧ Aside0 (Below w.heap.size w w'))
    case atStart => exact ⟨(([] : List Nat)), (0), (by first | rfl | (simp; done) | (simp [*]; done)), H', ⟨Nat.le_refl _⟩, ⟨by (with_reducible repeat (first | apply Kd.V_alloc | apply Kd.V_drewN | apply Kd.V_drew)); exact Kd.V_mono HO_0.out (fun _ hk => ⟨hk, (by simp [Value.ownBlock])⟩)⟩, ⟨by first | exact Kd.R_nil _ _ _ _ _ | exact Kd.N_nil _ _ _ _ _ | exact Kd.V_nil _ _ _ _ _ | exact Kd.Q_nil _ _ _ _ _ | exact Kd.S_nil _ _ _ _ _⟩, ⟨by repeat (first | (with_reducible first | exact HB.out | apply below_alloc | apply pw_below_drewN | apply below_drew1) | exact HB.out)⟩⟩
    case round =>
     clear H'
     try clear c1
     try clear q1
     try clear p2
     try clear c6
     try clear c8
     try clear c9
     try clear c9b0
     try clear c9b1
     try clear c10
     try clear c10b0
     try clear c10b1
     try clear q11
     try clear p2
     try clear q1
     try clear q11
     obtain ⟨x10_2, x11_2, rfl, HA, HK2, HO_0, HO_10, HB⟩ := hrel
     cases gk with
     | zero => exact absurd HA.out (by simp [engrosslaw3_FloatEdges.l0])
     | succ k2 =>
      have H := HA.out
      clear HA
      simp only [engrosslaw3_FloatEdges.l0] at H
      by_cases c12 : x11_2 < (x0_6.length : Int)
      ·rw [if_pos c12] at H
       have c12b0 : decide (x11_2 < (x0_6.length : Int)) = true := decide_eq_true c12
       clear c12
       by_cases c13 : 0 ≤ x11_2
       ·rw [if_pos c13] at H
        have c13b0 : decide (0 ≤ x11_2) = true := decide_eq_true c13
        clear c13
        replace H := Option.bind_eq_some_iff.mp H
        obtain ⟨t246, A140, H⟩ := H
        replace H : (if x10_2.length < 17592186044416 then (engrosslaw3_FloatEdges.l0 k2 x0_6 a1 a2 a3 (x10_2 ++ [t246]) (wrap64 (x11_2 + 1))) else (none)) = some r := H
        have A14 := Aside0.mk A140
        clear A140
        by_cases c15 : x10_2.length < 17592186044416
        ·rw [if_pos c15] at H
         have LMc15 := Aside0.mk c15
         clear c15
         obtain ⟨y247, hy247⟩ : ∃ y_ : List Nat, y_ = (x10_2 ++ [t246]) := ⟨_, rfl⟩
         replace H : (engrosslaw3_FloatEdges.l0 k2 x0_6 a1 a2 a3 y247 (wrap64 (x11_2 + 1))) = some r := by first | (rw [hy247]; with_reducible exact H) | (have H2_ := (Option.bind_some _ _).symm.trans H; rw [hy247]; with_reducible exact H2_) | (have H2_ := (Option.bind_some _ _).symm.trans H; with_reducible exact H2_) | with_reducible exact H | (rw [hy247]; exact H) | exact H
         have Ny247 := Aside0.mk hy247
         clear hy247
         have H' := Aside0.mk H
         clear H
         obtain ⟨Ao16, co16, eo16⟩ := Kd.V_slice HO_0.out
         subst eo16
         have p245 : 0 ≤ (x11_2 : Int) := of_decide_eq_true (by first | (with_reducible assumption) | assumption)
         have q245 : x11_2 < (x0_6.length : Int) := of_decide_eq_true (by first | (with_reducible assumption) | assumption)
         obtain ⟨ad245, e245, hx245_0⟩ := Kd.at_int (Kd.V_reads' HO_0.out).2.2 x11_2 p245 q245
         cases e245
         replace p245 := eq_true p245
         replace q245 := eq_true q245
         go_wp2_with (first | ((with_reducible refine gate_callee (f := 16) rfl ?_); refine goesL_ (some 33) rfl rfl Try.func16 (by kernel_rfl) rfl #[.int .u64 (Go.bits .and .u64 (rd x0_6 x11_2) 9227875636482146303)] rfl (by (try simp only [List.map_toArray, List.map_cons, List.map_nil]); first | done | rfl | (simp only [List.length_drop, List.length_take]; rfl)) ?_; (with_reducible refine (engrosslaw3_of.calls (Go.bits .and .u64 (rd x0_6 x11_2) 9227875636482146303) t246 _ A14.out).mono ?_); rintro e w' ⟨rfl, ⟨nd, rfl⟩⟩; refine ⟨_, rfl, ?_⟩) | ((with_reducible refine gate_builtin (b := .append) (xs := #[.tmp 27, .tmp 34]) rfl ?_); at_builtin; refine Kd.R_append Kd.float (w0 := w) w.heap.size rfl (.tmp 27) (.tmp 34) 39 24 (.float .f64 0) 8 rfl Try.underlying39 info24 rfl (by decide) (by omega) u10 x10_2 t246 [.float .f64 t246] (fun k_ => (w.heap.size ≤ k_)) (fun _ => False) rfl rfl ?aP (fun _ hk => hk.elim) ?aF ?aO ?aB ?aS ?aL ?_; (case aP => exact rfl); (case aB => exact (bC HB)); (case aF => exact (fun k_ hk => (Nat.le_trans (below_size (bC HB)) hk))); (case aO => exact (by (with_reducible repeat (first | apply Kd.R_alloc | apply Kd.R_drewN | apply Kd.R_drew)); exact HO_10.out)); (case aS => exact (below_size (bC HB))); (case aL => have := LMc15.out; omega); intro v248 w17 ho hb hg hat; rw [← Ny247.out] at ho; have HO249 := Aside0.mk (ho); replace HO_0 := Aside0.mk (Kd.V_afterv (ok := (fun k_ => (P0_ k_ ∨ w.heap.size ≤ k_))) (by (with_reducible repeat (first | apply Kd.V_alloc | apply Kd.V_drewN | apply Kd.V_drew)); exact HO_0.out) hg hat); replace HB := Aside0.mk (hb); clear HO_10; clear ho hb hg hat))
         go_roundg k2
         case measure => have := HJ6.out; have := HK2.out; omega
         case rel => exact ⟨(y247), (wrap64 (x11_2 + 1)), (by first | rfl | (simp; done) | (simp [*]; done)), H', ⟨by have := HJ6.out; have := HK2.out; omega⟩, ⟨by (with_reducible repeat (first | apply Kd.V_alloc | apply Kd.V_drewN | apply Kd.V_drew)); exact HO_0.out⟩, ⟨by (with_reducible repeat (first | apply Kd.R_alloc | apply Kd.R_drewN | apply Kd.R_drew)); exact HO249.out⟩, ⟨by repeat (first | (with_reducible first | exact HB.out | apply below_alloc | apply pw_below_drewN | apply below_drew1) | exact HB.out)⟩⟩
        ·rw [if_neg c15] at H
         exact absurd H (by simp)
       ·rw [if_neg c13] at H
        exact absurd H (by simp)
      ·rw [if_neg c12] at H
       have c12b0 : decide (x11_2 < (x0_6.length : Int)) = false := decide_eq_false c12
       clear c12
       have HC18 := Aside0.mk H
       clear H
       obtain ⟨Ao19, co19, eo19⟩ := Kd.V_slice HO_0.out
       subst eo19
       go_upto_if 36 with (fail)
       go_cut [10] (fun v10 wc => ∃ (kq : Nat) (x10_17 : List Nat), Aside0 (engrosslaw3_FloatEdges.j2 kq a1 a2 a3 x10_17 = some r) ∧ Aside0 (kq ≤ k2) ∧ Aside0 (Kd.R Kd.float 24 wc w.heap.size (fun k_ => (w.heap.size ≤ k_)) v10 x10_17) ∧ Aside0 (Below w.heap.size w wc))
       case first =>
        have H := HC18.out
        clear HC18
        by_cases c20 : a2 = true
        ·subst c20
         have H1 : ((engrosslaw3_of.f 9218868437227405312).bind fun t250 => (if x10_2.length < 17592186044416 then (engrosslaw3_FloatEdges.j2 k2 a1 true a3 (x10_2 ++ [t250])) else (none))) = some r := by rw [if_pos rfl] at H; exact H
         clear H
         have H := H1
         clear H1
         replace H := Option.bind_eq_some_iff.mp H
         obtain ⟨t250, A210, H⟩ := H
         replace H : (if x10_2.length < 17592186044416 then (engrosslaw3_FloatEdges.j2 k2 a1 true a3 (x10_2 ++ [t250])) else (none)) = some r := H
         have A21 := Aside0.mk A210
         clear A210
         by_cases c22 : x10_2.length < 17592186044416
         ·rw [if_pos c22] at H
          have LMc22 := Aside0.mk c22
          clear c22
          obtain ⟨y251, hy251⟩ : ∃ y_ : List Nat, y_ = (x10_2 ++ [t250]) := ⟨_, rfl⟩
          replace H : (engrosslaw3_FloatEdges.j2 k2 a1 true a3 y251) = some r := by first | (rw [hy251]; with_reducible exact H) | (have H2_ := (Option.bind_some _ _).symm.trans H; rw [hy251]; with_reducible exact H2_) | (have H2_ := (Option.bind_some _ _).symm.trans H; with_reducible exact H2_) | with_reducible exact H | (rw [hy251]; exact H) | exact H
          have Ny251 := Aside0.mk hy251
          clear hy251
          have H' := Aside0.mk H
          clear H
          go_wp2_with (first | ((with_reducible refine gate_callee (f := 16) rfl ?_); refine goesL_ (some 38) rfl rfl Try.func16 (by kernel_rfl) rfl #[.int .u64 9218868437227405312] rfl (by (try simp only [List.map_toArray, List.map_cons, List.map_nil]); first | done | rfl | (simp only [List.length_drop, List.length_take]; rfl)) ?_; (with_reducible refine (engrosslaw3_of.calls 9218868437227405312 t250 _ A21.out).mono ?_); rintro e w' ⟨rfl, ⟨nd, rfl⟩⟩; refine ⟨_, rfl, ?_⟩) | ((with_reducible refine gate_builtin (b := .append) (xs := #[.tmp 37, .tmp 39]) rfl ?_); at_builtin; refine Kd.R_append Kd.float (w0 := w) w.heap.size rfl (.tmp 37) (.tmp 39) 39 24 (.float .f64 0) 8 rfl Try.underlying39 info24 rfl (by decide) (by omega) u10 x10_2 t250 [.float .f64 t250] (fun k_ => (w.heap.size ≤ k_)) (fun _ => False) rfl rfl ?aP (fun _ hk => hk.elim) ?aF ?aO ?aB ?aS ?aL ?_; (case aP => exact rfl); (case aB => exact (bC HB)); (case aF => exact (fun k_ hk => (Nat.le_trans (below_size (bC HB)) hk))); (case aO => exact (by (with_reducible repeat (first | apply Kd.R_alloc | apply Kd.R_drewN | apply Kd.R_drew)); exact HO_10.out)); (case aS => exact (below_size (bC HB))); (case aL => have := LMc22.out; omega); intro v252 w23 ho hb hg hat; rw [← Ny251.out] at ho; have HO253 := Aside0.mk (ho); replace HO_0 := Aside0.mk (Kd.V_afterv (ok := (fun k_ => (P0_ k_ ∨ w.heap.size ≤ k_))) (by (with_reducible repeat (first | apply Kd.V_alloc | apply Kd.V_drewN | apply Kd.V_drew)); exact HO_0.out) hg hat); replace HB := Aside0.mk (hb); clear HO_10; clear ho hb hg hat))
          go_meet
          case rel => exact ⟨_, (y251), H', ⟨by have := HJ6.out; have := HK2.out; first | omega | exact Nat.le_refl _⟩, ⟨by (with_reducible repeat (first | apply Kd.R_alloc | apply Kd.R_drewN | apply Kd.R_drew)); exact HO253.out⟩, ⟨by repeat (first | (with_reducible first | exact HB.out | apply below_alloc | apply pw_below_drewN | apply below_drew1) | exact HB.out)⟩⟩
         ·rw [if_neg c22] at H
          exact absurd H (by simp)
        ·replace c20 := Bool.eq_false_iff.mpr c20
         subst c20
         have H1 : (engrosslaw3_FloatEdges.j2 k2 a1 false a3 x10_2) = some r := by rw [if_neg (show ¬ (false = true) by decide)] at H; exact H
         clear H
         have H := H1
         clear H1
         have H' := Aside0.mk H
         clear H
         go_wp2
         go_meet
         case rel => exact ⟨_, (x10_2), H', ⟨by have := HJ6.out; have := HK2.out; first | omega | exact Nat.le_refl _⟩, ⟨by (with_reducible repeat (first | apply Kd.R_alloc | apply Kd.R_drewN | apply Kd.R_drew)); exact HO_10.out⟩, ⟨by repeat (first | (with_reducible first | exact HB.out | apply below_alloc | apply pw_below_drewN | apply below_drew1) | exact HB.out)⟩⟩
       case rest =>
        clear HC18
        try clear c1
        try clear q1
        try clear c2
        try clear p2
        try clear q2
        try clear hx2
        try clear c6
        try clear p6
        try clear c8
        try clear c9
        try clear c9b0
        try clear c9b1
        try clear c10
        try clear c10b0
        try clear c10b1
        try clear q11
        try clear c12
        try clear c12b0
        try clear c13
        try clear c13b0
        try clear c15
        try clear c16
        try clear c20
        try clear c22
        try clear hx245_0
        try clear p2
        try clear p245
        try clear q1
        try clear q11
        try clear q245
        obtain ⟨kq, x10_17, HA, HJ17, HO_10, HB⟩ := hcut
        cases kq with
        | zero => exact absurd HA.out (by simp [engrosslaw3_FloatEdges.j2])
        | succ kj17 =>
         have H := HA.out
         clear HA
         simp only [engrosslaw3_FloatEdges.j2] at H
         have HC24 := Aside0.mk H
         clear H
         go_upto_if 41 with (fail)
         go_cut [10] (fun v10 wc => ∃ (kq : Nat) (x10_23 : List Nat), Aside0 (engrosslaw3_FloatEdges.j3 kq a1 a2 a3 x10_23 = some r) ∧ Aside0 (kq ≤ kj17) ∧ Aside0 (Kd.R Kd.float 24 wc w.heap.size (fun k_ => (w.heap.size ≤ k_)) v10 x10_23) ∧ Aside0 (Below w.heap.size w wc))
         case first =>
          have H := HC24.out
          clear HC24
          by_cases c25 : a3 = true
          ·subst c25
           have H1 : ((engrosslaw3_of.f 18442240474082181120).bind fun t254 => (if x10_17.length < 17592186044416 then (engrosslaw3_FloatEdges.j3 kj17 a1 a2 true (x10_17 ++ [t254])) else (none))) = some r := by rw [if_pos rfl] at H; exact H
           clear H
           have H := H1
           clear H1
           replace H := Option.bind_eq_some_iff.mp H
           obtain ⟨t254, A260, H⟩ := H
           replace H : (if x10_17.length < 17592186044416 then (engrosslaw3_FloatEdges.j3 kj17 a1 a2 true (x10_17 ++ [t254])) else (none)) = some r := H
           have A26 := Aside0.mk A260
           clear A260
           by_cases c27 : x10_17.length < 17592186044416
           ·rw [if_pos c27] at H
            have LMc27 := Aside0.mk c27
            clear c27
            obtain ⟨y255, hy255⟩ : ∃ y_ : List Nat, y_ = (x10_17 ++ [t254]) := ⟨_, rfl⟩
            replace H : (engrosslaw3_FloatEdges.j3 kj17 a1 a2 true y255) = some r := by first | (rw [hy255]; with_reducible exact H) | (have H2_ := (Option.bind_some _ _).symm.trans H; rw [hy255]; with_reducible exact H2_) | (have H2_ := (Option.bind_some _ _).symm.trans H; with_reducible exact H2_) | with_reducible exact H | (rw [hy255]; exact H) | exact H
            have Ny255 := Aside0.mk hy255
            clear hy255
            have H' := Aside0.mk H
            clear H
            go_wp2_with (first | ((with_reducible refine gate_callee (f := 16) rfl ?_); refine goesL_ (some 43) rfl rfl Try.func16 (by kernel_rfl) rfl #[.int .u64 18442240474082181120] rfl (by (try simp only [List.map_toArray, List.map_cons, List.map_nil]); first | done | rfl | (simp only [List.length_drop, List.length_take]; rfl)) ?_; (with_reducible refine (engrosslaw3_of.calls 18442240474082181120 t254 _ A26.out).mono ?_); rintro e w' ⟨rfl, ⟨nd, rfl⟩⟩; refine ⟨_, rfl, ?_⟩) | ((with_reducible refine gate_builtin (b := .append) (xs := #[.tmp 42, .tmp 44]) rfl ?_); at_builtin; refine Kd.R_append Kd.float (w0 := w) w.heap.size rfl (.tmp 42) (.tmp 44) 39 24 (.float .f64 0) 8 rfl Try.underlying39 info24 rfl (by decide) (by omega) u10 x10_17 t254 [.float .f64 t254] (fun k_ => (w.heap.size ≤ k_)) (fun _ => False) rfl rfl ?aP (fun _ hk => hk.elim) ?aF ?aO ?aB ?aS ?aL ?_; (case aP => exact rfl); (case aB => exact (bC HB)); (case aF => exact (fun k_ hk => (Nat.le_trans (below_size (bC HB)) hk))); (case aO => exact (by (with_reducible repeat (first | apply Kd.R_alloc | apply Kd.R_drewN | apply Kd.R_drew)); exact HO_10.out)); (case aS => exact (below_size (bC HB))); (case aL => have := LMc27.out; omega); intro v256 w28 ho hb hg hat; rw [← Ny255.out] at ho; have HO257 := Aside0.mk (ho); replace HB := Aside0.mk (hb); clear HO_10; clear ho hb hg hat))
            go_meet
            case rel => exact ⟨_, (y255), H', ⟨by have := HJ6.out; have := HK2.out; have := HJ17.out; first | omega | exact Nat.le_refl _⟩, ⟨by (with_reducible repeat (first | apply Kd.R_alloc | apply Kd.R_drewN | apply Kd.R_drew)); exact HO257.out⟩, ⟨by repeat (first | (with_reducible first | exact HB.out | apply below_alloc | apply pw_below_drewN | apply below_drew1) | exact HB.out)⟩⟩
           ·rw [if_neg c27] at H
            exact absurd H (by simp)
          ·replace c25 := Bool.eq_false_iff.mpr c25
           subst c25
           have H1 : (engrosslaw3_FloatEdges.j3 kj17 a1 a2 false x10_17) = some r := by rw [if_neg (show ¬ (false = true) by decide)] at H; exact H
           clear H
           have H := H1
           clear H1
           have H' := Aside0.mk H
           clear H
           go_wp2
           go_meet
           case rel => exact ⟨_, (x10_17), H', ⟨by have := HJ6.out; have := HK2.out; have := HJ17.out; first | omega | exact Nat.le_refl _⟩, ⟨by (with_reducible repeat (first | apply Kd.R_alloc | apply Kd.R_drewN | apply Kd.R_drew)); exact HO_10.out⟩, ⟨by repeat (first | (with_reducible first | exact HB.out | apply below_alloc | apply pw_below_drewN | apply below_drew1) | exact HB.out)⟩⟩
         case rest =>
          clear HC24
          try clear c1
          try clear q1
          try clear c2
          try clear p2
          try clear q2
          try clear hx2
          try clear c6
          try clear p6
          try clear c8
          try clear c9
          try clear c9b0
          try clear c9b1
          try clear c10
          try clear c10b0
          try clear c10b1
          try clear q11
          try clear c12
          try clear c12b0
          try clear c13
          try clear c13b0
          try clear c15
          try clear c16
          try clear c20
          try clear c22
          try clear p24
          try clear q24
          try clear hx24
          try clear c25
          try clear c27
          try clear hx245_0
          try clear p2
          try clear p245
          try clear p6
          try clear q1
          try clear q11
          try clear q2
          try clear q245
          obtain ⟨kq, x10_23, HA, HJ23, HO_10, HB⟩ := hcut
          cases kq with
          | zero => exact absurd HA.out (by simp [engrosslaw3_FloatEdges.j3])
          | succ kj23 =>
           have H := HA.out
           clear HA
           simp only [engrosslaw3_FloatEdges.j3] at H
           have HC29 := Aside0.mk H
           clear H
           go_upto_if 46 with (fail)
           go_cut [10] (fun v10 wc => ∃ (kq : Nat) (x10_28 : List Nat), Aside0 (engrosslaw3_FloatEdges.j4 kq a1 a2 a3 x10_28 = some r) ∧ Aside0 (kq ≤ kj23) ∧ Aside0 (Kd.R Kd.float 24 wc w.heap.size (fun k_ => (w.heap.size ≤ k_)) v10 x10_28) ∧ Aside0 (Below w.heap.size w wc))
           case first =>
            have H := HC29.out
            clear HC29
            by_cases c30 : a1 = true
            ·subst c30
             have H1 : ((engrosslaw3_of.f 9218868437227405319).bind fun t258 => (if x10_23.length < 17592186044416 then (engrosslaw3_FloatEdges.j4 kj23 true a2 a3 (x10_23 ++ [t258])) else (none))) = some r := by rw [if_pos rfl] at H; exact H
             clear H
             have H := H1
             clear H1
             replace H := Option.bind_eq_some_iff.mp H
             obtain ⟨t258, A310, H⟩ := H
             replace H : (if x10_23.length < 17592186044416 then (engrosslaw3_FloatEdges.j4 kj23 true a2 a3 (x10_23 ++ [t258])) else (none)) = some r := H
             have A31 := Aside0.mk A310
             clear A310
             by_cases c32 : x10_23.length < 17592186044416
             ·rw [if_pos c32] at H
              have LMc32 := Aside0.mk c32
              clear c32
              obtain ⟨y259, hy259⟩ : ∃ y_ : List Nat, y_ = (x10_23 ++ [t258]) := ⟨_, rfl⟩
              replace H : (engrosslaw3_FloatEdges.j4 kj23 true a2 a3 y259) = some r := by first | (rw [hy259]; with_reducible exact H) | (have H2_ := (Option.bind_some _ _).symm.trans H; rw [hy259]; with_reducible exact H2_) | (have H2_ := (Option.bind_some _ _).symm.trans H; with_reducible exact H2_) | with_reducible exact H | (rw [hy259]; exact H) | exact H
              have Ny259 := Aside0.mk hy259
              clear hy259
              have H' := Aside0.mk H
              clear H
              go_wp2_with (first | ((with_reducible refine gate_callee (f := 16) rfl ?_); refine goesL_ (some 48) rfl rfl Try.func16 (by kernel_rfl) rfl #[.int .u64 9218868437227405319] rfl (by (try simp only [List.map_toArray, List.map_cons, List.map_nil]); first | done | rfl | (simp only [List.length_drop, List.length_take]; rfl)) ?_; (with_reducible refine (engrosslaw3_of.calls 9218868437227405319 t258 _ A31.out).mono ?_); rintro e w' ⟨rfl, ⟨nd, rfl⟩⟩; refine ⟨_, rfl, ?_⟩) | ((with_reducible refine gate_builtin (b := .append) (xs := #[.tmp 47, .tmp 49]) rfl ?_); at_builtin; refine Kd.R_append Kd.float (w0 := w) w.heap.size rfl (.tmp 47) (.tmp 49) 39 24 (.float .f64 0) 8 rfl Try.underlying39 info24 rfl (by decide) (by omega) u10 x10_23 t258 [.float .f64 t258] (fun k_ => (w.heap.size ≤ k_)) (fun _ => False) rfl rfl ?aP (fun _ hk => hk.elim) ?aF ?aO ?aB ?aS ?aL ?_; (case aP => exact rfl); (case aB => exact (bC HB)); (case aF => exact (fun k_ hk => (Nat.le_trans (below_size (bC HB)) hk))); (case aO => exact (by (with_reducible repeat (first | apply Kd.R_alloc | apply Kd.R_drewN | apply Kd.R_drew)); exact HO_10.out)); (case aS => exact (below_size (bC HB))); (case aL => have := LMc32.out; omega); intro v260 w33 ho hb hg hat; rw [← Ny259.out] at ho; have HO261 := Aside0.mk (ho); replace HB := Aside0.mk (hb); clear HO_10; clear ho hb hg hat))
              go_meet
              case rel => exact ⟨_, (y259), H', ⟨by have := HJ6.out; have := HK2.out; have := HJ17.out; have := HJ23.out; first | omega | exact Nat.le_refl _⟩, ⟨by (with_reducible repeat (first | apply Kd.R_alloc | apply Kd.R_drewN | apply Kd.R_drew)); exact HO261.out⟩, ⟨by repeat (first | (with_reducible first | exact HB.out | apply below_alloc | apply pw_below_drewN | apply below_drew1) | exact HB.out)⟩⟩
             ·rw [if_neg c32] at H
              exact absurd H (by simp)
            ·replace c30 := Bool.eq_false_iff.mpr c30
             subst c30
             have H1 : (engrosslaw3_FloatEdges.j4 kj23 false a2 a3 x10_23) = some r := by rw [if_neg (show ¬ (false = true) by decide)] at H; exact H
             clear H
             have H := H1
             clear H1
             have H' := Aside0.mk H
             clear H
             go_wp2
             go_meet
             case rel => exact ⟨_, (x10_23), H', ⟨by have := HJ6.out; have := HK2.out; have := HJ17.out; have := HJ23.out; first | omega | exact Nat.le_refl _⟩, ⟨by (with_reducible repeat (first | apply Kd.R_alloc | apply Kd.R_drewN | apply Kd.R_drew)); exact HO_10.out⟩, ⟨by repeat (first | (with_reducible first | exact HB.out | apply below_alloc | apply pw_below_drewN | apply below_drew1) | exact HB.out)⟩⟩
           case rest =>
            clear HC29
            try clear c1
            try clear q1
            try clear c2
            try clear p2
            try clear q2
            try clear hx2
            try clear c3
            try clear c6
            try clear p6
            try clear c8
            try clear c9
            try clear c9b0
            try clear c9b1
            try clear c10
            try clear c10b0
            try clear c10b1
            try clear q11
            try clear c12
            try clear c12b0
            try clear c13
            try clear c13b0
            try clear c15
            try clear c16
            try clear c20
            try clear c22
            try clear p24
            try clear q24
            try clear hx24
            try clear c25
            try clear c27
            try clear c30
            try clear c32
            try clear hx245_0
            try clear p2
            try clear p24
            try clear p245
            try clear p6
            try clear q1
            try clear q11
            try clear q2
            try clear q24
            try clear q245
            obtain ⟨kq, x10_28, HA, HJ28, HO_10, HB⟩ := hcut
            cases kq with
            | zero => exact absurd HA.out (by simp [engrosslaw3_FloatEdges.j4])
            | succ kj28 =>
             have H := HA.out
             clear HA
             simp only [engrosslaw3_FloatEdges.j4] at H
             replace H := Option.bind_eq_some_iff.mp H
             obtain ⟨t262, A340, H⟩ := H
             replace H : (if a1 = true then (engrosslaw3_FloatEdges.j5 kj28 a2 a3 t262 true) else (if a2 = true then (engrosslaw3_FloatEdges.j5 kj28 a2 a3 t262 a3) else (engrosslaw3_FloatEdges.j5 kj28 a2 a3 t262 false))) = some r := H
             have A34 := Aside0.mk A340
             clear A340
             have HC35 := Aside0.mk H
             clear H
             obtain ⟨Ao36, co36, eo36⟩ := Kd.R_slice HO_10.out
             subst eo36
             go_upto_region 18 with (first | ((with_reducible refine gate_callee (f := 29) rfl ?_); refine goesL_ (some 52) rfl rfl Try.func29 (by kernel_rfl) rfl #[.slice Ao36 x10_28.length co36] rfl (by (try simp only [List.map_toArray, List.map_cons, List.map_nil]); first | done | rfl | (simp only [List.length_drop, List.length_take]; rfl)) ?_; (with_reducible refine (float_Sum.calls _ _ x10_28 t262 _ ?side1 ?side2 A34.out).mono ?_); (case side1 => repeat (first | exact (Kd.R_reads' HO_10.out).2.2 | (with_reducible refine Kd.C_alloc ?_ _) | (with_reducible refine Kd.C_drewN ?_ _) | (with_reducible refine Kd.C_drew ?_))); (case side2 => exact (Kd.R_reads' HO_10.out).2.1); rintro e w' ⟨rfl, ⟨nd, rfl⟩⟩; refine ⟨_, rfl, ?_⟩))
             (try simp only [Act.put, List.setIfInBounds_toArray, List.set_cons_zero, List.set_cons_succ])
             go_cut [53] (fun v53 wc => ∃ (kq : Nat) (x53_34 : Bool), v53 = .bool x53_34 ∧ Aside0 (engrosslaw3_FloatEdges.j5 kq a2 a3 t262 x53_34 = some r) ∧ Aside0 (kq ≤ kj28) ∧ Aside0 (Below w.heap.size w wc))
             case first =>
              have H := HC35.out
              clear HC35
              by_cases c37 : a1 = true
              ·subst c37
               have H1 : (engrosslaw3_FloatEdges.j5 kj28 a2 a3 t262 true) = some r := by rw [if_pos rfl] at H; exact H
               clear H
               have H := H1
               clear H1
               have H' := Aside0.mk H
               clear H
               go_wp2
               go_meet
               case rel => exact ⟨_, (true), (by first | rfl | (simp; done) | (simp [*]; done)), H', ⟨by have := HJ6.out; have := HK2.out; have := HJ17.out; have := HJ23.out; have := HJ28.out; first | omega | exact Nat.le_refl _⟩, ⟨by repeat (first | (with_reducible first | exact HB.out | apply below_alloc | apply pw_below_drewN | apply below_drew1) | exact HB.out)⟩⟩
              ·replace c37 := Bool.eq_false_iff.mpr c37
               subst c37
               have H1 : (if a2 = true then (engrosslaw3_FloatEdges.j5 kj28 a2 a3 t262 a3) else (engrosslaw3_FloatEdges.j5 kj28 a2 a3 t262 false)) = some r := by rw [if_neg (show ¬ (false = true) by decide)] at H; exact H
               clear H
               have H := H1
               clear H1
               by_cases c38 : a2 = true
               ·subst c38
                have H1 : (engrosslaw3_FloatEdges.j5 kj28 true a3 t262 a3) = some r := by rw [if_pos rfl] at H; exact H
                clear H
                have H := H1
                clear H1
                have H' := Aside0.mk H
                clear H
                go_wp2
                go_meet
                case rel => exact ⟨_, (a3), (by first | rfl | (simp; done) | (simp [*]; done)), H', ⟨by have := HJ6.out; have := HK2.out; have := HJ17.out; have := HJ23.out; have := HJ28.out; first | omega | exact Nat.le_refl _⟩, ⟨by repeat (first | (with_reducible first | exact HB.out | apply below_alloc | apply pw_below_drewN | apply below_drew1) | exact HB.out)⟩⟩
               ·replace c38 := Bool.eq_false_iff.mpr c38
                subst c38
                have H1 : (engrosslaw3_FloatEdges.j5 kj28 false a3 t262 false) = some r := by rw [if_neg (show ¬ (false = true) by decide)] at H; exact H
                clear H
                have H := H1
                clear H1
                have H' := Aside0.mk H
                clear H
                go_wp2
                go_meet
                case rel => exact ⟨_, (false), (by first | rfl | (simp; done) | (simp [*]; done)), H', ⟨by have := HJ6.out; have := HK2.out; have := HJ17.out; have := HJ23.out; have := HJ28.out; first | omega | exact Nat.le_refl _⟩, ⟨by repeat (first | (with_reducible first | exact HB.out | apply below_alloc | apply pw_below_drewN | apply below_drew1) | exact HB.out)⟩⟩
             case rest =>
              clear HC35
              try clear c1
              try clear q1
              try clear c2
              try clear p2
              try clear q2
              try clear hx2
              try clear c3
              try clear c6
              try clear p6
              try clear c8
              try clear c9
              try clear c9b0
              try clear c9b1
              try clear c10
              try clear c10b0
              try clear c10b1
              try clear q11
              try clear c12
              try clear c12b0
              try clear c13
              try clear c13b0
              try clear c15
              try clear c16
              try clear c20
              try clear c22
              try clear p24
              try clear q24
              try clear hx24
              try clear c25
              try clear c27
              try clear c29
              try clear c30
              try clear c32
              try clear c37
              try clear c38
              try clear hx245_0
              try clear p2
              try clear p24
              try clear p245
              try clear p6
              try clear q1
              try clear q11
              try clear q2
              try clear q24
              try clear q245
              obtain ⟨kq, x53_34, rfl, HA, HJ34, HB⟩ := hcut
              cases kq with
              | zero => exact absurd HA.out (by simp [engrosslaw3_FloatEdges.j5])
              | succ kj34 =>
               have H := HA.out
               clear HA
               simp only [engrosslaw3_FloatEdges.j5] at H
               by_cases c39 : x53_34 = true
               ·subst c39
                have H1 : ((engrosslaw3_of.f 9221120237041090560).bind fun t263 => ((engrossref1_Bits.f t262 t263).bind fun t264 => (some t264))) = some r := by rw [if_pos rfl] at H; exact H
                clear H
                have H := H1
                clear H1
                replace H := Option.bind_eq_some_iff.mp H
                obtain ⟨t263, A400, H⟩ := H
                replace H : ((engrossref1_Bits.f t262 t263).bind fun t264 => (some t264)) = some r := H
                have A40 := Aside0.mk A400
                clear A400
                replace H := Option.bind_eq_some_iff.mp H
                obtain ⟨t264, A410, H⟩ := H
                replace H : (some t264) = some r := H
                have A41 := Aside0.mk A410
                clear A410
                obtain rfl := Option.some.inj H
                go_wp2_with (first | ((with_reducible refine gate_callee (f := 16) rfl ?_); refine goesL_ (some 62) rfl rfl Try.func16 (by kernel_rfl) rfl #[.int .u64 9221120237041090560] rfl (by (try simp only [List.map_toArray, List.map_cons, List.map_nil]); first | done | rfl | (simp only [List.length_drop, List.length_take]; rfl)) ?_; (with_reducible refine (engrosslaw3_of.calls 9221120237041090560 t263 _ A40.out).mono ?_); rintro e w' ⟨rfl, ⟨nd, rfl⟩⟩; refine ⟨_, rfl, ?_⟩) | ((with_reducible refine gate_callee (f := 23) rfl ?_); refine goesL_ (some 63) rfl rfl Try.func23 (by kernel_rfl) rfl #[.float .f64 t262, .float .f64 t263] rfl (by (try simp only [List.map_toArray, List.map_cons, List.map_nil]); first | done | rfl | (simp only [List.length_drop, List.length_take]; rfl)) ?_; (with_reducible refine (engrossref1_Bits.calls t262 t263 t264 _ A41.out).mono ?_); rintro e w' ⟨rfl, ⟨nd, rfl⟩⟩; refine ⟨_, rfl, ?_⟩))
                go_ret
                exact ⟨by first | rfl | (simp [errW_none, errW_some] <;> rfl) | (simp [*, errW_none, errW_some] <;> rfl), by repeat (first | (with_reducible first | exact HB.out | apply below_alloc | apply pw_below_drewN | apply below_drew1) | exact HB.out)⟩
               ·replace c39 := Bool.eq_false_iff.mpr c39
                subst c39
                have H1 : (if a2 = true then ((engrosslaw3_of.f 9218868437227405312).bind fun t265 => ((engrossref1_Bits.f t262 t265).bind fun t266 => (some t266))) else (if a3 = true then ((engrosslaw3_of.f 18442240474082181120).bind fun t267 => ((engrossref1_Bits.f t262 t267).bind fun t268 => (some t268))) else ((engrossref1_NaN.f t262).bind fun t269 => (if t269 = true then (none) else (if (FloatKind.f64.format.order t262 4607182418800017408 == some .lt) = true then (some (FloatKind.f64.format.order t262 13830554455654793216 == some .gt)) else (none)))))) = some r := by rw [if_neg (show ¬ (false = true) by decide)] at H; exact H
                clear H
                have H := H1
                clear H1
                by_cases c42 : a2 = true
                ·subst c42
                 have H1 : ((engrosslaw3_of.f 9218868437227405312).bind fun t265 => ((engrossref1_Bits.f t262 t265).bind fun t266 => (some t266))) = some r := by rw [if_pos rfl] at H; exact H
                 clear H
                 have H := H1
                 clear H1
                 replace H := Option.bind_eq_some_iff.mp H
                 obtain ⟨t265, A430, H⟩ := H
                 replace H : ((engrossref1_Bits.f t262 t265).bind fun t266 => (some t266)) = some r := H
                 have A43 := Aside0.mk A430
                 clear A430
                 replace H := Option.bind_eq_some_iff.mp H
                 obtain ⟨t266, A440, H⟩ := H
                 replace H : (some t266) = some r := H
                 have A44 := Aside0.mk A440
                 clear A440
                 obtain rfl := Option.some.inj H
                 go_wp2_with (first | ((with_reducible refine gate_callee (f := 16) rfl ?_); refine goesL_ (some 67) rfl rfl Try.func16 (by kernel_rfl) rfl #[.int .u64 9218868437227405312] rfl (by (try simp only [List.map_toArray, List.map_cons, List.map_nil]); first | done | rfl | (simp only [List.length_drop, List.length_take]; rfl)) ?_; (with_reducible refine (engrosslaw3_of.calls 9218868437227405312 t265 _ A43.out).mono ?_); rintro e w' ⟨rfl, ⟨nd, rfl⟩⟩; refine ⟨_, rfl, ?_⟩) | ((with_reducible refine gate_callee (f := 23) rfl ?_); refine goesL_ (some 68) rfl rfl Try.func23 (by kernel_rfl) rfl #[.float .f64 t262, .float .f64 t265] rfl (by (try simp only [List.map_toArray, List.map_cons, List.map_nil]); first | done | rfl | (simp only [List.length_drop, List.length_take]; rfl)) ?_; (with_reducible refine (engrossref1_Bits.calls t262 t265 t266 _ A44.out).mono ?_); rintro e w' ⟨rfl, ⟨nd, rfl⟩⟩; refine ⟨_, rfl, ?_⟩))
                 go_ret
                 exact ⟨by first | rfl | (simp [errW_none, errW_some] <;> rfl) | (simp [*, errW_none, errW_some] <;> rfl), by repeat (first | (with_reducible first | exact HB.out | apply below_alloc | apply pw_below_drewN | apply below_drew1) | exact HB.out)⟩
                ·replace c42 := Bool.eq_false_iff.mpr c42
                 subst c42
                 have H1 : (if a3 = true then ((engrosslaw3_of.f 18442240474082181120).bind fun t267 => ((engrossref1_Bits.f t262 t267).bind fun t268 => (some t268))) else ((engrossref1_NaN.f t262).bind fun t269 => (if t269 = true then (none) else (if (FloatKind.f64.format.order t262 4607182418800017408 == some .lt) = true then (some (FloatKind.f64.format.order t262 13830554455654793216 == some .gt)) else (none))))) = some r := by rw [if_neg (show ¬ (false = true) by decide)] at H; exact H
                 clear H
                 have H := H1
                 clear H1
                 by_cases c45 : a3 = true
                 ·subst c45
                  have H1 : ((engrosslaw3_of.f 18442240474082181120).bind fun t267 => ((engrossref1_Bits.f t262 t267).bind fun t268 => (some t268))) = some r := by rw [if_pos rfl] at H; exact H
                  clear H
                  have H := H1
                  clear H1
                  replace H := Option.bind_eq_some_iff.mp H
                  obtain ⟨t267, A460, H⟩ := H
                  replace H : ((engrossref1_Bits.f t262 t267).bind fun t268 => (some t268)) = some r := H
                  have A46 := Aside0.mk A460
                  clear A460
                  replace H := Option.bind_eq_some_iff.mp H
                  obtain ⟨t268, A470, H⟩ := H
                  replace H : (some t268) = some r := H
                  have A47 := Aside0.mk A470
                  clear A470
                  obtain rfl := Option.some.inj H
                  go_wp2_with (first | ((with_reducible refine gate_callee (f := 16) rfl ?_); refine goesL_ (some 72) rfl rfl Try.func16 (by kernel_rfl) rfl #[.int .u64 18442240474082181120] rfl (by (try simp only [List.map_toArray, List.map_cons, List.map_nil]); first | done | rfl | (simp only [List.length_drop, List.length_take]; rfl)) ?_; (with_reducible refine (engrosslaw3_of.calls 18442240474082181120 t267 _ A46.out).mono ?_); rintro e w' ⟨rfl, ⟨nd, rfl⟩⟩; refine ⟨_, rfl, ?_⟩) | ((with_reducible refine gate_callee (f := 23) rfl ?_); refine goesL_ (some 73) rfl rfl Try.func23 (by kernel_rfl) rfl #[.float .f64 t262, .float .f64 t267] rfl (by (try simp only [List.map_toArray, List.map_cons, List.map_nil]); first | done | rfl | (simp only [List.length_drop, List.length_take]; rfl)) ?_; (with_reducible refine (engrossref1_Bits.calls t262 t267 t268 _ A47.out).mono ?_); rintro e w' ⟨rfl, ⟨nd, rfl⟩⟩; refine ⟨_, rfl, ?_⟩))
                  go_ret
                  exact ⟨by first | rfl | (simp [errW_none, errW_some] <;> rfl) | (simp [*, errW_none, errW_some] <;> rfl), by repeat (first | (with_reducible first | exact HB.out | apply below_alloc | apply pw_below_drewN | apply below_drew1) | exact HB.out)⟩
                 ·replace c45 := Bool.eq_false_iff.mpr c45
                  subst c45
                  have H1 : ((engrossref1_NaN.f t262).bind fun t269 => (if t269 = true then (none) else (if (FloatKind.f64.format.order t262 4607182418800017408 == some .lt) = true then (some (FloatKind.f64.format.order t262 13830554455654793216 == some .gt)) else (none)))) = some r := by rw [if_neg (show ¬ (false = true) by decide)] at H; exact H
                  clear H
                  have H := H1
                  clear H1
                  replace H := Option.bind_eq_some_iff.mp H
                  obtain ⟨t269, A480, H⟩ := H
                  replace H : (if t269 = true then (none) else (if (FloatKind.f64.format.order t262 4607182418800017408 == some .lt) = true then (some (FloatKind.f64.format.order t262 13830554455654793216 == some .gt)) else (none))) = some r := H
                  have A48 := Aside0.mk A480
                  clear A480
                  by_cases c49 : t269 = true
                  ·subst c49
                   have H1 : (none) = some r := by rw [if_pos rfl] at H; exact H
                   clear H
                   have H := H1
                   clear H1
                   exact absurd H (by simp)
                  ·replace c49 := Bool.eq_false_iff.mpr c49
                   subst c49
                   have H1 : (if (FloatKind.f64.format.order t262 4607182418800017408 == some .lt) = true then (some (FloatKind.f64.format.order t262 13830554455654793216 == some .gt)) else (none)) = some r := by rw [if_neg (show ¬ (false = true) by decide)] at H; exact H
                   clear H
                   have H := H1
                   clear H1
                   by_cases c50 : (FloatKind.f64.format.order t262 4607182418800017408 == some .lt) = true
                   ·rw [if_pos c50] at H
                    have c50b0 : (FloatKind.f64.format.order t262 4607182418800017408 == some .lt) = true := c50
                    (try (have c50b1 : decide (FloatKind.f64.format.order t262 4607182418800017408 = some .lt) = true := by simpa using c50))
                    (try (have c50b2 : (FloatKind.f64.format.order t262 4607182418800017408 == some .lt) = true := by simpa using c50))
                    clear c50
                    obtain rfl := Option.some.inj H
                    go_wp2_with (first | ((with_reducible refine gate_callee (f := 28) rfl ?_); refine goesL_ (some 75) rfl rfl Try.func28 (by kernel_rfl) rfl #[.float .f64 t262] rfl (by (try simp only [List.map_toArray, List.map_cons, List.map_nil]); first | done | rfl | (simp only [List.length_drop, List.length_take]; rfl)) ?_; (with_reducible refine (engrossref1_NaN.calls t262 false _ A48.out).mono ?_); rintro e w' ⟨rfl, ⟨nd, rfl⟩⟩; refine ⟨_, rfl, ?_⟩))
                    go_ret
                    exact ⟨by first | rfl | (simp [errW_none, errW_some] <;> rfl) | (simp [*, errW_none, errW_some] <;> rfl), by repeat (first | (with_reducible first | exact HB.out | apply below_alloc | apply pw_below_drewN | apply below_drew1) | exact HB.out)⟩
                   ·rw [if_neg c50] at H
                    exact absurd H (by simp)
 ·replace c6 := Bool.eq_false_iff.mpr c6
  subst c6
  have H1 : (none) = some r := by rw [if_neg (show ¬ (false = true) by decide)] at H; exact H
  clear H
  have H := H1
  clear H1
  exact absurd H (by simp)

/-- THE ONE PURE STATEMENT of engrosslaw3_FloatEdges: yours. -/
def engrosslaw3_FloatEdges.Pure : Prop := ∀ (l0 : List Int) (a1 : Bool) (a2 : Bool) (a3 : Bool), l0.length ≤ maxLen → l0.length * 8 ≤ 140737488351232 → (∀ x ∈ l0, (Lit.int .u64 x).wf = true) → ∃ k, engrosslaw3_FloatEdges.f k l0 a1 a2 a3 = some true
theorem engrosslaw3_FloatEdges.walk (P : engrosslaw3_FloatEdges.Pure) (a0 : Option Addr) (len0 cap0 : Nat) (z0 : List Int) (a1 : Bool) (a2 : Bool) (a3 : Bool) (w : World) (w0 : (a0 = none ∧ len0 = 0 ∧ cap0 = 0 ∧ z0 = []) ∨ ∃ x, a0 = some x ∧ len0 ≤ cap0 ∧ cap0 ≤ maxLen ∧ z0.length = cap0 ∧ (∀ i, i < z0.length → w.cell? (x.add i) = some (.int .u64 (z0.getD i 0))) ∧ ∀ n ∈ z0, (Lit.int .u64 n).wf = true) (y0 : len0 * 8 ≤ 140737488351232) :
  Calls Try.prog 8 #[.slice a0 len0 cap0, .bool a1, .bool a2, .bool a3] w fun e w' => e = .returned (.bool true) ∧ Below w.heap.size w w' := by
 obtain ⟨l0, rfl, hr0, hm0, hw0, hc0⟩ := ReadsInt.ofRowC w0
 obtain ⟨k, h⟩ := P l0 a1 a2 a3 hm0 y0 hw0
 refine (engrosslaw3_FloatEdges.calls k (fun k_ => k_ < w.heap.size) _ _ l0 a1 a2 a3 true w (Kd.V_mk hc0 (Kd.C_F (Kd.heap_int .u64) (Kd.C_of_reads (d := (0 : Int)) (h1 := fun _ => rfl) hr0))) h).mono ?_
 rintro e w' ⟨rfl, hd⟩
 exact ⟨rfl, hd⟩

end Go.Proofs.Ytaphfjfalbeojaa.P
