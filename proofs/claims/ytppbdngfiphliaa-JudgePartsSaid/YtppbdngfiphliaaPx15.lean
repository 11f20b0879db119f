/- Functions of the program as Lean functions, and that each call answers as its function does. No condition. (Lines written by a generator of this session.) -/
import Derived.Test.YtppbdngfiphliaaPx0
import Derived.Test.YtppbdngfiphliaaPx3
import Derived.Test.YtppbdngfiphliaaPx4
import Derived.Test.YtppbdngfiphliaaPx7
import Derived.Test.YtppbdngfiphliaaPx8
import Derived.Test.YtppbdngfiphliaaPx9
namespace Go.Proofs.Ytppbdngfiphliaa.P
open Go.RowKit Go.Proofs.YtppbdngfiphliaaW.PrintWords Go.Proofs.YtppbdngfiphliaaW.PrintLast Go.Proofs.YtppbdngfiphliaaW.PrintMore
attribute [local go_sem] max2_int min2_int max_two min_two max_three min_three max_four min_four   -- for this text's walks alone
attribute [local go_sem] x_str_gtr x_str_leq x_str_geq ext_bits ext_frombits ext_neg x_store_float Instr.field asAgg
set_option linter.unusedVariables false
set_option linter.unusedSimpArgs false

/-! ### engrosslaw28_JudgeOver: function 4 -/
def engrosslaw28_JudgeOver.j0 : Nat → List (S38) → Int → Bool → Option (Bool)
 | 0, _, _, _ => none
 | k + 1, x0, x1, x21 => if x21 = true then (some true) else (if 0 ≤ x1 then (if x1 ≤ (x0.length : Int) then ((judge_Over.f k ([] : List (S38)) (x0.take (x1 : Int).toNat)).bind fun t320 => ((judge_Over.f k t320 (x0.drop (x1 : Int).toNat)).bind fun t327 => ((judge_Over.f k ([] : List (S38)) x0).bind fun t330 => ((judge_Same.f k t327 t330).bind fun t333 => (if t333 = true then (if (t320.length : Int) = (t320.length : Int) then ((judge_Over.f k t327 ([] : List (S38))).bind fun t334 => ((judge_Same.f k t334 t327).bind fun t337 => (if t337 = true then ((judge_Sorted.f k t320).bind fun t338 => (some t338)) else (none)))) else (none)) else (none)))))) else (none)) else (none))
def engrosslaw28_JudgeOver.f (k : Nat) (l0 : List (S38)) (a1 : Int) : Option (Bool) := (engrosslaw28_begun.f k).bind fun t312 => (if t312 = true then ((engrosslaw28_Pairs.f k l0).bind fun t313 => (if a1 < 0 then (engrosslaw28_JudgeOver.j0 k t313 a1 true) else (engrosslaw28_JudgeOver.j0 k t313 a1 (decide (a1 > (t313.length : Int)))))) else (none))
theorem engrosslaw28_JudgeOver.mono_l : ∀ k, (∀ y0 y1 y2, LeO (engrosslaw28_JudgeOver.j0 k y0 y1 y2) (engrosslaw28_JudgeOver.j0 (k + 1) y0 y1 y2))
 | 0 => fun _ _ _ r h => by simp [engrosslaw28_JudgeOver.j0] at h
 | k + 1 => by
  have ih0 := engrosslaw28_JudgeOver.mono_l k
  ·intro y0 y1 y2
   unfold engrosslaw28_JudgeOver.j0
   repeat' first
   | (with_reducible exact ih0 _ _ _)
   | (with_reducible exact engrosslaw28_Pairs.mono _ _)
   | (with_reducible exact engrosslaw28_begun.mono _)
   | (with_reducible exact judge_Over.mono _ _ _)
   | (with_reducible exact judge_Same.mono _ _ _)
   | (with_reducible exact judge_Sorted.mono _ _)
   | (with_reducible exact LeO.refl _)
   | (with_reducible exact LeO.none _)
   | (with_reducible refine LeO.ite ?_ ?_)
   | (with_reducible refine LeO.bind ?_ (fun _ => ?_))
   | exact ih0 _ _ _
   | exact engrosslaw28_Pairs.mono _ _
   | exact engrosslaw28_begun.mono _
   | exact judge_Over.mono _ _ _
   | exact judge_Same.mono _ _ _
   | exact judge_Sorted.mono _ _
   | exact LeO.none _
   | refine LeO.ite ?_ ?_
   | refine LeO.bind ?_ (fun _ => ?_)
theorem engrosslaw28_JudgeOver.mono : ∀ a0 a1 k, LeO (engrosslaw28_JudgeOver.f k a0 a1) (engrosslaw28_JudgeOver.f (k + 1) a0 a1) := by
 intro a0 a1 k
 have ih0 := engrosslaw28_JudgeOver.mono_l k
 unfold engrosslaw28_JudgeOver.f
 repeat' first
   | (with_reducible exact ih0 _ _ _)
   | (with_reducible exact engrosslaw28_Pairs.mono _ _)
   | (with_reducible exact engrosslaw28_begun.mono _)
   | (with_reducible exact judge_Over.mono _ _ _)
   | (with_reducible exact judge_Same.mono _ _ _)
   | (with_reducible exact judge_Sorted.mono _ _)
   | (with_reducible exact LeO.refl _)
   | (with_reducible exact LeO.none _)
   | (with_reducible refine LeO.ite ?_ ?_)
   | (with_reducible refine LeO.bind ?_ (fun _ => ?_))
   | exact ih0 _ _ _
   | exact engrosslaw28_Pairs.mono _ _
   | exact engrosslaw28_begun.mono _
   | exact judge_Over.mono _ _ _
   | exact judge_Same.mono _ _ _
   | exact judge_Sorted.mono _ _
   | exact LeO.none _
   | refine LeO.ite ?_ ?_
   | refine LeO.bind ?_ (fun _ => ?_)
set_option maxHeartbeats 8000000 in
set_option maxRecDepth 100000 in
theorem engrosslaw28_JudgeOver.calls (k : Nat) (A0 : Option Addr) (c0 : Nat) (l0 : List (S38)) (a1 : Int) (r : Bool) (w : World) (hr0 : Kd.C k38 w A0 l0.length l0) (hc0 : l0.length ≤ c0) (h : engrosslaw28_JudgeOver.f k l0 a1 = some r) :
  Calls Try.prog 4 #[.slice A0 l0.length c0, .int .i64 a1] w fun e w' => e = .returned (.bool r) ∧ Below w.heap.size w w' := by
 have HR0 := Aside0.mk hr0
 have HC0 := Aside0.mk hc0
 clear hr0 hc0
 have HB := Aside0.mk (Below.refl w.heap.size w)
 have H : ((engrosslaw28_begun.f k).bind fun t312 => (if t312 = true then ((engrosslaw28_Pairs.f k l0).bind fun t313 => (if a1 < 0 then (engrosslaw28_JudgeOver.j0 k t313 a1 true) else (engrosslaw28_JudgeOver.j0 k t313 a1 (decide (a1 > (t313.length : Int)))))) else (none))) = some r := h
 clear h
 replace H := Option.bind_eq_some_iff.mp H
 obtain ⟨t312, A30, H⟩ := H
 replace H : (if t312 = true then ((engrosslaw28_Pairs.f k l0).bind fun t313 => (if a1 < 0 then (engrosslaw28_JudgeOver.j0 k t313 a1 true) else (engrosslaw28_JudgeOver.j0 k t313 a1 (decide (a1 > (t313.length : Int)))))) else (none)) = some r := H
 have A3 := Aside0.mk A30
 clear A30
 by_cases c4 : t312 = true
 ·subst c4
  have H1 : ((engrosslaw28_Pairs.f k l0).bind fun t313 => (if a1 < 0 then (engrosslaw28_JudgeOver.j0 k t313 a1 true) else (engrosslaw28_JudgeOver.j0 k t313 a1 (decide (a1 > (t313.length : Int)))))) = some r := by rw [if_pos rfl] at H; exact H
  clear H
  have H := H1
  clear H1
  replace H := Option.bind_eq_some_iff.mp H
  obtain ⟨t313, A50, H⟩ := H
  replace H : (if a1 < 0 then (engrosslaw28_JudgeOver.j0 k t313 a1 true) else (engrosslaw28_JudgeOver.j0 k t313 a1 (decide (a1 > (t313.length : Int))))) = some r := H
  have A5 := Aside0.mk A50
  clear A50
  have HC6 := Aside0.mk H
  clear H
  go_enter Try.func4, Try.ntmps4
  go_upto_region 5 with (first | ((with_reducible refine gate_callee (f := 7) rfl ?_); refine goesL_ (some 9) rfl rfl Try.func7 (by kernel_rfl) rfl #[] rfl (by (try simp only [List.map_toArray, List.map_cons, List.map_nil]); first | done | rfl | (simp only [List.length_drop, List.length_take]; rfl)) ?_; (with_reducible refine (engrosslaw28_begun.calls k  true _ A3.out).mono ?_); rintro e w7 ⟨rfl, hb⟩; refine ⟨_, rfl, ?_⟩; replace HB := bW HB hb; (try clear hb); (try clear hb2); (try clear hk); (try clear hi)) | ((with_reducible refine gate_callee (f := 8) rfl ?_); refine goesL_ (some 13) rfl rfl Try.func8 (by kernel_rfl) rfl #[.slice A0 l0.length c0] rfl (by (try simp only [List.map_toArray, List.map_cons, List.map_nil]); first | done | rfl | (simp only [List.length_drop, List.length_take]; rfl)) ?_; (with_reducible refine (engrosslaw28_Pairs.calls k _ _ l0 t313 _ ?side1 ?side2 A5.out).mono ?_); (case side1 => repeat (first | exact (Kd.C_below HR0.out HB.out) | (with_reducible refine Kd.C_alloc ?_ _) | (with_reducible refine Kd.C_drewN ?_ _) | (with_reducible refine Kd.C_drew ?_))); (case side2 => exact HC0.out); rintro e w8 ⟨v314, rfl, ho0, hb⟩; refine ⟨_, rfl, ?_⟩; have HO315 := Aside0.mk (Kd.R_lower ho0 (below_size (bC HB))); replace HB := bW HB hb; (try clear hb); (try clear hb2); (try clear hk); (try clear hi); (try clear ho0)))
  (try simp only [Act.put, List.setIfInBounds_toArray, List.set_cons_zero, List.set_cons_succ])
  go_cut [21] (fun v21 wc => ∃ (kq : Nat) (x21_5 : Bool), v21 = .bool x21_5 ∧ Aside0 (engrosslaw28_JudgeOver.j0 kq t313 a1 x21_5 = some r) ∧ Aside0 (kq ≤ k) ∧ Aside0 (Kd.R k38 38 wc w.heap.size (fun _ => True) v314 t313) ∧ Aside0 (Below w.heap.size w wc))
  case first =>
   have H := HC6.out
   clear HC6
   by_cases c9 : a1 < 0
   ·rw [if_pos c9] at H
    have c9b0 : decide (a1 < 0) = true := decide_eq_true c9
    clear c9
    (first | rw [c9b0] | (simp only [i64_w, i32_w]; rw [c9b0]) | skip)
    have H' := Aside0.mk H
    clear H
    go_wp2
    go_meet
    case rel => exact ⟨_, (true), (by first | rfl | (simp; done) | (simp [*]; done)), H', ⟨by first | omega | exact Nat.le_refl _⟩, ⟨by (with_reducible repeat (first | apply Kd.R_alloc | apply Kd.R_drewN | apply Kd.R_drew)); exact HO315.out⟩, ⟨by repeat (first | (with_reducible first | exact HB.out | apply below_alloc | apply pw_below_drewN | apply below_drew1) | exact HB.out)⟩⟩
   ·rw [if_neg c9] at H
    have c9b0 : decide (a1 < 0) = false := decide_eq_false c9
    clear c9
    (first | rw [c9b0] | (simp only [i64_w, i32_w]; rw [c9b0]) | skip)
    have H' := Aside0.mk H
    clear H
    obtain ⟨Ao10, co10, eo10⟩ := Kd.R_slice HO315.out
    subst eo10
    go_wp2
    go_meet
    case rel => exact ⟨_, (decide (a1 > (t313.length : Int))), (by first | rfl | (simp; done) | (simp [*]; done)), H', ⟨by first | omega | exact Nat.le_refl _⟩, ⟨by (with_reducible repeat (first | apply Kd.R_alloc | apply Kd.R_drewN | apply Kd.R_drew)); exact HO315.out⟩, ⟨by repeat (first | (with_reducible first | exact HB.out | apply below_alloc | apply pw_below_drewN | apply below_drew1) | exact HB.out)⟩⟩
  case rest =>
   clear HC6
   try clear p2
   try clear c4
   try clear c7
   try clear c8
   try clear c9
   try clear c9b0
   obtain ⟨kq, x21_5, rfl, HA, HJ5, HO_0, HB⟩ := hcut
   cases kq with
   | zero => exact absurd HA.out (by simp [engrosslaw28_JudgeOver.j0])
   | succ kj5 =>
    have H := HA.out
    clear HA
    simp only [engrosslaw28_JudgeOver.j0] at H
    by_cases c11 : x21_5 = true
    ·subst c11
     have H1 : (some true) = some r := by rw [if_pos rfl] at H; exact H
     clear H
     have H := H1
     clear H1
     obtain rfl := Option.some.inj H
     go_wp2
     go_ret
     exact ⟨by first | rfl | (simp [errW_none, errW_some] <;> rfl) | (simp [*, errW_none, errW_some] <;> rfl), by repeat (first | (with_reducible first | exact HB.out | apply below_alloc | apply pw_below_drewN | apply below_drew1) | exact HB.out)⟩
    ·replace c11 := Bool.eq_false_iff.mpr c11
     subst c11
     have H1 : (if 0 ≤ a1 then (if a1 ≤ (t313.length : Int) then ((judge_Over.f kj5 ([] : List (S38)) (t313.take (a1 : Int).toNat)).bind fun t320 => ((judge_Over.f kj5 t320 (t313.drop (a1 : Int).toNat)).bind fun t327 => ((judge_Over.f kj5 ([] : List (S38)) t313).bind fun t330 => ((judge_Same.f kj5 t327 t330).bind fun t333 => (if t333 = true then (if (t320.length : Int) = (t320.length : Int) then ((judge_Over.f kj5 t327 ([] : List (S38))).bind fun t334 => ((judge_Same.f kj5 t334 t327).bind fun t337 => (if t337 = true then ((judge_Sorted.f kj5 t320).bind fun t338 => (some t338)) else (none)))) else (none)) else (none)))))) else (none)) else (none)) = some r := by rw [if_neg (show ¬ (false = true) by decide)] at H; (first | exact H | (simp only [eq_self_iff_true, if_true] at H ⊢; exact H))
     clear H
     have H := H1
     clear H1
     by_cases c12 : 0 ≤ a1
     ·rw [if_pos c12] at H
      have c12b0 := eq_true c12
      have c12b1 : decide (0 ≤ a1) = true := decide_eq_true c12
      clear c12
      by_cases c13 : a1 ≤ (t313.length : Int)
      ·rw [if_pos c13] at H
       have c13b0 := eq_true c13
       have c13b1 : decide (a1 ≤ (t313.length : Int)) = true := decide_eq_true c13
       clear c13
       obtain ⟨y316, hy316⟩ : ∃ y_ : List (S38), y_ = (t313.take (a1 : Int).toNat) := ⟨_, rfl⟩
       replace H : ((judge_Over.f kj5 ([] : List (S38)) y316).bind fun t320 => ((judge_Over.f kj5 t320 (t313.drop (a1 : Int).toNat)).bind fun t327 => ((judge_Over.f kj5 ([] : List (S38)) t313).bind fun t330 => ((judge_Same.f kj5 t327 t330).bind fun t333 => (if t333 = true then (if (t320.length : Int) = (t320.length : Int) then ((judge_Over.f kj5 t327 ([] : List (S38))).bind fun t334 => ((judge_Same.f kj5 t334 t327).bind fun t337 => (if t337 = true then ((judge_Sorted.f kj5 t320).bind fun t338 => (some t338)) else (none)))) else (none)) else (none)))))) = some r := by first | (rw [hy316]; with_reducible exact H) | (have H2_ := (Option.bind_some _ _).symm.trans H; rw [hy316]; with_reducible exact H2_) | (have H2_ := (Option.bind_some _ _).symm.trans H; with_reducible exact H2_) | with_reducible exact H | (rw [hy316]; exact H) | exact H
       have Ny316 := Aside0.mk hy316
       clear hy316
       replace H := Option.bind_eq_some_iff.mp H
       obtain ⟨t320, A140, H⟩ := H
       replace H : ((judge_Over.f kj5 t320 (t313.drop (a1 : Int).toNat)).bind fun t327 => ((judge_Over.f kj5 ([] : List (S38)) t313).bind fun t330 => ((judge_Same.f kj5 t327 t330).bind fun t333 => (if t333 = true then (if (t320.length : Int) = (t320.length : Int) then ((judge_Over.f kj5 t327 ([] : List (S38))).bind fun t334 => ((judge_Same.f kj5 t334 t327).bind fun t337 => (if t337 = true then ((judge_Sorted.f kj5 t320).bind fun t338 => (some t338)) else (none)))) else (none)) else (none))))) = some r := H
       have A14 := Aside0.mk A140
       clear A140
       have c15b0 := eq_true (of_decide_eq_true (by first | (with_reducible assumption) | assumption) : 0 ≤ a1)
       have c16b0 := eq_true (of_decide_eq_true (by first | (with_reducible assumption) | assumption) : a1 ≤ (t313.length : Int))
       obtain ⟨y323, hy323⟩ : ∃ y_ : List (S38), y_ = (t313.drop (a1 : Int).toNat) := ⟨_, rfl⟩
       replace H : ((judge_Over.f kj5 t320 y323).bind fun t327 => ((judge_Over.f kj5 ([] : List (S38)) t313).bind fun t330 => ((judge_Same.f kj5 t327 t330).bind fun t333 => (if t333 = true then (if (t320.length : Int) = (t320.length : Int) then ((judge_Over.f kj5 t327 ([] : List (S38))).bind fun t334 => ((judge_Same.f kj5 t334 t327).bind fun t337 => (if t337 = true then ((judge_Sorted.f kj5 t320).bind fun t338 => (some t338)) else (none)))) else (none)) else (none))))) = some r := by first | (rw [hy323]; with_reducible exact H) | (have H2_ := (Option.bind_some _ _).symm.trans H; rw [hy323]; with_reducible exact H2_) | (have H2_ := (Option.bind_some _ _).symm.trans H; with_reducible exact H2_) | with_reducible exact H | (rw [hy323]; exact H) | exact H
       have Ny323 := Aside0.mk hy323
       clear hy323
       replace H := Option.bind_eq_some_iff.mp H
       obtain ⟨t327, A170, H⟩ := H
       replace H : ((judge_Over.f kj5 ([] : List (S38)) t313).bind fun t330 => ((judge_Same.f kj5 t327 t330).bind fun t333 => (if t333 = true then (if (t320.length : Int) = (t320.length : Int) then ((judge_Over.f kj5 t327 ([] : List (S38))).bind fun t334 => ((judge_Same.f kj5 t334 t327).bind fun t337 => (if t337 = true then ((judge_Sorted.f kj5 t320).bind fun t338 => (some t338)) else (none)))) else (none)) else (none)))) = some r := H
       have A17 := Aside0.mk A170
       clear A170
       replace H := Option.bind_eq_some_iff.mp H
       obtain ⟨t330, A180, H⟩ := H
       replace H : ((judge_Same.f kj5 t327 t330).bind fun t333 => (if t333 = true then (if (t320.length : Int) = (t320.length : Int) then ((judge_Over.f kj5 t327 ([] : List (S38))).bind fun t334 => ((judge_Same.f kj5 t334 t327).bind fun t337 => (if t337 = true then ((judge_Sorted.f kj5 t320).bind fun t338 => (some t338)) else (none)))) else (none)) else (none))) = some r := H
       have A18 := Aside0.mk A180
       clear A180
       replace H := Option.bind_eq_some_iff.mp H
       obtain ⟨t333, A190, H⟩ := H
       replace H : (if t333 = true then (if (t320.length : Int) = (t320.length : Int) then ((judge_Over.f kj5 t327 ([] : List (S38))).bind fun t334 => ((judge_Same.f kj5 t334 t327).bind fun t337 => (if t337 = true then ((judge_Sorted.f kj5 t320).bind fun t338 => (some t338)) else (none)))) else (none)) else (none)) = some r := H
       have A19 := Aside0.mk A190
       clear A190
       by_cases c20 : t333 = true
       ·subst c20
        have H1 : (if (t320.length : Int) = (t320.length : Int) then ((judge_Over.f kj5 t327 ([] : List (S38))).bind fun t334 => ((judge_Same.f kj5 t334 t327).bind fun t337 => (if t337 = true then ((judge_Sorted.f kj5 t320).bind fun t338 => (some t338)) else (none)))) else (none)) = some r := by rw [if_pos rfl] at H; exact H
        clear H
        have H := H1
        clear H1
        by_cases c21 : (t320.length : Int) = (t320.length : Int)
        ·rw [if_pos c21] at H
         have c21b0 : ((t320.length : Int) == (t320.length : Int)) = true := beq_iff_eq.mpr c21
         have c21b1 : ((t320.length : Int) != (t320.length : Int)) = false := bne_eq_false_iff_eq.mpr c21
         have c21b2 : (t320.length == t320.length) = true := by simp
         clear c21
         replace H := Option.bind_eq_some_iff.mp H
         obtain ⟨t334, A220, H⟩ := H
         replace H : ((judge_Same.f kj5 t334 t327).bind fun t337 => (if t337 = true then ((judge_Sorted.f kj5 t320).bind fun t338 => (some t338)) else (none))) = some r := H
         have A22 := Aside0.mk A220
         clear A220
         replace H := Option.bind_eq_some_iff.mp H
         obtain ⟨t337, A230, H⟩ := H
         replace H : (if t337 = true then ((judge_Sorted.f kj5 t320).bind fun t338 => (some t338)) else (none)) = some r := H
         have A23 := Aside0.mk A230
         clear A230
         by_cases c24 : t337 = true
         ·subst c24
          have H1 : ((judge_Sorted.f kj5 t320).bind fun t338 => (some t338)) = some r := by rw [if_pos rfl] at H; exact H
          clear H
          have H := H1
          clear H1
          replace H := Option.bind_eq_some_iff.mp H
          obtain ⟨t338, A250, H⟩ := H
          replace H : (some t338) = some r := H
          have A25 := Aside0.mk A250
          clear A250
          obtain rfl := Option.some.inj H
          obtain ⟨Ao27, co27, eo27⟩ := Kd.R_slice HO_0.out
          subst eo27
          have q26 : (a1 : Int) ≤ ((t313.length : Int) : Int) := of_decide_eq_true (by first | (with_reducible assumption) | assumption)
          obtain ⟨i026, hi026, _, hsz26, _⟩ := info_parts info38
          have hroom26 : t313.length ≤ co27 := (Kd.R_reads' HO_0.out).2.1
          have hC26 : Kd.C k38 _ Ao27 t313.length t313 := (Kd.R_reads' HO_0.out).2.2
          have hcut26 := cut_to (P := Try.prog) 22 38 .i64 Try.underlying22 hi026 Ao27 t313.length co27 a1 (of_decide_eq_true (by first | (with_reducible assumption) | assumption)) q26 hroom26
          have hr26 := Kd.C_take (m := (a1 : Int).toNat) hC26 (by omega)
          have hy26 : y316.length = (a1 : Int).toNat := (by rw [Ny316.out, List.length_take]; omega)
          rw [← Ny316.out] at hr26
          rw [← hy26] at hcut26
          have HR319 := Aside0.mk hr26
          have HC319 := Aside0.mk (show y316.length ≤ co27 from by omega)
          clear hr26 hC26 hroom26 hi026 hsz26
          have KY26 := Aside0.mk hy26
          clear hy26
          have KL26 := Aside0.mk (show (a1 : Int).toNat ≤ t313.length from by omega)
          replace q26 := eq_true q26
          go_wp2_with (first | (go_at_call 19; refine calls_of_args (args' := #[.slice none ([] : List (S38)).length 0, .slice Ao27 y316.length co27]) (by first | rfl | ((try simp only [List.map_toArray, List.map_cons, List.map_nil]); rfl)) ?_; (with_reducible refine (judge_Over.calls kj5 _ _ ([] : List (S38)) _ _ y316 t320 _ ?side1 ?side2 ?side3 ?side4 A14.out).mono ?_); (case side1 => exact Kd.C_nil _ _); (case side2 => exact Nat.le_refl _); (case side3 => repeat (first | exact (by repeat (first | (with_reducible exact HR319.out) | (with_reducible refine Kd.C_alloc ?_ _) | (with_reducible refine Kd.C_drewN ?_ _) | (with_reducible refine Kd.C_drew ?_) | exact HR319.out)) | (with_reducible refine Kd.C_alloc ?_ _) | (with_reducible refine Kd.C_drewN ?_ _) | (with_reducible refine Kd.C_drew ?_))); (case side4 => exact HC319.out); rintro e w28 ⟨v321, rfl, ho0, hb⟩; have HO322 := Aside0.mk (Kd.R_lower (Kd.R_new' ho0 (Kd.R_lt (by (with_reducible repeat (first | apply Kd.R_alloc | apply Kd.R_drewN | apply Kd.R_drew)); exact HO_0.out))) (below_size (bC HB))); replace HO_0 := Aside0.mk (Kd.R_elder' (by (with_reducible repeat (first | apply Kd.R_alloc | apply Kd.R_drewN | apply Kd.R_drew)); exact HO_0.out) (Kd.R_base ho0) hb); replace HR319 := Aside0.mk (Kd.C_below (by repeat (first | (with_reducible exact HR319.out) | (with_reducible refine Kd.C_alloc ?_ _) | (with_reducible refine Kd.C_drewN ?_ _) | (with_reducible refine Kd.C_drew ?_) | exact HR319.out)) hb); replace HB := bW HB hb; (try clear hb); (try clear hb2); (try clear hk); (try clear hi); (try clear ho0); obtain ⟨Ao29, co29, eo29⟩ := Kd.R_slice HO322.out; subst eo29; have q30 : (a1 : Int) ≤ ((t313.length : Int) : Int) := of_decide_eq_true (by first | (with_reducible assumption) | assumption); obtain ⟨i030, hi030, _, hsz30, _⟩ := info_parts info38; have hroom30 : t313.length ≤ co27 := (Kd.R_reads' HO_0.out).2.1; have hC30 : Kd.C k38 _ Ao27 t313.length t313 := (Kd.R_reads' HO_0.out).2.2; have q030 : (0 : Int) ≤ (a1 : Int) := of_decide_eq_true (by first | (with_reducible assumption) | assumption); have hcut30 := cut_from (P := Try.prog) 22 38 .i64 Try.underlying22 hi030 4 hsz30 Ao27 t313.length co27 a1 q030 q30; have hr30 := Kd.C_drop (m := (a1 : Int).toNat) (c := co27) hC30 (by omega) hroom30; obtain ⟨A30, hA30⟩ : ∃ A1, A1 = (if co27 = (a1 : Int).toNat then Ao27 else (Ao27 : Option Addr).map (·.add ((a1 : Int).toNat * 4))) := ⟨_, rfl⟩; obtain ⟨c30, hc30⟩ : ∃ c1, c1 = co27 - (a1 : Int).toNat := ⟨_, rfl⟩; have hy30 : y323.length = t313.length - (a1 : Int).toNat := (by rw [Ny323.out, List.length_drop] <;> omega); rw [show (t313).drop (a1 : Int).toNat = y323 from Ny323.out.symm] at hr30; replace hr30 : Kd.C k38 _ A30 y323.length y323 := (by rw [hA30]; exact hr30); rw [← hy30, ← hA30, ← hc30] at hcut30; have HR326 := Aside0.mk hr30; have HC326 := Aside0.mk (show y323.length ≤ c30 from by rw [hy30, hc30]; exact Nat.sub_le_sub_right hroom30 _); clear hr30 hC30 hroom30 hi030 hsz30 hc30; have KY30 := Aside0.mk hy30; have KA30 := Aside0.mk hA30; clear hy30 hA30; have KL30 := Aside0.mk (show (a1 : Int).toNat ≤ t313.length from by omega); replace q30 := eq_true q30) | ((with_reducible refine gate_callee (f := 19) rfl ?_); refine goesL_ (some 32) rfl rfl Try.func19 (by kernel_rfl) rfl #[.slice Ao29 t320.length co29, .slice A30 y323.length c30] rfl (by (try simp only [List.map_toArray, List.map_cons, List.map_nil]); first | done | rfl | (simp only [List.length_drop, List.length_take]; rfl)) ?_; (with_reducible refine (judge_Over.calls kj5 _ _ t320 _ _ y323 t327 _ ?side1 ?side2 ?side3 ?side4 A17.out).mono ?_); (case side1 => repeat (first | exact (Kd.R_reads' HO322.out).2.2 | (with_reducible refine Kd.C_alloc ?_ _) | (with_reducible refine Kd.C_drewN ?_ _) | (with_reducible refine Kd.C_drew ?_))); (case side2 => exact (Kd.R_reads' HO322.out).2.1); (case side3 => repeat (first | exact (by repeat (first | (with_reducible exact HR326.out) | (with_reducible refine Kd.C_alloc ?_ _) | (with_reducible refine Kd.C_drewN ?_ _) | (with_reducible refine Kd.C_drew ?_) | exact HR326.out)) | (with_reducible refine Kd.C_alloc ?_ _) | (with_reducible refine Kd.C_drewN ?_ _) | (with_reducible refine Kd.C_drew ?_))); (case side4 => exact HC326.out); rintro e w31 ⟨v328, rfl, ho0, hb⟩; refine ⟨_, rfl, ?_⟩; have HO329 := Aside0.mk (Kd.R_lower (Kd.R_new' (Kd.R_new' ho0 (Kd.R_lt (by (with_reducible repeat (first | apply Kd.R_alloc | apply Kd.R_drewN | apply Kd.R_drew)); exact HO_0.out))) (Kd.R_lt (by (with_reducible repeat (first | apply Kd.R_alloc | apply Kd.R_drewN | apply Kd.R_drew)); exact HO322.out))) (below_size (bC HB))); replace HO_0 := Aside0.mk (Kd.R_elder' (by (with_reducible repeat (first | apply Kd.R_alloc | apply Kd.R_drewN | apply Kd.R_drew)); exact HO_0.out) (Kd.R_base ho0) hb); replace HO322 := Aside0.mk (Kd.R_elder' (by (with_reducible repeat (first | apply Kd.R_alloc | apply Kd.R_drewN | apply Kd.R_drew)); exact HO322.out) (Kd.R_base ho0) hb); replace HR319 := Aside0.mk (Kd.C_below (by repeat (first | (with_reducible exact HR319.out) | (with_reducible refine Kd.C_alloc ?_ _) | (with_reducible refine Kd.C_drewN ?_ _) | (with_reducible refine Kd.C_drew ?_) | exact HR319.out)) hb); replace HR326 := Aside0.mk (Kd.C_below (by repeat (first | (with_reducible exact HR326.out) | (with_reducible refine Kd.C_alloc ?_ _) | (with_reducible refine Kd.C_drewN ?_ _) | (with_reducible refine Kd.C_drew ?_) | exact HR326.out)) hb); replace HB := bW HB hb; (try clear hb); (try clear hb2); (try clear hk); (try clear hi); (try clear ho0)) | (go_at_call 19; refine calls_of_args (args' := #[.slice none ([] : List (S38)).length 0, .slice Ao27 t313.length co27]) (by first | rfl | ((try simp only [List.map_toArray, List.map_cons, List.map_nil]); rfl)) ?_; (with_reducible refine (judge_Over.calls kj5 _ _ ([] : List (S38)) _ _ t313 t330 _ ?side1 ?side2 ?side3 ?side4 A18.out).mono ?_); (case side1 => exact Kd.C_nil _ _); (case side2 => exact Nat.le_refl _); (case side3 => repeat (first | exact (Kd.R_reads' HO_0.out).2.2 | (with_reducible refine Kd.C_alloc ?_ _) | (with_reducible refine Kd.C_drewN ?_ _) | (with_reducible refine Kd.C_drew ?_))); (case side4 => exact (Kd.R_reads' HO_0.out).2.1); rintro e w32 ⟨v331, rfl, ho0, hb⟩; have HO332 := Aside0.mk (Kd.R_lower (Kd.R_new' (Kd.R_new' (Kd.R_new' ho0 (Kd.R_lt (by (with_reducible repeat (first | apply Kd.R_alloc | apply Kd.R_drewN | apply Kd.R_drew)); exact HO_0.out))) (Kd.R_lt (by (with_reducible repeat (first | apply Kd.R_alloc | apply Kd.R_drewN | apply Kd.R_drew)); exact HO322.out))) (Kd.R_lt (by (with_reducible repeat (first | apply Kd.R_alloc | apply Kd.R_drewN | apply Kd.R_drew)); exact HO329.out))) (below_size (bC HB))); replace HO_0 := Aside0.mk (Kd.R_elder' (by (with_reducible repeat (first | apply Kd.R_alloc | apply Kd.R_drewN | apply Kd.R_drew)); exact HO_0.out) (Kd.R_base ho0) hb); replace HO322 := Aside0.mk (Kd.R_elder' (by (with_reducible repeat (first | apply Kd.R_alloc | apply Kd.R_drewN | apply Kd.R_drew)); exact HO322.out) (Kd.R_base ho0) hb); replace HO329 := Aside0.mk (Kd.R_elder' (by (with_reducible repeat (first | apply Kd.R_alloc | apply Kd.R_drewN | apply Kd.R_drew)); exact HO329.out) (Kd.R_base ho0) hb); replace HR319 := Aside0.mk (Kd.C_below (by repeat (first | (with_reducible exact HR319.out) | (with_reducible refine Kd.C_alloc ?_ _) | (with_reducible refine Kd.C_drewN ?_ _) | (with_reducible refine Kd.C_drew ?_) | exact HR319.out)) hb); replace HR326 := Aside0.mk (Kd.C_below (by repeat (first | (with_reducible exact HR326.out) | (with_reducible refine Kd.C_alloc ?_ _) | (with_reducible refine Kd.C_drewN ?_ _) | (with_reducible refine Kd.C_drew ?_) | exact HR326.out)) hb); replace HB := bW HB hb; (try clear hb); (try clear hb2); (try clear hk); (try clear hi); (try clear ho0); obtain ⟨Ao33, co33, eo33⟩ := Kd.R_slice HO329.out; subst eo33; obtain ⟨Ao34, co34, eo34⟩ := Kd.R_slice HO332.out; subst eo34) | ((with_reducible refine gate_callee (f := 12) rfl ?_); refine goesL_ (some 36) rfl rfl Try.func12 (by kernel_rfl) rfl #[.slice Ao33 t327.length co33, .slice Ao34 t330.length co34] rfl (by (try simp only [List.map_toArray, List.map_cons, List.map_nil]); first | done | rfl | (simp only [List.length_drop, List.length_take]; rfl)) ?_; (with_reducible refine (judge_Same.calls kj5 _ _ t327 _ _ t330 true _ ?side1 ?side2 ?side3 ?side4 A19.out).mono ?_); (case side1 => repeat (first | exact (Kd.R_reads' HO329.out).2.2 | (with_reducible refine Kd.C_alloc ?_ _) | (with_reducible refine Kd.C_drewN ?_ _) | (with_reducible refine Kd.C_drew ?_))); (case side2 => exact (Kd.R_reads' HO329.out).2.1); (case side3 => repeat (first | exact (Kd.R_reads' HO332.out).2.2 | (with_reducible refine Kd.C_alloc ?_ _) | (with_reducible refine Kd.C_drewN ?_ _) | (with_reducible refine Kd.C_drew ?_))); (case side4 => exact (Kd.R_reads' HO332.out).2.1); rintro e w35 ⟨rfl, hb⟩; refine ⟨_, rfl, ?_⟩; replace HO_0 := Aside0.mk (Kd.R_below (by (with_reducible repeat (first | apply Kd.R_alloc | apply Kd.R_drewN | apply Kd.R_drew)); exact HO_0.out) hb); replace HO322 := Aside0.mk (Kd.R_below (by (with_reducible repeat (first | apply Kd.R_alloc | apply Kd.R_drewN | apply Kd.R_drew)); exact HO322.out) hb); replace HO329 := Aside0.mk (Kd.R_below (by (with_reducible repeat (first | apply Kd.R_alloc | apply Kd.R_drewN | apply Kd.R_drew)); exact HO329.out) hb); replace HO332 := Aside0.mk (Kd.R_below (by (with_reducible repeat (first | apply Kd.R_alloc | apply Kd.R_drewN | apply Kd.R_drew)); exact HO332.out) hb); replace HR319 := Aside0.mk (Kd.C_below (by repeat (first | (with_reducible exact HR319.out) | (with_reducible refine Kd.C_alloc ?_ _) | (with_reducible refine Kd.C_drewN ?_ _) | (with_reducible refine Kd.C_drew ?_) | exact HR319.out)) hb); replace HR326 := Aside0.mk (Kd.C_below (by repeat (first | (with_reducible exact HR326.out) | (with_reducible refine Kd.C_alloc ?_ _) | (with_reducible refine Kd.C_drewN ?_ _) | (with_reducible refine Kd.C_drew ?_) | exact HR326.out)) hb); replace HB := bW HB hb; (try clear hb); (try clear hb2); (try clear hk); (try clear hi)) | (go_at_call 19; refine calls_of_args (args' := #[.slice Ao33 t327.length co33, .slice none ([] : List (S38)).length 0]) (by first | rfl | ((try simp only [List.map_toArray, List.map_cons, List.map_nil]); rfl)) ?_; (with_reducible refine (judge_Over.calls kj5 _ _ t327 _ _ ([] : List (S38)) t334 _ ?side1 ?side2 ?side3 ?side4 A22.out).mono ?_); (case side1 => repeat (first | exact (Kd.R_reads' HO329.out).2.2 | (with_reducible refine Kd.C_alloc ?_ _) | (with_reducible refine Kd.C_drewN ?_ _) | (with_reducible refine Kd.C_drew ?_))); (case side2 => exact (Kd.R_reads' HO329.out).2.1); (case side3 => exact Kd.C_nil _ _); (case side4 => exact Nat.le_refl _); rintro e w36 ⟨v335, rfl, ho0, hb⟩; have HO336 := Aside0.mk (Kd.R_lower (Kd.R_new' (Kd.R_new' (Kd.R_new' (Kd.R_new' ho0 (Kd.R_lt (by (with_reducible repeat (first | apply Kd.R_alloc | apply Kd.R_drewN | apply Kd.R_drew)); exact HO_0.out))) (Kd.R_lt (by (with_reducible repeat (first | apply Kd.R_alloc | apply Kd.R_drewN | apply Kd.R_drew)); exact HO322.out))) (Kd.R_lt (by (with_reducible repeat (first | apply Kd.R_alloc | apply Kd.R_drewN | apply Kd.R_drew)); exact HO329.out))) (Kd.R_lt (by (with_reducible repeat (first | apply Kd.R_alloc | apply Kd.R_drewN | apply Kd.R_drew)); exact HO332.out))) (below_size (bC HB))); replace HO_0 := Aside0.mk (Kd.R_elder' (by (with_reducible repeat (first | apply Kd.R_alloc | apply Kd.R_drewN | apply Kd.R_drew)); exact HO_0.out) (Kd.R_base ho0) hb); replace HO322 := Aside0.mk (Kd.R_elder' (by (with_reducible repeat (first | apply Kd.R_alloc | apply Kd.R_drewN | apply Kd.R_drew)); exact HO322.out) (Kd.R_base ho0) hb); replace HO329 := Aside0.mk (Kd.R_elder' (by (with_reducible repeat (first | apply Kd.R_alloc | apply Kd.R_drewN | apply Kd.R_drew)); exact HO329.out) (Kd.R_base ho0) hb); replace HO332 := Aside0.mk (Kd.R_elder' (by (with_reducible repeat (first | apply Kd.R_alloc | apply Kd.R_drewN | apply Kd.R_drew)); exact HO332.out) (Kd.R_base ho0) hb); replace HR319 := Aside0.mk (Kd.C_below (by repeat (first | (with_reducible exact HR319.out) | (with_reducible refine Kd.C_alloc ?_ _) | (with_reducible refine Kd.C_drewN ?_ _) | (with_reducible refine Kd.C_drew ?_) | exact HR319.out)) hb); replace HR326 := Aside0.mk (Kd.C_below (by repeat (first | (with_reducible exact HR326.out) | (with_reducible refine Kd.C_alloc ?_ _) | (with_reducible refine Kd.C_drewN ?_ _) | (with_reducible refine Kd.C_drew ?_) | exact HR326.out)) hb); replace HB := bW HB hb; (try clear hb); (try clear hb2); (try clear hk); (try clear hi); (try clear ho0); obtain ⟨Ao37, co37, eo37⟩ := Kd.R_slice HO336.out; subst eo37) | (go_at_call 12; (with_reducible refine (judge_Same.calls kj5 _ _ t334 _ _ t327 true _ ?side1 ?side2 ?side3 ?side4 A23.out).mono ?_); (case side1 => repeat (first | exact (Kd.R_reads' HO336.out).2.2 | (with_reducible refine Kd.C_alloc ?_ _) | (with_reducible refine Kd.C_drewN ?_ _) | (with_reducible refine Kd.C_drew ?_))); (case side2 => exact (Kd.R_reads' HO336.out).2.1); (case side3 => repeat (first | exact (Kd.R_reads' HO329.out).2.2 | (with_reducible refine Kd.C_alloc ?_ _) | (with_reducible refine Kd.C_drewN ?_ _) | (with_reducible refine Kd.C_drew ?_))); (case side4 => exact (Kd.R_reads' HO329.out).2.1); rintro e w38 ⟨rfl, hb⟩; replace HO_0 := Aside0.mk (Kd.R_below (by (with_reducible repeat (first | apply Kd.R_alloc | apply Kd.R_drewN | apply Kd.R_drew)); exact HO_0.out) hb); replace HO322 := Aside0.mk (Kd.R_below (by (with_reducible repeat (first | apply Kd.R_alloc | apply Kd.R_drewN | apply Kd.R_drew)); exact HO322.out) hb); replace HO329 := Aside0.mk (Kd.R_below (by (with_reducible repeat (first | apply Kd.R_alloc | apply Kd.R_drewN | apply Kd.R_drew)); exact HO329.out) hb); replace HO332 := Aside0.mk (Kd.R_below (by (with_reducible repeat (first | apply Kd.R_alloc | apply Kd.R_drewN | apply Kd.R_drew)); exact HO332.out) hb); replace HO336 := Aside0.mk (Kd.R_below (by (with_reducible repeat (first | apply Kd.R_alloc | apply Kd.R_drewN | apply Kd.R_drew)); exact HO336.out) hb); replace HR319 := Aside0.mk (Kd.C_below (by repeat (first | (with_reducible exact HR319.out) | (with_reducible refine Kd.C_alloc ?_ _) | (with_reducible refine Kd.C_drewN ?_ _) | (with_reducible refine Kd.C_drew ?_) | exact HR319.out)) hb); replace HR326 := Aside0.mk (Kd.C_below (by repeat (first | (with_reducible exact HR326.out) | (with_reducible refine Kd.C_alloc ?_ _) | (with_reducible refine Kd.C_drewN ?_ _) | (with_reducible refine Kd.C_drew ?_) | exact HR326.out)) hb); replace HB := bW HB hb; (try clear hb); (try clear hb2); (try clear hk); (try clear hi)) | (go_at_call 10; (with_reducible refine (judge_Sorted.calls kj5 _ _ t320 t338 _ ?side1 ?side2 A25.out).mono ?_); (case side1 => repeat (first | exact (Kd.R_reads' HO322.out).2.2 | (with_reducible refine Kd.C_alloc ?_ _) | (with_reducible refine Kd.C_drewN ?_ _) | (with_reducible refine Kd.C_drew ?_))); (case side2 => exact (Kd.R_reads' HO322.out).2.1); rintro e w39 ⟨rfl, hb⟩; replace HO_0 := Aside0.mk (Kd.R_below (by (with_reducible repeat (first | apply Kd.R_alloc | apply Kd.R_drewN | apply Kd.R_drew)); exact HO_0.out) hb); replace HO322 := Aside0.mk (Kd.R_below (by (with_reducible repeat (first | apply Kd.R_alloc | apply Kd.R_drewN | apply Kd.R_drew)); exact HO322.out) hb); replace HO329 := Aside0.mk (Kd.R_below (by (with_reducible repeat (first | apply Kd.R_alloc | apply Kd.R_drewN | apply Kd.R_drew)); exact HO329.out) hb); replace HO332 := Aside0.mk (Kd.R_below (by (with_reducible repeat (first | apply Kd.R_alloc | apply Kd.R_drewN | apply Kd.R_drew)); exact HO332.out) hb); replace HO336 := Aside0.mk (Kd.R_below (by (with_reducible repeat (first | apply Kd.R_alloc | apply Kd.R_drewN | apply Kd.R_drew)); exact HO336.out) hb); replace HR319 := Aside0.mk (Kd.C_below (by repeat (first | (with_reducible exact HR319.out) | (with_reducible refine Kd.C_alloc ?_ _) | (with_reducible refine Kd.C_drewN ?_ _) | (with_reducible refine Kd.C_drew ?_) | exact HR319.out)) hb); replace HR326 := Aside0.mk (Kd.C_below (by repeat (first | (with_reducible exact HR326.out) | (with_reducible refine Kd.C_alloc ?_ _) | (with_reducible refine Kd.C_drewN ?_ _) | (with_reducible refine Kd.C_drew ?_) | exact HR326.out)) hb); replace HB := bW HB hb; (try clear hb); (try clear hb2); (try clear hk); (try clear hi)))
          go_ret
          exact ⟨by first | rfl | (simp [errW_none, errW_some] <;> rfl) | (simp [*, errW_none, errW_some] <;> rfl), by repeat (first | (with_reducible first | exact HB.out | apply below_alloc | apply pw_below_drewN | apply below_drew1) | exact HB.out)⟩
         ·replace c24 := Bool.eq_false_iff.mpr c24
          subst c24
          have H1 : (none) = some r := by rw [if_neg (show ¬ (false = true) by decide)] at H; (first | exact H | (simp only [eq_self_iff_true, if_true] at H ⊢; exact H))
          clear H
          have H := H1
          clear H1
          exact absurd H (by simp)
        ·rw [if_neg c21] at H
         exact absurd H (by simp)
       ·replace c20 := Bool.eq_false_iff.mpr c20
        subst c20
        have H1 : (none) = some r := by rw [if_neg (show ¬ (false = true) by decide)] at H; (first | exact H | (simp only [eq_self_iff_true, if_true] at H ⊢; exact H))
        clear H
        have H := H1
        clear H1
        exact absurd H (by simp)
      ·rw [if_neg c13] at H
       exact absurd H (by simp)
     ·rw [if_neg c12] at H
      exact absurd H (by simp)
 ·replace c4 := Bool.eq_false_iff.mpr c4
  subst c4
  have H1 : (none) = some r := by rw [if_neg (show ¬ (false = true) by decide)] at H; (first | exact H | (simp only [eq_self_iff_true, if_true] at H ⊢; exact H))
  clear H
  have H := H1
  clear H1
  exact absurd H (by simp)

/-- THE ONE PURE STATEMENT of engrosslaw28_JudgeOver. -/
def engrosslaw28_JudgeOver.Pure : Prop := ∀ (l0 : List (S38)) (a1 : Int), (l0.length ≤ 9223372036854775807 ∧ ∀ y ∈ l0, wf38 y) → (Lit.int .i64 a1).wf = true → ∃ k, engrosslaw28_JudgeOver.f k l0 a1 = some true

/-! ### engrosslaw28_JudgeParts: function 5 -/
def engrosslaw28_JudgeParts.j0 : Nat → ByteArray → ByteArray → ByteArray → List (S38) → Bool → Option (Bool)
 | 0, _, _, _, _, _ => none
 | k + 1, x1, x2, x3, x10, x41 => if x41 = true then (some true) else ((judge_Part.f k x10 x1 x2).bind fun t349 => ((judge_Part.f k x10 x2 x3).bind fun t352 => (if ([] : List (S38)).length + t349.length < 2932031007402 then ((some (([] : List (S38)) ++ t349 : List (S38))).bind fun y355 => (if y355.length + t352.length < 2932031007402 then ((judge_Part.f k x10 x1 x3).bind fun t361 => ((judge_Same.f k t361 (y355 ++ t352)).bind fun t364 => (some t364))) else (none))) else (none))))
def engrosslaw28_JudgeParts.f (k : Nat) (l0 : List (S38)) (a1 : ByteArray) (a2 : ByteArray) (a3 : ByteArray) : Option (Bool) := (engrosslaw28_begun.f k).bind fun t339 => (if t339 = true then ((engrosslaw28_Pairs.f k l0).bind fun t340 => ((judge_Over.f k ([] : List (S38)) t340).bind fun t343 => ((engrosslaw1_Cut.f a1 20).bind fun t346 => ((engrosslaw1_Cut.f a2 20).bind fun t347 => ((engrosslaw1_Cut.f a3 20).bind fun t348 => (if t347.toList = ([] : List UInt8) then (engrosslaw28_JudgeParts.j0 k t346 t347 t348 t343 true) else (if (Op.bytesLess t347.toList t346.toList) = true then (engrosslaw28_JudgeParts.j0 k t346 t347 t348 t343 true) else (if t348.toList = ([] : List UInt8) then (engrosslaw28_JudgeParts.j0 k t346 t347 t348 t343 false) else (engrosslaw28_JudgeParts.j0 k t346 t347 t348 t343 (Op.bytesLess t348.toList t347.toList)))))))))) else (none))
theorem engrosslaw28_JudgeParts.mono_l : ∀ k, (∀ y0 y1 y2 y3 y4, LeO (engrosslaw28_JudgeParts.j0 k y0 y1 y2 y3 y4) (engrosslaw28_JudgeParts.j0 (k + 1) y0 y1 y2 y3 y4))
 | 0 => fun _ _ _ _ _ r h => by simp [engrosslaw28_JudgeParts.j0] at h
 | k + 1 => by
  have ih0 := engrosslaw28_JudgeParts.mono_l k
  ·intro y0 y1 y2 y3 y4
   unfold engrosslaw28_JudgeParts.j0
   repeat' first
   | (with_reducible exact ih0 _ _ _ _ _)
   | (with_reducible exact engrosslaw28_Pairs.mono _ _)
   | (with_reducible exact engrosslaw28_begun.mono _)
   | (with_reducible exact judge_Over.mono _ _ _)
   | (with_reducible exact judge_Part.mono _ _ _ _)
   | (with_reducible exact judge_Same.mono _ _ _)
   | (with_reducible exact LeO.refl _)
   | (with_reducible exact LeO.none _)
   | (with_reducible refine LeO.ite ?_ ?_)
   | (with_reducible refine LeO.bind ?_ (fun _ => ?_))
   | exact ih0 _ _ _ _ _
   | exact engrosslaw28_Pairs.mono _ _
   | exact engrosslaw28_begun.mono _
   | exact judge_Over.mono _ _ _
   | exact judge_Part.mono _ _ _ _
   | exact judge_Same.mono _ _ _
   | exact LeO.none _
   | refine LeO.ite ?_ ?_
   | refine LeO.bind ?_ (fun _ => ?_)
theorem engrosslaw28_JudgeParts.mono : ∀ a0 a1 a2 a3 k, LeO (engrosslaw28_JudgeParts.f k a0 a1 a2 a3) (engrosslaw28_JudgeParts.f (k + 1) a0 a1 a2 a3) := by
 intro a0 a1 a2 a3 k
 have ih0 := engrosslaw28_JudgeParts.mono_l k
 unfold engrosslaw28_JudgeParts.f
 repeat' first
   | (with_reducible exact ih0 _ _ _ _ _)
   | (with_reducible exact engrosslaw28_Pairs.mono _ _)
   | (with_reducible exact engrosslaw28_begun.mono _)
   | (with_reducible exact judge_Over.mono _ _ _)
   | (with_reducible exact judge_Part.mono _ _ _ _)
   | (with_reducible exact judge_Same.mono _ _ _)
   | (with_reducible exact LeO.refl _)
   | (with_reducible exact LeO.none _)
   | (with_reducible refine LeO.ite ?_ ?_)
   | (with_reducible refine LeO.bind ?_ (fun _ => ?_))
   | exact ih0 _ _ _ _ _
   | exact engrosslaw28_Pairs.mono _ _
   | exact engrosslaw28_begun.mono _
   | exact judge_Over.mono _ _ _
   | exact judge_Part.mono _ _ _ _
   | exact judge_Same.mono _ _ _
   | exact LeO.none _
   | refine LeO.ite ?_ ?_
   | refine LeO.bind ?_ (fun _ => ?_)
set_option maxHeartbeats 8000000 in
set_option maxRecDepth 100000 in
theorem engrosslaw28_JudgeParts.calls (k : Nat) (A0 : Option Addr) (c0 : Nat) (l0 : List (S38)) (a1 : ByteArray) (a2 : ByteArray) (a3 : ByteArray) (r : Bool) (w : World) (hr0 : Kd.C k38 w A0 l0.length l0) (hc0 : l0.length ≤ c0) (h : engrosslaw28_JudgeParts.f k l0 a1 a2 a3 = some r) :
  Calls Try.prog 5 #[.slice A0 l0.length c0, .string a1, .string a2, .string a3] w fun e w' => e = .returned (.bool r) ∧ Below w.heap.size w w' := by
 have HR0 := Aside0.mk hr0
 have HC0 := Aside0.mk hc0
 clear hr0 hc0
 have HB := Aside0.mk (Below.refl w.heap.size w)
 have H : ((engrosslaw28_begun.f k).bind fun t339 => (if t339 = true then ((engrosslaw28_Pairs.f k l0).bind fun t340 => ((judge_Over.f k ([] : List (S38)) t340).bind fun t343 => ((engrosslaw1_Cut.f a1 20).bind fun t346 => ((engrosslaw1_Cut.f a2 20).bind fun t347 => ((engrosslaw1_Cut.f a3 20).bind fun t348 => (if t347.toList = ([] : List UInt8) then (engrosslaw28_JudgeParts.j0 k t346 t347 t348 t343 true) else (if (Op.bytesLess t347.toList t346.toList) = true then (engrosslaw28_JudgeParts.j0 k t346 t347 t348 t343 true) else (if t348.toList = ([] : List UInt8) then (engrosslaw28_JudgeParts.j0 k t346 t347 t348 t343 false) else (engrosslaw28_JudgeParts.j0 k t346 t347 t348 t343 (Op.bytesLess t348.toList t347.toList)))))))))) else (none))) = some r := h
 clear h
 replace H := Option.bind_eq_some_iff.mp H
 obtain ⟨t339, A50, H⟩ := H
 replace H : (if t339 = true then ((engrosslaw28_Pairs.f k l0).bind fun t340 => ((judge_Over.f k ([] : List (S38)) t340).bind fun t343 => ((engrosslaw1_Cut.f a1 20).bind fun t346 => ((engrosslaw1_Cut.f a2 20).bind fun t347 => ((engrosslaw1_Cut.f a3 20).bind fun t348 => (if t347.toList = ([] : List UInt8) then (engrosslaw28_JudgeParts.j0 k t346 t347 t348 t343 true) else (if (Op.bytesLess t347.toList t346.toList) = true then (engrosslaw28_JudgeParts.j0 k t346 t347 t348 t343 true) else (if t348.toList = ([] : List UInt8) then (engrosslaw28_JudgeParts.j0 k t346 t347 t348 t343 false) else (engrosslaw28_JudgeParts.j0 k t346 t347 t348 t343 (Op.bytesLess t348.toList t347.toList)))))))))) else (none)) = some r := H
 have A5 := Aside0.mk A50
 clear A50
 by_cases c6 : t339 = true
 ·subst c6
  have H1 : ((engrosslaw28_Pairs.f k l0).bind fun t340 => ((judge_Over.f k ([] : List (S38)) t340).bind fun t343 => ((engrosslaw1_Cut.f a1 20).bind fun t346 => ((engrosslaw1_Cut.f a2 20).bind fun t347 => ((engrosslaw1_Cut.f a3 20).bind fun t348 => (if t347.toList = ([] : List UInt8) then (engrosslaw28_JudgeParts.j0 k t346 t347 t348 t343 true) else (if (Op.bytesLess t347.toList t346.toList) = true then (engrosslaw28_JudgeParts.j0 k t346 t347 t348 t343 true) else (if t348.toList = ([] : List UInt8) then (engrosslaw28_JudgeParts.j0 k t346 t347 t348 t343 false) else (engrosslaw28_JudgeParts.j0 k t346 t347 t348 t343 (Op.bytesLess t348.toList t347.toList)))))))))) = some r := by rw [if_pos rfl] at H; exact H
  clear H
  have H := H1
  clear H1
  replace H := Option.bind_eq_some_iff.mp H
  obtain ⟨t340, A70, H⟩ := H
  replace H : ((judge_Over.f k ([] : List (S38)) t340).bind fun t343 => ((engrosslaw1_Cut.f a1 20).bind fun t346 => ((engrosslaw1_Cut.f a2 20).bind fun t347 => ((engrosslaw1_Cut.f a3 20).bind fun t348 => (if t347.toList = ([] : List UInt8) then (engrosslaw28_JudgeParts.j0 k t346 t347 t348 t343 true) else (if (Op.bytesLess t347.toList t346.toList) = true then (engrosslaw28_JudgeParts.j0 k t346 t347 t348 t343 true) else (if t348.toList = ([] : List UInt8) then (engrosslaw28_JudgeParts.j0 k t346 t347 t348 t343 false) else (engrosslaw28_JudgeParts.j0 k t346 t347 t348 t343 (Op.bytesLess t348.toList t347.toList))))))))) = some r := H
  have A7 := Aside0.mk A70
  clear A70
  replace H := Option.bind_eq_some_iff.mp H
  obtain ⟨t343, A80, H⟩ := H
  replace H : ((engrosslaw1_Cut.f a1 20).bind fun t346 => ((engrosslaw1_Cut.f a2 20).bind fun t347 => ((engrosslaw1_Cut.f a3 20).bind fun t348 => (if t347.toList = ([] : List UInt8) then (engrosslaw28_JudgeParts.j0 k t346 t347 t348 t343 true) else (if (Op.bytesLess t347.toList t346.toList) = true then (engrosslaw28_JudgeParts.j0 k t346 t347 t348 t343 true) else (if t348.toList = ([] : List UInt8) then (engrosslaw28_JudgeParts.j0 k t346 t347 t348 t343 false) else (engrosslaw28_JudgeParts.j0 k t346 t347 t348 t343 (Op.bytesLess t348.toList t347.toList)))))))) = some r := H
  have A8 := Aside0.mk A80
  clear A80
  replace H := Option.bind_eq_some_iff.mp H
  obtain ⟨t346, A90, H⟩ := H
  replace H : ((engrosslaw1_Cut.f a2 20).bind fun t347 => ((engrosslaw1_Cut.f a3 20).bind fun t348 => (if t347.toList = ([] : List UInt8) then (engrosslaw28_JudgeParts.j0 k t346 t347 t348 t343 true) else (if (Op.bytesLess t347.toList t346.toList) = true then (engrosslaw28_JudgeParts.j0 k t346 t347 t348 t343 true) else (if t348.toList = ([] : List UInt8) then (engrosslaw28_JudgeParts.j0 k t346 t347 t348 t343 false) else (engrosslaw28_JudgeParts.j0 k t346 t347 t348 t343 (Op.bytesLess t348.toList t347.toList))))))) = some r := H
  have A9 := Aside0.mk A90
  clear A90
  replace H := Option.bind_eq_some_iff.mp H
  obtain ⟨t347, A100, H⟩ := H
  replace H : ((engrosslaw1_Cut.f a3 20).bind fun t348 => (if t347.toList = ([] : List UInt8) then (engrosslaw28_JudgeParts.j0 k t346 t347 t348 t343 true) else (if (Op.bytesLess t347.toList t346.toList) = true then (engrosslaw28_JudgeParts.j0 k t346 t347 t348 t343 true) else (if t348.toList = ([] : List UInt8) then (engrosslaw28_JudgeParts.j0 k t346 t347 t348 t343 false) else (engrosslaw28_JudgeParts.j0 k t346 t347 t348 t343 (Op.bytesLess t348.toList t347.toList)))))) = some r := H
  have A10 := Aside0.mk A100
  clear A100
  replace H := Option.bind_eq_some_iff.mp H
  obtain ⟨t348, A110, H⟩ := H
  replace H : (if t347.toList = ([] : List UInt8) then (engrosslaw28_JudgeParts.j0 k t346 t347 t348 t343 true) else (if (Op.bytesLess t347.toList t346.toList) = true then (engrosslaw28_JudgeParts.j0 k t346 t347 t348 t343 true) else (if t348.toList = ([] : List UInt8) then (engrosslaw28_JudgeParts.j0 k t346 t347 t348 t343 false) else (engrosslaw28_JudgeParts.j0 k t346 t347 t348 t343 (Op.bytesLess t348.toList t347.toList))))) = some r := H
  have A11 := Aside0.mk A110
  clear A110
  have HC12 := Aside0.mk H
  clear H
  go_enter Try.func5, Try.ntmps5
  go_upto_region 6 with (first | ((with_reducible refine gate_callee (f := 7) rfl ?_); refine goesL_ (some 14) rfl rfl Try.func7 (by kernel_rfl) rfl #[] rfl (by (try simp only [List.map_toArray, List.map_cons, List.map_nil]); first | done | rfl | (simp only [List.length_drop, List.length_take]; rfl)) ?_; (with_reducible refine (engrosslaw28_begun.calls k  true _ A5.out).mono ?_); rintro e w13 ⟨rfl, hb⟩; refine ⟨_, rfl, ?_⟩; replace HB := bW HB hb; (try clear hb); (try clear hb2); (try clear hk); (try clear hi)) | ((with_reducible refine gate_callee (f := 8) rfl ?_); refine goesL_ (some 18) rfl rfl Try.func8 (by kernel_rfl) rfl #[.slice A0 l0.length c0] rfl (by (try simp only [List.map_toArray, List.map_cons, List.map_nil]); first | done | rfl | (simp only [List.length_drop, List.length_take]; rfl)) ?_; (with_reducible refine (engrosslaw28_Pairs.calls k _ _ l0 t340 _ ?side1 ?side2 A7.out).mono ?_); (case side1 => repeat (first | exact (Kd.C_below HR0.out HB.out) | (with_reducible refine Kd.C_alloc ?_ _) | (with_reducible refine Kd.C_drewN ?_ _) | (with_reducible refine Kd.C_drew ?_))); (case side2 => exact HC0.out); rintro e w14 ⟨v341, rfl, ho0, hb⟩; refine ⟨_, rfl, ?_⟩; have HO342 := Aside0.mk (Kd.R_lower ho0 (below_size (bC HB))); replace HB := bW HB hb; (try clear hb); (try clear hb2); (try clear hk); (try clear hi); (try clear ho0); obtain ⟨Ao15, co15, eo15⟩ := Kd.R_slice HO342.out; subst eo15) | (go_at_call 19; refine calls_of_args (args' := #[.slice none ([] : List (S38)).length 0, .slice Ao15 t340.length co15]) (by first | rfl | ((try simp only [List.map_toArray, List.map_cons, List.map_nil]); rfl)) ?_; (with_reducible refine (judge_Over.calls k _ _ ([] : List (S38)) _ _ t340 t343 _ ?side1 ?side2 ?side3 ?side4 A8.out).mono ?_); (case side1 => exact Kd.C_nil _ _); (case side2 => exact Nat.le_refl _); (case side3 => repeat (first | exact (Kd.R_reads' HO342.out).2.2 | (with_reducible refine Kd.C_alloc ?_ _) | (with_reducible refine Kd.C_drewN ?_ _) | (with_reducible refine Kd.C_drew ?_))); (case side4 => exact (Kd.R_reads' HO342.out).2.1); rintro e w16 ⟨v344, rfl, ho0, hb⟩; have HO345 := Aside0.mk (Kd.R_lower (Kd.R_new' ho0 (Kd.R_lt (by (with_reducible repeat (first | apply Kd.R_alloc | apply Kd.R_drewN | apply Kd.R_drew)); exact HO342.out))) (below_size (bC HB))); replace HO342 := Aside0.mk (Kd.R_elder' (by (with_reducible repeat (first | apply Kd.R_alloc | apply Kd.R_drewN | apply Kd.R_drew)); exact HO342.out) (Kd.R_base ho0) hb); replace HB := bW HB hb; (try clear hb); (try clear hb2); (try clear hk); (try clear hi); (try clear ho0)) | ((with_reducible refine gate_callee (f := 9) rfl ?_); refine goesL_ (some 21) rfl rfl Try.func9 (by kernel_rfl) rfl #[.string a1, .int .i64 20] rfl (by (try simp only [List.map_toArray, List.map_cons, List.map_nil]); first | done | rfl | (simp only [List.length_drop, List.length_take]; rfl)) ?_; (with_reducible refine (engrosslaw1_Cut.calls a1 20 t346 _ A9.out).mono ?_); rintro e w' ⟨rfl, ⟨nd, rfl⟩⟩; refine ⟨_, rfl, ?_⟩) | ((with_reducible refine gate_callee (f := 9) rfl ?_); refine goesL_ (some 23) rfl rfl Try.func9 (by kernel_rfl) rfl #[.string a2, .int .i64 20] rfl (by (try simp only [List.map_toArray, List.map_cons, List.map_nil]); first | done | rfl | (simp only [List.length_drop, List.length_take]; rfl)) ?_; (with_reducible refine (engrosslaw1_Cut.calls a2 20 t347 _ A10.out).mono ?_); rintro e w' ⟨rfl, ⟨nd, rfl⟩⟩; refine ⟨_, rfl, ?_⟩) | ((with_reducible refine gate_callee (f := 9) rfl ?_); refine goesL_ (some 25) rfl rfl Try.func9 (by kernel_rfl) rfl #[.string a3, .int .i64 20] rfl (by (try simp only [List.map_toArray, List.map_cons, List.map_nil]); first | done | rfl | (simp only [List.length_drop, List.length_take]; rfl)) ?_; (with_reducible refine (engrosslaw1_Cut.calls a3 20 t348 _ A11.out).mono ?_); rintro e w' ⟨rfl, ⟨nd, rfl⟩⟩; refine ⟨_, rfl, ?_⟩))
  (try simp only [Act.put, List.setIfInBounds_toArray, List.set_cons_zero, List.set_cons_succ])
  go_cut [41] (fun v41 wc => ∃ (kq : Nat) (x41_11 : Bool), v41 = .bool x41_11 ∧ Aside0 (engrosslaw28_JudgeParts.j0 kq t346 t347 t348 t343 x41_11 = some r) ∧ Aside0 (kq ≤ k) ∧ Aside0 (Kd.R k38 38 wc w.heap.size (fun _ => True) v344 t343) ∧ Aside0 (Below w.heap.size w wc))
  case first =>
   have H := HC12.out
   clear HC12
   by_cases c17 : t347.toList = ([] : List UInt8)
   ·rw [if_pos c17] at H
    have c17b0 : (t347.toList == ([] : List UInt8)) = true := beq_iff_eq.mpr c17
    have c17b1 : (t347.toList != ([] : List UInt8)) = false := bne_eq_false_iff_eq.mpr c17
    clear c17
    (first | rw [c17b0] | (simp only [i64_w, i32_w]; rw [c17b0]) | skip)
    have H' := Aside0.mk H
    clear H
    go_wp2
    go_meet
    case rel => exact ⟨_, (true), (by first | rfl | (simp; done) | (simp [*]; done)), H', ⟨by first | omega | exact Nat.le_refl _⟩, ⟨by (with_reducible repeat (first | apply Kd.R_alloc | apply Kd.R_drewN | apply Kd.R_drew)); exact Kd.R_mono HO345.out (fun _ hk => trivial)⟩, ⟨by repeat (first | (with_reducible first | exact HB.out | apply below_alloc | apply pw_below_drewN | apply below_drew1) | exact HB.out)⟩⟩
   ·rw [if_neg c17] at H
    have c17b0 : (t347.toList == ([] : List UInt8)) = false := beq_eq_false_iff_ne.mpr c17
    have c17b1 : (t347.toList != ([] : List UInt8)) = true := bne_iff_ne.mpr c17
    (first | rw [c17b0] | (simp only [i64_w, i32_w]; rw [c17b0]) | skip)
    by_cases c18 : (Op.bytesLess t347.toList t346.toList) = true
    ·rw [if_pos c18] at H
     have c18b0 : (Op.bytesLess t347.toList t346.toList) = true := c18
     clear c18
     have H' := Aside0.mk H
     clear H
     go_wp2
     go_meet
     case rel => exact ⟨_, (true), (by first | rfl | (simp; done) | (simp [*]; done)), H', ⟨by first | omega | exact Nat.le_refl _⟩, ⟨by (with_reducible repeat (first | apply Kd.R_alloc | apply Kd.R_drewN | apply Kd.R_drew)); exact Kd.R_mono HO345.out (fun _ hk => trivial)⟩, ⟨by repeat (first | (with_reducible first | exact HB.out | apply below_alloc | apply pw_below_drewN | apply below_drew1) | exact HB.out)⟩⟩
    ·rw [if_neg c18] at H
     have c18b0 : (Op.bytesLess t347.toList t346.toList) = false := by simpa using c18
     clear c18
     by_cases c19 : t348.toList = ([] : List UInt8)
     ·rw [if_pos c19] at H
      have c19b0 : (t348.toList == ([] : List UInt8)) = true := beq_iff_eq.mpr c19
      have c19b1 : (t348.toList != ([] : List UInt8)) = false := bne_eq_false_iff_eq.mpr c19
      clear c19
      have H' := Aside0.mk H
      clear H
      go_wp2
      go_meet
      case rel => exact ⟨_, (false), (by first | rfl | (simp; done) | (simp [*]; done)), H', ⟨by first | omega | exact Nat.le_refl _⟩, ⟨by (with_reducible repeat (first | apply Kd.R_alloc | apply Kd.R_drewN | apply Kd.R_drew)); exact Kd.R_mono HO345.out (fun _ hk => trivial)⟩, ⟨by repeat (first | (with_reducible first | exact HB.out | apply below_alloc | apply pw_below_drewN | apply below_drew1) | exact HB.out)⟩⟩
     ·rw [if_neg c19] at H
      have c19b0 : (t348.toList == ([] : List UInt8)) = false := beq_eq_false_iff_ne.mpr c19
      have c19b1 : (t348.toList != ([] : List UInt8)) = true := bne_iff_ne.mpr c19
      have H' := Aside0.mk H
      clear H
      go_wp2
      go_meet
      case rel => exact ⟨_, ((Op.bytesLess t348.toList t347.toList)), (by first | rfl | (simp; done) | (simp [*]; done)), H', ⟨by first | omega | exact Nat.le_refl _⟩, ⟨by (with_reducible repeat (first | apply Kd.R_alloc | apply Kd.R_drewN | apply Kd.R_drew)); exact Kd.R_mono HO345.out (fun _ hk => trivial)⟩, ⟨by repeat (first | (with_reducible first | exact HB.out | apply below_alloc | apply pw_below_drewN | apply below_drew1) | exact HB.out)⟩⟩
  case rest =>
   clear HC12
   try clear c1
   try clear p2
   try clear c5
   try clear c6
   try clear c7
   try clear c8
   try clear c9
   try clear c17
   try clear c17b0
   try clear c17b1
   try clear c18
   try clear c18b0
   try clear c19
   try clear c19b0
   try clear c19b1
   obtain ⟨kq, x41_11, rfl, HA, HJ11, HO_10, HB⟩ := hcut
   cases kq with
   | zero => exact absurd HA.out (by simp [engrosslaw28_JudgeParts.j0])
   | succ kj11 =>
    have H := HA.out
    clear HA
    simp only [engrosslaw28_JudgeParts.j0] at H
    by_cases c20 : x41_11 = true
    ·subst c20
     have H1 : (some true) = some r := by rw [if_pos rfl] at H; exact H
     clear H
     have H := H1
     clear H1
     obtain rfl := Option.some.inj H
     go_wp2
     go_ret
     exact ⟨by first | rfl | (simp [errW_none, errW_some] <;> rfl) | (simp [*, errW_none, errW_some] <;> rfl), by repeat (first | (with_reducible first | exact HB.out | apply below_alloc | apply pw_below_drewN | apply below_drew1) | exact HB.out)⟩
    ·replace c20 := Bool.eq_false_iff.mpr c20
     subst c20
     have H1 : ((judge_Part.f kj11 t343 t346 t347).bind fun t349 => ((judge_Part.f kj11 t343 t347 t348).bind fun t352 => (if ([] : List (S38)).length + t349.length < 2932031007402 then ((some (([] : List (S38)) ++ t349 : List (S38))).bind fun y355 => (if y355.length + t352.length < 2932031007402 then ((judge_Part.f kj11 t343 t346 t348).bind fun t361 => ((judge_Same.f kj11 t361 (y355 ++ t352)).bind fun t364 => (some t364))) else (none))) else (none)))) = some r := by rw [if_neg (show ¬ (false = true) by decide)] at H; (first | exact H | (simp only [eq_self_iff_true, if_true] at H ⊢; exact H))
     clear H
     have H := H1
     clear H1
     replace H := Option.bind_eq_some_iff.mp H
     obtain ⟨t349, A210, H⟩ := H
     replace H : ((judge_Part.f kj11 t343 t347 t348).bind fun t352 => (if ([] : List (S38)).length + t349.length < 2932031007402 then ((some (([] : List (S38)) ++ t349 : List (S38))).bind fun y355 => (if y355.length + t352.length < 2932031007402 then ((judge_Part.f kj11 t343 t346 t348).bind fun t361 => ((judge_Same.f kj11 t361 (y355 ++ t352)).bind fun t364 => (some t364))) else (none))) else (none))) = some r := H
     have A21 := Aside0.mk A210
     clear A210
     replace H := Option.bind_eq_some_iff.mp H
     obtain ⟨t352, A220, H⟩ := H
     replace H : (if ([] : List (S38)).length + t349.length < 2932031007402 then ((some (([] : List (S38)) ++ t349 : List (S38))).bind fun y355 => (if y355.length + t352.length < 2932031007402 then ((judge_Part.f kj11 t343 t346 t348).bind fun t361 => ((judge_Same.f kj11 t361 (y355 ++ t352)).bind fun t364 => (some t364))) else (none))) else (none)) = some r := H
     have A22 := Aside0.mk A220
     clear A220
     by_cases c23 : ([] : List (S38)).length + t349.length < 2932031007402
     ·rw [if_pos c23] at H
      have LMc23 := Aside0.mk c23
      clear c23
      obtain ⟨y355, hy355⟩ : ∃ y_ : List (S38), y_ = (([] : List (S38)) ++ t349) := ⟨_, rfl⟩
      replace H : (if y355.length + t352.length < 2932031007402 then ((judge_Part.f kj11 t343 t346 t348).bind fun t361 => ((judge_Same.f kj11 t361 (y355 ++ t352)).bind fun t364 => (some t364))) else (none)) = some r := by first | (rw [hy355]; with_reducible exact H) | (have H2_ := (Option.bind_some _ _).symm.trans H; rw [hy355]; with_reducible exact H2_) | (have H2_ := (Option.bind_some _ _).symm.trans H; with_reducible exact H2_) | with_reducible exact H | (rw [hy355]; exact H) | exact H
      have Ny355 := Aside0.mk hy355
      clear hy355
      by_cases c24 : y355.length + t352.length < 2932031007402
      ·rw [if_pos c24] at H
       have LMc24 := Aside0.mk c24
       clear c24
       obtain ⟨y358, hy358⟩ : ∃ y_ : List (S38), y_ = (y355 ++ t352) := ⟨_, rfl⟩
       replace H : ((judge_Part.f kj11 t343 t346 t348).bind fun t361 => ((judge_Same.f kj11 t361 y358).bind fun t364 => (some t364))) = some r := by first | (rw [hy358]; with_reducible exact H) | (have H2_ := (Option.bind_some _ _).symm.trans H; rw [hy358]; with_reducible exact H2_) | (have H2_ := (Option.bind_some _ _).symm.trans H; with_reducible exact H2_) | with_reducible exact H | (rw [hy358]; exact H) | exact H
       have Ny358 := Aside0.mk hy358
       clear hy358
       replace H := Option.bind_eq_some_iff.mp H
       obtain ⟨t361, A250, H⟩ := H
       replace H : ((judge_Same.f kj11 t361 y358).bind fun t364 => (some t364)) = some r := H
       have A25 := Aside0.mk A250
       clear A250
       replace H := Option.bind_eq_some_iff.mp H
       obtain ⟨t364, A260, H⟩ := H
       replace H : (some t364) = some r := H
       have A26 := Aside0.mk A260
       clear A260
       obtain rfl := Option.some.inj H
       obtain ⟨Ao27, co27, eo27⟩ := Kd.R_slice HO_10.out
       subst eo27
       go_wp2_with (first | ((with_reducible refine gate_callee (f := 14) rfl ?_); refine goesL_ (some 45) rfl rfl Try.func14 (by kernel_rfl) rfl #[.slice Ao27 t343.length co27, .string t346, .string t347] rfl (by (try simp only [List.map_toArray, List.map_cons, List.map_nil]); first | done | rfl | (simp only [List.length_drop, List.length_take]; rfl)) ?_; (with_reducible refine (judge_Part.calls kj11 _ _ t343 t346 t347 t349 _ ?side1 ?side2 A21.out).mono ?_); (case side1 => repeat (first | exact (Kd.R_reads' HO_10.out).2.2 | (with_reducible refine Kd.C_alloc ?_ _) | (with_reducible refine Kd.C_drewN ?_ _) | (with_reducible refine Kd.C_drew ?_))); (case side2 => exact (Kd.R_reads' HO_10.out).2.1); rintro e w28 ⟨v350, rfl, ho0, hb⟩; refine ⟨_, rfl, ?_⟩; have HO351 := Aside0.mk (Kd.R_lower (Kd.R_new' ho0 (Kd.R_lt (by (with_reducible repeat (first | apply Kd.R_alloc | apply Kd.R_drewN | apply Kd.R_drew)); exact HO_10.out))) (below_size (bC HB))); replace HO_10 := Aside0.mk (Kd.R_elder' (by (with_reducible repeat (first | apply Kd.R_alloc | apply Kd.R_drewN | apply Kd.R_drew)); exact HO_10.out) (Kd.R_base ho0) hb); replace HB := bW HB hb; (try clear hb); (try clear hb2); (try clear hk); (try clear hi); (try clear ho0)) | ((with_reducible refine gate_callee (f := 14) rfl ?_); refine goesL_ (some 49) rfl rfl Try.func14 (by kernel_rfl) rfl #[.slice Ao27 t343.length co27, .string t347, .string t348] rfl (by (try simp only [List.map_toArray, List.map_cons, List.map_nil]); first | done | rfl | (simp only [List.length_drop, List.length_take]; rfl)) ?_; (with_reducible refine (judge_Part.calls kj11 _ _ t343 t347 t348 t352 _ ?side1 ?side2 A22.out).mono ?_); (case side1 => repeat (first | exact (Kd.R_reads' HO_10.out).2.2 | (with_reducible refine Kd.C_alloc ?_ _) | (with_reducible refine Kd.C_drewN ?_ _) | (with_reducible refine Kd.C_drew ?_))); (case side2 => exact (Kd.R_reads' HO_10.out).2.1); rintro e w29 ⟨v353, rfl, ho0, hb⟩; refine ⟨_, rfl, ?_⟩; have HO354 := Aside0.mk (Kd.R_lower (Kd.R_new' (Kd.R_new' ho0 (Kd.R_lt (by (with_reducible repeat (first | apply Kd.R_alloc | apply Kd.R_drewN | apply Kd.R_drew)); exact HO_10.out))) (Kd.R_lt (by (with_reducible repeat (first | apply Kd.R_alloc | apply Kd.R_drewN | apply Kd.R_drew)); exact HO351.out))) (below_size (bC HB))); replace HO_10 := Aside0.mk (Kd.R_elder' (by (with_reducible repeat (first | apply Kd.R_alloc | apply Kd.R_drewN | apply Kd.R_drew)); exact HO_10.out) (Kd.R_base ho0) hb); replace HO351 := Aside0.mk (Kd.R_elder' (by (with_reducible repeat (first | apply Kd.R_alloc | apply Kd.R_drewN | apply Kd.R_drew)); exact HO351.out) (Kd.R_base ho0) hb); replace HB := bW HB hb; (try clear hb); (try clear hb2); (try clear hk); (try clear hi); (try clear ho0); obtain ⟨Ao31, co31, eo31⟩ := Kd.R_slice HO351.out; subst eo31) | ((with_reducible refine gate_builtin (b := .append) (xs := #[.tmp 50, .tmp 51]) rfl ?_); at_builtin; refine Kd.R_append_rows k38 (w0 := w) w.heap.size rfl (.tmp 50) (.tmp 51) 22 38 (.agg #[(.string ⟨#[]⟩), (.int .i64 0), (.float .f64 0), (.string ⟨#[]⟩)]) 48 rfl Try.underlying22 info38 rfl (by decide) (by omega) (.slice none 0 0) ([] : List (S38)) t349 _ _ _ (fun k_ => some k_ ≠ (.slice Ao27 t343.length co27 : Value).ownBlock ∧ some k_ ≠ (.slice Ao31 t349.length co31 : Value).ownBlock ∧ some k_ ≠ (v353 : Value).ownBlock) (fun _ => False) rfl rfl ?aO ?aR (fun _ _ h => h) (fun _ h => h.elim) ?aF ?aB ?aS ?aL ?_; (case aR => repeat (first | exact (Kd.R_reads' HO351.out).2.2 | (with_reducible refine Kd.C_alloc ?_ _) | (with_reducible refine Kd.C_drewN ?_ _) | (with_reducible refine Kd.C_drew ?_))); (case aB => exact (bC HB)); (case aF => exact (fun k_ hk => ⟨Kd.fresh' (Kd.R_lt (by (with_reducible repeat (first | apply Kd.R_alloc | apply Kd.R_drewN | apply Kd.R_drew)); exact HO_10.out)) k_ hk, Kd.fresh' (Kd.R_lt (by (with_reducible repeat (first | apply Kd.R_alloc | apply Kd.R_drewN | apply Kd.R_drew)); exact HO351.out)) k_ hk, Kd.fresh' (Kd.R_lt (by (with_reducible repeat (first | apply Kd.R_alloc | apply Kd.R_drewN | apply Kd.R_drew)); exact HO354.out)) k_ hk⟩)); (case aO => exact ((Kd.R_nil _ _ _ _ (fun k_ => some k_ ≠ (.slice Ao27 t343.length co27 : Value).ownBlock ∧ some k_ ≠ (.slice Ao31 t349.length co31 : Value).ownBlock ∧ some k_ ≠ (v353 : Value).ownBlock)))); (case aS => exact (below_size (bC HB))); (case aL => have := LMc23.out; omega); intro v356 w30 ho hb hg hat; rw [← Ny355.out] at ho; have HO357 := Aside0.mk (ho); replace HO_10 := Aside0.mk (Kd.R_after (Kd.R_apart_nil (by (with_reducible repeat (first | apply Kd.R_alloc | apply Kd.R_drewN | apply Kd.R_drew)); exact HO_10.out)) hg hat); replace HO351 := Aside0.mk (Kd.R_after (Kd.R_apart_nil (by (with_reducible repeat (first | apply Kd.R_alloc | apply Kd.R_drewN | apply Kd.R_drew)); exact HO351.out)) hg hat); replace HO354 := Aside0.mk (Kd.R_after (Kd.R_apart_nil (by (with_reducible repeat (first | apply Kd.R_alloc | apply Kd.R_drewN | apply Kd.R_drew)); exact HO354.out)) hg hat); replace HB := Aside0.mk (hb); clear ho hb hg hat; obtain ⟨Ao33, co33, eo33⟩ := Kd.R_slice HO354.out; subst eo33) | ((with_reducible refine gate_builtin (b := .append) (xs := #[.tmp 52, .tmp 53]) rfl ?_); at_builtin; refine Kd.R_append_rows k38 (w0 := w) w.heap.size rfl (.tmp 52) (.tmp 53) 22 38 (.agg #[(.string ⟨#[]⟩), (.int .i64 0), (.float .f64 0), (.string ⟨#[]⟩)]) 48 rfl Try.underlying22 info38 rfl (by decide) (by omega) v356 y355 t352 _ _ _ (fun k_ => some k_ ≠ (.slice Ao27 t343.length co27 : Value).ownBlock ∧ some k_ ≠ (.slice Ao31 t349.length co31 : Value).ownBlock ∧ some k_ ≠ (.slice Ao33 t352.length co33 : Value).ownBlock) (fun _ => False) rfl rfl ?aO ?aR (fun _ _ h => h) (fun _ h => h.elim) ?aF ?aB ?aS ?aL ?_; (case aR => repeat (first | exact (Kd.R_reads' HO354.out).2.2 | (with_reducible refine Kd.C_alloc ?_ _) | (with_reducible refine Kd.C_drewN ?_ _) | (with_reducible refine Kd.C_drew ?_))); (case aB => exact (bC HB)); (case aF => exact (fun k_ hk => ⟨Kd.fresh' (Kd.R_lt (by (with_reducible repeat (first | apply Kd.R_alloc | apply Kd.R_drewN | apply Kd.R_drew)); exact HO_10.out)) k_ hk, Kd.fresh' (Kd.R_lt (by (with_reducible repeat (first | apply Kd.R_alloc | apply Kd.R_drewN | apply Kd.R_drew)); exact HO351.out)) k_ hk, Kd.fresh' (Kd.R_lt (by (with_reducible repeat (first | apply Kd.R_alloc | apply Kd.R_drewN | apply Kd.R_drew)); exact HO354.out)) k_ hk⟩)); (case aO => exact (by (with_reducible repeat (first | apply Kd.R_alloc | apply Kd.R_drewN | apply Kd.R_drew)); exact HO357.out)); (case aS => exact (below_size (bC HB))); (case aL => have := LMc24.out; omega); intro v359 w32 ho hb hg hat; rw [← Ny358.out] at ho; have HO360 := Aside0.mk (ho); replace HO_10 := Aside0.mk (Kd.R_after (ok := (fun k_ => some k_ ≠ (.slice Ao31 t349.length co31 : Value).ownBlock ∧ some k_ ≠ (.slice Ao33 t352.length co33 : Value).ownBlock)) (by (with_reducible repeat (first | apply Kd.R_alloc | apply Kd.R_drewN | apply Kd.R_drew)); exact Kd.R_mono HO_10.out (fun _ hk => ⟨⟨hk.1.1.2, hk.1.2⟩, hk.2⟩)) hg hat); replace HO351 := Aside0.mk (Kd.R_after (ok := (fun k_ => some k_ ≠ (.slice Ao27 t343.length co27 : Value).ownBlock ∧ some k_ ≠ (.slice Ao33 t352.length co33 : Value).ownBlock)) (by (with_reducible repeat (first | apply Kd.R_alloc | apply Kd.R_drewN | apply Kd.R_drew)); exact Kd.R_mono HO351.out (fun _ hk => ⟨⟨hk.1.1.2, hk.1.2⟩, hk.2⟩)) hg hat); replace HO354 := Aside0.mk (Kd.R_after (ok := (fun k_ => some k_ ≠ (.slice Ao27 t343.length co27 : Value).ownBlock ∧ some k_ ≠ (.slice Ao31 t349.length co31 : Value).ownBlock)) (by (with_reducible repeat (first | apply Kd.R_alloc | apply Kd.R_drewN | apply Kd.R_drew)); exact Kd.R_mono HO354.out (fun _ hk => ⟨⟨hk.1.1.2, hk.1.2⟩, hk.2⟩)) hg hat); replace HB := Aside0.mk (hb); clear HO357; clear ho hb hg hat) | ((with_reducible refine gate_callee (f := 14) rfl ?_); refine goesL_ (some 58) rfl rfl Try.func14 (by kernel_rfl) rfl #[.slice Ao27 t343.length co27, .string t346, .string t348] rfl (by (try simp only [List.map_toArray, List.map_cons, List.map_nil]); first | done | rfl | (simp only [List.length_drop, List.length_take]; rfl)) ?_; (with_reducible refine (judge_Part.calls kj11 _ _ t343 t346 t348 t361 _ ?side1 ?side2 A25.out).mono ?_); (case side1 => repeat (first | exact (Kd.R_reads' HO_10.out).2.2 | (with_reducible refine Kd.C_alloc ?_ _) | (with_reducible refine Kd.C_drewN ?_ _) | (with_reducible refine Kd.C_drew ?_))); (case side2 => exact (Kd.R_reads' HO_10.out).2.1); rintro e w34 ⟨v362, rfl, ho0, hb⟩; refine ⟨_, rfl, ?_⟩; have HO363 := Aside0.mk (Kd.R_lower (Kd.R_new' (Kd.R_new' (Kd.R_new' (Kd.R_new' ho0 (Kd.R_lt (by (with_reducible repeat (first | apply Kd.R_alloc | apply Kd.R_drewN | apply Kd.R_drew)); exact HO_10.out))) (Kd.R_lt (by (with_reducible repeat (first | apply Kd.R_alloc | apply Kd.R_drewN | apply Kd.R_drew)); exact HO351.out))) (Kd.R_lt (by (with_reducible repeat (first | apply Kd.R_alloc | apply Kd.R_drewN | apply Kd.R_drew)); exact HO354.out))) (Kd.R_lt (by (with_reducible repeat (first | apply Kd.R_alloc | apply Kd.R_drewN | apply Kd.R_drew)); exact HO360.out))) (below_size (bC HB))); replace HO_10 := Aside0.mk (Kd.R_elder' (by (with_reducible repeat (first | apply Kd.R_alloc | apply Kd.R_drewN | apply Kd.R_drew)); exact HO_10.out) (Kd.R_base ho0) hb); replace HO351 := Aside0.mk (Kd.R_elder' (by (with_reducible repeat (first | apply Kd.R_alloc | apply Kd.R_drewN | apply Kd.R_drew)); exact HO351.out) (Kd.R_base ho0) hb); replace HO354 := Aside0.mk (Kd.R_elder' (by (with_reducible repeat (first | apply Kd.R_alloc | apply Kd.R_drewN | apply Kd.R_drew)); exact HO354.out) (Kd.R_base ho0) hb); replace HO360 := Aside0.mk (Kd.R_elder' (by (with_reducible repeat (first | apply Kd.R_alloc | apply Kd.R_drewN | apply Kd.R_drew)); exact HO360.out) (Kd.R_base ho0) hb); replace HB := bW HB hb; (try clear hb); (try clear hb2); (try clear hk); (try clear hi); (try clear ho0); obtain ⟨Ao35, co35, eo35⟩ := Kd.R_slice HO363.out; subst eo35; obtain ⟨Ao36, co36, eo36⟩ := Kd.R_slice HO360.out; subst eo36) | ((with_reducible refine gate_callee (f := 12) rfl ?_); refine goesL_ (some 60) rfl rfl Try.func12 (by kernel_rfl) rfl #[.slice Ao35 t361.length co35, .slice Ao36 y358.length co36] rfl (by (try simp only [List.map_toArray, List.map_cons, List.map_nil]); first | done | rfl | (simp only [List.length_drop, List.length_take]; rfl)) ?_; (with_reducible refine (judge_Same.calls kj11 _ _ t361 _ _ y358 t364 _ ?side1 ?side2 ?side3 ?side4 A26.out).mono ?_); (case side1 => repeat (first | exact (Kd.R_reads' HO363.out).2.2 | (with_reducible refine Kd.C_alloc ?_ _) | (with_reducible refine Kd.C_drewN ?_ _) | (with_reducible refine Kd.C_drew ?_))); (case side2 => exact (Kd.R_reads' HO363.out).2.1); (case side3 => repeat (first | exact (Kd.R_reads' HO360.out).2.2 | (with_reducible refine Kd.C_alloc ?_ _) | (with_reducible refine Kd.C_drewN ?_ _) | (with_reducible refine Kd.C_drew ?_))); (case side4 => exact (Kd.R_reads' HO360.out).2.1); rintro e w37 ⟨rfl, hb⟩; refine ⟨_, rfl, ?_⟩; replace HO_10 := Aside0.mk (Kd.R_below (by (with_reducible repeat (first | apply Kd.R_alloc | apply Kd.R_drewN | apply Kd.R_drew)); exact HO_10.out) hb); replace HO351 := Aside0.mk (Kd.R_below (by (with_reducible repeat (first | apply Kd.R_alloc | apply Kd.R_drewN | apply Kd.R_drew)); exact HO351.out) hb); replace HO354 := Aside0.mk (Kd.R_below (by (with_reducible repeat (first | apply Kd.R_alloc | apply Kd.R_drewN | apply Kd.R_drew)); exact HO354.out) hb); replace HO360 := Aside0.mk (Kd.R_below (by (with_reducible repeat (first | apply Kd.R_alloc | apply Kd.R_drewN | apply Kd.R_drew)); exact HO360.out) hb); replace HO363 := Aside0.mk (Kd.R_below (by (with_reducible repeat (first | apply Kd.R_alloc | apply Kd.R_drewN | apply Kd.R_drew)); exact HO363.out) hb); replace HB := bW HB hb; (try clear hb); (try clear hb2); (try clear hk); (try clear hi)))
       go_ret
       exact ⟨by first | rfl | (simp [errW_none, errW_some] <;> rfl) | (simp [*, errW_none, errW_some] <;> rfl), by repeat (first | (with_reducible first | exact HB.out | apply below_alloc | apply pw_below_drewN | apply below_drew1) | exact HB.out)⟩
      ·rw [if_neg c24] at H
       exact absurd H (by simp)
     ·rw [if_neg c23] at H
      exact absurd H (by simp)
 ·replace c6 := Bool.eq_false_iff.mpr c6
  subst c6
  have H1 : (none) = some r := by rw [if_neg (show ¬ (false = true) by decide)] at H; (first | exact H | (simp only [eq_self_iff_true, if_true] at H ⊢; exact H))
  clear H
  have H := H1
  clear H1
  exact absurd H (by simp)

/-- THE ONE PURE STATEMENT of engrosslaw28_JudgeParts. -/
def engrosslaw28_JudgeParts.Pure : Prop := ∀ (l0 : List (S38)) (a1 : ByteArray) (a2 : ByteArray) (a3 : ByteArray), (l0.length ≤ 9223372036854775807 ∧ ∀ y ∈ l0, wf38 y) → a1.size ≤ 9223372036854775807 → a2.size ≤ 9223372036854775807 → a3.size ≤ 9223372036854775807 → ∃ k, engrosslaw28_JudgeParts.f k l0 a1 a2 a3 = some true

-- NOT PRINTED: function 6 (engrosslaw28_JudgeVals)

end Go.Proofs.Ytppbdngfiphliaa.P
