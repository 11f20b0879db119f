/- Functions of the program as Lean functions, and that each call answers as its function does. No condition. (Lines written by a generator of this session.) -/
import Derived.Test.YtaphfjfalbeojaaPx0
import Derived.Test.YtaphfjfalbeojaaPx1
import Derived.Test.YtaphfjfalbeojaaPx2
namespace Go.Proofs.Ytaphfjfalbeojaa.P
open Go.RowKit Go.Proofs.YtaphfjfalbeojaaW.PrintWords Go.Proofs.YtaphfjfalbeojaaW.PrintLast Go.Proofs.YtaphfjfalbeojaaW.PrintMore
attribute [local go_sem] max2_int min2_int max_two min_two max_three min_three max_four min_four   -- for this text's walks alone
attribute [local go_sem] x_str_gtr x_str_leq x_str_geq ext_bits ext_frombits ext_neg Instr.field asAgg
set_option linter.unusedVariables false
set_option linter.unusedSimpArgs false

/-! ### engrosslaw3_FloatGo: function 6 -/
def engrosslaw3_FloatGo.j0 : Nat → Nat → Nat → Bool → Option (Bool)
 | 0, _, _, _ => none
 | k + 1, x6, x7, x20 => if x20 = true then ((float_Less.f x6 x7).bind fun t215 => ((engrossref1_NaN.f x6).bind fun t216 => (if t216 = true then ((engrossref1_NaN.f x7).bind fun t217 => (some (t215 == (!t217)))) else (some (t215 == false))))) else (if (FloatKind.f64.format.order x6 x7 == some .lt) = true then ((float_Less.f x6 x7).bind fun t218 => (if t218 = true then ((float_Less.f x7 x6).bind fun t219 => (some (!t219))) else (none))) else (if (FloatKind.f64.format.order x6 x7 == some .gt) = true then ((float_Less.f x7 x6).bind fun t220 => (if t220 = true then ((float_Less.f x6 x7).bind fun t221 => (some (!t221))) else (none))) else (if (FloatKind.f64.format.order x6 x7 == some .eq) = true then ((float_Same.f x6 x7).bind fun t222 => (if t222 = true then (some true) else (if (FloatKind.f64.format.order x6 0 == some .eq) = true then ((float_Less.f x6 x7).bind fun t223 => ((float_Less.f x7 x6).bind fun t224 => (some (t223 != t224)))) else (none)))) else (none))))
def engrosslaw3_FloatGo.f (k : Nat) (a0 : Int) (a1 : Int) : Option (Bool) := (engrosslaw3_begun.f k).bind fun t210 => (if t210 = true then ((engrosslaw3_of.f a0).bind fun t211 => ((engrosslaw3_of.f a1).bind fun t212 => ((engrossref1_NaN.f t211).bind fun t213 => (if t213 = true then (engrosslaw3_FloatGo.j0 k t211 t212 true) else ((engrossref1_NaN.f t212).bind fun t214 => (engrosslaw3_FloatGo.j0 k t211 t212 t214)))))) else (none))
theorem engrosslaw3_FloatGo.mono_l : ∀ k, (∀ y0 y1 y2, LeO (engrosslaw3_FloatGo.j0 k y0 y1 y2) (engrosslaw3_FloatGo.j0 (k + 1) y0 y1 y2))
 | 0 => fun _ _ _ r h => by simp [engrosslaw3_FloatGo.j0] at h
 | k + 1 => by
  have ih0 := engrosslaw3_FloatGo.mono_l k
  ·intro y0 y1 y2
   unfold engrosslaw3_FloatGo.j0
   repeat' first
   | (with_reducible exact ih0 _ _ _)
   | (with_reducible exact engrosslaw3_begun.mono _)
   | (with_reducible exact LeO.refl _)
   | (with_reducible exact LeO.none _)
   | (with_reducible refine LeO.ite ?_ ?_)
   | (with_reducible refine LeO.bind ?_ (fun _ => ?_))
   | exact ih0 _ _ _
   | exact engrosslaw3_begun.mono _
   | exact LeO.none _
   | refine LeO.ite ?_ ?_
   | refine LeO.bind ?_ (fun _ => ?_)
theorem engrosslaw3_FloatGo.mono : ∀ a0 a1 k, LeO (engrosslaw3_FloatGo.f k a0 a1) (engrosslaw3_FloatGo.f (k + 1) a0 a1) := by
 intro a0 a1 k
 have ih0 := engrosslaw3_FloatGo.mono_l k
 unfold engrosslaw3_FloatGo.f
 repeat' first
   | (with_reducible exact ih0 _ _ _)
   | (with_reducible exact engrosslaw3_begun.mono _)
   | (with_reducible exact LeO.refl _)
   | (with_reducible exact LeO.none _)
   | (with_reducible refine LeO.ite ?_ ?_)
   | (with_reducible refine LeO.bind ?_ (fun _ => ?_))
   | exact ih0 _ _ _
   | exact engrosslaw3_begun.mono _
   | exact LeO.none _
   | refine LeO.ite ?_ ?_
   | refine LeO.bind ?_ (fun _ => ?_)
set_option maxHeartbeats 8000000 in
set_option maxRecDepth 100000 in
theorem engrosslaw3_FloatGo.calls (k : Nat) (a0 : Int) (a1 : Int) (r : Bool) (w : World) (h : engrosslaw3_FloatGo.f k a0 a1 = some r) :
  Calls Try.prog 6 #[.int .u64 a0, .int .u64 a1] w fun e w' => e = .returned (.bool r) ∧ Below w.heap.size w w' := by
 have HB := Aside0.mk (Below.refl w.heap.size w)
 have H : ((engrosslaw3_begun.f k).bind fun t210 => (if t210 = true then ((engrosslaw3_of.f a0).bind fun t211 => ((engrosslaw3_of.f a1).bind fun t212 => ((engrossref1_NaN.f t211).bind fun t213 => (if t213 = true then (engrosslaw3_FloatGo.j0 k t211 t212 true) else ((engrossref1_NaN.f t212).bind fun t214 => (engrosslaw3_FloatGo.j0 k t211 t212 t214)))))) else (none))) = some r := h
 clear h
 replace H := Option.bind_eq_some_iff.mp H
 obtain ⟨t210, A30, H⟩ := H
 replace H : (if t210 = true then ((engrosslaw3_of.f a0).bind fun t211 => ((engrosslaw3_of.f a1).bind fun t212 => ((engrossref1_NaN.f t211).bind fun t213 => (if t213 = true then (engrosslaw3_FloatGo.j0 k t211 t212 true) else ((engrossref1_NaN.f t212).bind fun t214 => (engrosslaw3_FloatGo.j0 k t211 t212 t214)))))) else (none)) = some r := H
 have A3 := Aside0.mk A30
 clear A30
 by_cases c4 : t210 = true
 ·subst c4
  have H1 : ((engrosslaw3_of.f a0).bind fun t211 => ((engrosslaw3_of.f a1).bind fun t212 => ((engrossref1_NaN.f t211).bind fun t213 => (if t213 = true then (engrosslaw3_FloatGo.j0 k t211 t212 true) else ((engrossref1_NaN.f t212).bind fun t214 => (engrosslaw3_FloatGo.j0 k t211 t212 t214)))))) = some r := by rw [if_pos rfl] at H; exact H
  clear H
  have H := H1
  clear H1
  replace H := Option.bind_eq_some_iff.mp H
  obtain ⟨t211, A50, H⟩ := H
  replace H : ((engrosslaw3_of.f a1).bind fun t212 => ((engrossref1_NaN.f t211).bind fun t213 => (if t213 = true then (engrosslaw3_FloatGo.j0 k t211 t212 true) else ((engrossref1_NaN.f t212).bind fun t214 => (engrosslaw3_FloatGo.j0 k t211 t212 t214))))) = some r := H
  have A5 := Aside0.mk A50
  clear A50
  replace H := Option.bind_eq_some_iff.mp H
  obtain ⟨t212, A60, H⟩ := H
  replace H : ((engrossref1_NaN.f t211).bind fun t213 => (if t213 = true then (engrosslaw3_FloatGo.j0 k t211 t212 true) else ((engrossref1_NaN.f t212).bind fun t214 => (engrosslaw3_FloatGo.j0 k t211 t212 t214)))) = some r := H
  have A6 := Aside0.mk A60
  clear A60
  have HC7 := Aside0.mk H
  clear H
  go_enter Try.func6, Try.ntmps6
  go_upto_region 5 with (first | ((with_reducible refine gate_callee (f := 15) rfl ?_); refine goesL_ (some 8) rfl rfl Try.func15 (by kernel_rfl) rfl #[] rfl (by (try simp only [List.map_toArray, List.map_cons, List.map_nil]); first | done | rfl | (simp only [List.length_drop, List.length_take]; rfl)) ?_; (with_reducible refine (engrosslaw3_begun.calls k  true _ A3.out).mono ?_); rintro e w8 ⟨rfl, hb⟩; refine ⟨_, rfl, ?_⟩; replace HB := bW HB hb; (try clear hb); (try clear hb2); (try clear hk); (try clear hi)) | ((with_reducible refine gate_callee (f := 16) rfl ?_); refine goesL_ (some 12) rfl rfl Try.func16 (by kernel_rfl) rfl #[.int .u64 a0] rfl (by (try simp only [List.map_toArray, List.map_cons, List.map_nil]); first | done | rfl | (simp only [List.length_drop, List.length_take]; rfl)) ?_; (with_reducible refine (engrosslaw3_of.calls a0 t211 _ A5.out).mono ?_); rintro e w' ⟨rfl, ⟨nd, rfl⟩⟩; refine ⟨_, rfl, ?_⟩) | ((with_reducible refine gate_callee (f := 16) rfl ?_); refine goesL_ (some 14) rfl rfl Try.func16 (by kernel_rfl) rfl #[.int .u64 a1] rfl (by (try simp only [List.map_toArray, List.map_cons, List.map_nil]); first | done | rfl | (simp only [List.length_drop, List.length_take]; rfl)) ?_; (with_reducible refine (engrosslaw3_of.calls a1 t212 _ A6.out).mono ?_); rintro e w' ⟨rfl, ⟨nd, rfl⟩⟩; refine ⟨_, rfl, ?_⟩))
  (try simp only [Act.put, List.setIfInBounds_toArray, List.set_cons_zero, List.set_cons_succ])
  go_cut [20] (fun v20 wc => ∃ (kq : Nat) (x20_6 : Bool), v20 = .bool x20_6 ∧ Aside0 (engrosslaw3_FloatGo.j0 kq t211 t212 x20_6 = some r) ∧ Aside0 (kq ≤ k) ∧ Aside0 (Below w.heap.size w wc))
  case first =>
   have H := HC7.out
   clear HC7
   replace H := Option.bind_eq_some_iff.mp H
   obtain ⟨t213, A90, H⟩ := H
   replace H : (if t213 = true then (engrosslaw3_FloatGo.j0 k t211 t212 true) else ((engrossref1_NaN.f t212).bind fun t214 => (engrosslaw3_FloatGo.j0 k t211 t212 t214))) = some r := H
   have A9 := Aside0.mk A90
   clear A90
   by_cases c10 : t213 = true
   ·subst c10
    have H1 : (engrosslaw3_FloatGo.j0 k t211 t212 true) = some r := by rw [if_pos rfl] at H; exact H
    clear H
    have H := H1
    clear H1
    have H' := Aside0.mk H
    clear H
    go_wp2_with (first | ((with_reducible refine gate_callee (f := 28) rfl ?_); refine goesL_ (some 16) rfl rfl Try.func28 (by kernel_rfl) rfl #[.float .f64 t211] rfl (by (try simp only [List.map_toArray, List.map_cons, List.map_nil]); first | done | rfl | (simp only [List.length_drop, List.length_take]; rfl)) ?_; (with_reducible refine (engrossref1_NaN.calls t211 true _ A9.out).mono ?_); rintro e w' ⟨rfl, ⟨nd, rfl⟩⟩; refine ⟨_, rfl, ?_⟩))
    go_meet
    case rel => exact ⟨_, (true), (by first | rfl | (simp; done) | (simp [*]; done)), H', ⟨by first | omega | exact Nat.le_refl _⟩, ⟨by repeat (first | (with_reducible first | exact HB.out | apply below_alloc | apply pw_below_drewN | apply below_drew1) | exact HB.out)⟩⟩
   ·replace c10 := Bool.eq_false_iff.mpr c10
    subst c10
    have H1 : ((engrossref1_NaN.f t212).bind fun t214 => (engrosslaw3_FloatGo.j0 k t211 t212 t214)) = some r := by rw [if_neg (show ¬ (false = true) by decide)] at H; exact H
    clear H
    have H := H1
    clear H1
    replace H := Option.bind_eq_some_iff.mp H
    obtain ⟨t214, A110, H⟩ := H
    replace H : (engrosslaw3_FloatGo.j0 k t211 t212 t214) = some r := H
    have A11 := Aside0.mk A110
    clear A110
    have H' := Aside0.mk H
    clear H
    go_wp2_with (first | ((with_reducible refine gate_callee (f := 28) rfl ?_); refine goesL_ (some 16) rfl rfl Try.func28 (by kernel_rfl) rfl #[.float .f64 t211] rfl (by (try simp only [List.map_toArray, List.map_cons, List.map_nil]); first | done | rfl | (simp only [List.length_drop, List.length_take]; rfl)) ?_; (with_reducible refine (engrossref1_NaN.calls t211 false _ A9.out).mono ?_); rintro e w' ⟨rfl, ⟨nd, rfl⟩⟩; refine ⟨_, rfl, ?_⟩) | (go_at_call 28; (with_reducible refine (engrossref1_NaN.calls t212 t214 _ A11.out).mono ?_); rintro e w' ⟨rfl, ⟨nd, rfl⟩⟩))
    go_meet
    case rel => exact ⟨_, (t214), (by first | rfl | (simp; done) | (simp [*]; done)), H', ⟨by first | omega | exact Nat.le_refl _⟩, ⟨by repeat (first | (with_reducible first | exact HB.out | apply below_alloc | apply pw_below_drewN | apply below_drew1) | exact HB.out)⟩⟩
  case rest =>
   clear HC7
   try clear c1
   try clear c2
   try clear p2
   try clear c4
   try clear c6
   try clear c10
   obtain ⟨kq, x20_6, rfl, HA, HJ6, HB⟩ := hcut
   cases kq with
   | zero => exact absurd HA.out (by simp [engrosslaw3_FloatGo.j0])
   | succ kj6 =>
    have H := HA.out
    clear HA
    simp only [engrosslaw3_FloatGo.j0] at H
    by_cases c12 : x20_6 = true
    ·subst c12
     have H1 : ((float_Less.f t211 t212).bind fun t215 => ((engrossref1_NaN.f t211).bind fun t216 => (if t216 = true then ((engrossref1_NaN.f t212).bind fun t217 => (some (t215 == (!t217)))) else (some (t215 == false))))) = some r := by rw [if_pos rfl] at H; exact H
     clear H
     have H := H1
     clear H1
     replace H := Option.bind_eq_some_iff.mp H
     obtain ⟨t215, A130, H⟩ := H
     replace H : ((engrossref1_NaN.f t211).bind fun t216 => (if t216 = true then ((engrossref1_NaN.f t212).bind fun t217 => (some (t215 == (!t217)))) else (some (t215 == false)))) = some r := H
     have A13 := Aside0.mk A130
     clear A130
     replace H := Option.bind_eq_some_iff.mp H
     obtain ⟨t216, A140, H⟩ := H
     replace H : (if t216 = true then ((engrossref1_NaN.f t212).bind fun t217 => (some (t215 == (!t217)))) else (some (t215 == false))) = some r := H
     have A14 := Aside0.mk A140
     clear A140
     by_cases c15 : t216 = true
     ·subst c15
      have H1 : ((engrossref1_NaN.f t212).bind fun t217 => (some (t215 == (!t217)))) = some r := by rw [if_pos rfl] at H; exact H
      clear H
      have H := H1
      clear H1
      replace H := Option.bind_eq_some_iff.mp H
      obtain ⟨t217, A160, H⟩ := H
      replace H : (some (t215 == (!t217))) = some r := H
      have A16 := Aside0.mk A160
      clear A160
      obtain rfl := Option.some.inj H
      go_wp2_with (first | ((with_reducible refine gate_callee (f := 19) rfl ?_); refine goesL_ (some 23) rfl rfl Try.func19 (by kernel_rfl) rfl #[.float .f64 t211, .float .f64 t212] rfl (by (try simp only [List.map_toArray, List.map_cons, List.map_nil]); first | done | rfl | (simp only [List.length_drop, List.length_take]; rfl)) ?_; (with_reducible refine (float_Less.calls t211 t212 t215 _ A13.out).mono ?_); rintro e w' ⟨rfl, ⟨nd, rfl⟩⟩; refine ⟨_, rfl, ?_⟩) | ((with_reducible refine gate_callee (f := 28) rfl ?_); refine goesL_ (some 25) rfl rfl Try.func28 (by kernel_rfl) rfl #[.float .f64 t211] rfl (by (try simp only [List.map_toArray, List.map_cons, List.map_nil]); first | done | rfl | (simp only [List.length_drop, List.length_take]; rfl)) ?_; (with_reducible refine (engrossref1_NaN.calls t211 true _ A14.out).mono ?_); rintro e w' ⟨rfl, ⟨nd, rfl⟩⟩; refine ⟨_, rfl, ?_⟩) | (go_at_call 28; (with_reducible refine (engrossref1_NaN.calls t212 t217 _ A16.out).mono ?_); rintro e w' ⟨rfl, ⟨nd, rfl⟩⟩))
      go_ret
      exact ⟨by first | rfl | (simp [errW_none, errW_some] <;> rfl) | (simp [*, errW_none, errW_some] <;> rfl), by repeat (first | (with_reducible first | exact HB.out | apply below_alloc | apply pw_below_drewN | apply below_drew1) | exact HB.out)⟩
     ·replace c15 := Bool.eq_false_iff.mpr c15
      subst c15
      have H1 : (some (t215 == false)) = some r := by rw [if_neg (show ¬ (false = true) by decide)] at H; exact H
      clear H
      have H := H1
      clear H1
      obtain rfl := Option.some.inj H
      go_wp2_with (first | ((with_reducible refine gate_callee (f := 19) rfl ?_); refine goesL_ (some 23) rfl rfl Try.func19 (by kernel_rfl) rfl #[.float .f64 t211, .float .f64 t212] rfl (by (try simp only [List.map_toArray, List.map_cons, List.map_nil]); first | done | rfl | (simp only [List.length_drop, List.length_take]; rfl)) ?_; (with_reducible refine (float_Less.calls t211 t212 t215 _ A13.out).mono ?_); rintro e w' ⟨rfl, ⟨nd, rfl⟩⟩; refine ⟨_, rfl, ?_⟩) | ((with_reducible refine gate_callee (f := 28) rfl ?_); refine goesL_ (some 25) rfl rfl Try.func28 (by kernel_rfl) rfl #[.float .f64 t211] rfl (by (try simp only [List.map_toArray, List.map_cons, List.map_nil]); first | done | rfl | (simp only [List.length_drop, List.length_take]; rfl)) ?_; (with_reducible refine (engrossref1_NaN.calls t211 false _ A14.out).mono ?_); rintro e w' ⟨rfl, ⟨nd, rfl⟩⟩; refine ⟨_, rfl, ?_⟩))
      go_ret
      exact ⟨by first | rfl | (simp [errW_none, errW_some] <;> rfl) | (simp [*, errW_none, errW_some] <;> rfl), by repeat (first | (with_reducible first | exact HB.out | apply below_alloc | apply pw_below_drewN | apply below_drew1) | exact HB.out)⟩
    ·replace c12 := Bool.eq_false_iff.mpr c12
     subst c12
     have H1 : (if (FloatKind.f64.format.order t211 t212 == some .lt) = true then ((float_Less.f t211 t212).bind fun t218 => (if t218 = true then ((float_Less.f t212 t211).bind fun t219 => (some (!t219))) else (none))) else (if (FloatKind.f64.format.order t211 t212 == some .gt) = true then ((float_Less.f t212 t211).bind fun t220 => (if t220 = true then ((float_Less.f t211 t212).bind fun t221 => (some (!t221))) else (none))) else (if (FloatKind.f64.format.order t211 t212 == some .eq) = true then ((float_Same.f t211 t212).bind fun t222 => (if t222 = true then (some true) else (if (FloatKind.f64.format.order t211 0 == some .eq) = true then ((float_Less.f t211 t212).bind fun t223 => ((float_Less.f t212 t211).bind fun t224 => (some (t223 != t224)))) else (none)))) else (none)))) = some r := by rw [if_neg (show ¬ (false = true) by decide)] at H; exact H
     clear H
     have H := H1
     clear H1
     by_cases c17 : (FloatKind.f64.format.order t211 t212 == some .lt) = true
     ·rw [if_pos c17] at H
      have c17b0 : (FloatKind.f64.format.order t211 t212 == some .lt) = true := c17
      (try (have c17b1 : decide (FloatKind.f64.format.order t211 t212 = some .lt) = true := by simpa using c17))
      (try (have c17b2 : (FloatKind.f64.format.order t211 t212 == some .lt) = true := by simpa using c17))
      clear c17
      replace H := Option.bind_eq_some_iff.mp H
      obtain ⟨t218, A180, H⟩ := H
      replace H : (if t218 = true then ((float_Less.f t212 t211).bind fun t219 => (some (!t219))) else (none)) = some r := H
      have A18 := Aside0.mk A180
      clear A180
      by_cases c19 : t218 = true
      ·subst c19
       have H1 : ((float_Less.f t212 t211).bind fun t219 => (some (!t219))) = some r := by rw [if_pos rfl] at H; exact H
       clear H
       have H := H1
       clear H1
       replace H := Option.bind_eq_some_iff.mp H
       obtain ⟨t219, A200, H⟩ := H
       replace H : (some (!t219)) = some r := H
       have A20 := Aside0.mk A200
       clear A200
       obtain rfl := Option.some.inj H
       go_wp2_with (first | ((with_reducible refine gate_callee (f := 19) rfl ?_); refine goesL_ (some 37) rfl rfl Try.func19 (by kernel_rfl) rfl #[.float .f64 t211, .float .f64 t212] rfl (by (try simp only [List.map_toArray, List.map_cons, List.map_nil]); first | done | rfl | (simp only [List.length_drop, List.length_take]; rfl)) ?_; (with_reducible refine (float_Less.calls t211 t212 true _ A18.out).mono ?_); rintro e w' ⟨rfl, ⟨nd, rfl⟩⟩; refine ⟨_, rfl, ?_⟩) | (go_at_call 19; (with_reducible refine (float_Less.calls t212 t211 t219 _ A20.out).mono ?_); rintro e w' ⟨rfl, ⟨nd, rfl⟩⟩))
       go_ret
       exact ⟨by first | rfl | (simp [errW_none, errW_some] <;> rfl) | (simp [*, errW_none, errW_some] <;> rfl), by repeat (first | (with_reducible first | exact HB.out | apply below_alloc | apply pw_below_drewN | apply below_drew1) | exact HB.out)⟩
      ·replace c19 := Bool.eq_false_iff.mpr c19
       subst c19
       have H1 : (none) = some r := by rw [if_neg (show ¬ (false = true) by decide)] at H; exact H
       clear H
       have H := H1
       clear H1
       exact absurd H (by simp)
     ·rw [if_neg c17] at H
      have c17b0 : (FloatKind.f64.format.order t211 t212 == some .lt) = false := by simpa using c17
      (try (have c17b1 : decide (FloatKind.f64.format.order t211 t212 = some .lt) = false := by simpa using c17))
      (try (have c17b2 : (FloatKind.f64.format.order t211 t212 == some .lt) = false := by simpa using c17))
      (try (have c17b3 : ¬ (FloatKind.f64.format.order t211 t212 = some .lt) := by simpa using c17))
      clear c17
      by_cases c21 : (FloatKind.f64.format.order t211 t212 == some .gt) = true
      ·rw [if_pos c21] at H
       have c21b0 : (FloatKind.f64.format.order t211 t212 == some .gt) = true := c21
       (try (have c21b1 : decide (FloatKind.f64.format.order t211 t212 = some .gt) = true := by simpa using c21))
       (try (have c21b2 : (FloatKind.f64.format.order t211 t212 == some .gt) = true := by simpa using c21))
       clear c21
       replace H := Option.bind_eq_some_iff.mp H
       obtain ⟨t220, A220, H⟩ := H
       replace H : (if t220 = true then ((float_Less.f t211 t212).bind fun t221 => (some (!t221))) else (none)) = some r := H
       have A22 := Aside0.mk A220
       clear A220
       by_cases c23 : t220 = true
       ·subst c23
        have H1 : ((float_Less.f t211 t212).bind fun t221 => (some (!t221))) = some r := by rw [if_pos rfl] at H; exact H
        clear H
        have H := H1
        clear H1
        replace H := Option.bind_eq_some_iff.mp H
        obtain ⟨t221, A240, H⟩ := H
        replace H : (some (!t221)) = some r := H
        have A24 := Aside0.mk A240
        clear A240
        obtain rfl := Option.some.inj H
        go_wp2_with (first | ((with_reducible refine gate_callee (f := 19) rfl ?_); refine goesL_ (some 49) rfl rfl Try.func19 (by kernel_rfl) rfl #[.float .f64 t212, .float .f64 t211] rfl (by (try simp only [List.map_toArray, List.map_cons, List.map_nil]); first | done | rfl | (simp only [List.length_drop, List.length_take]; rfl)) ?_; (with_reducible refine (float_Less.calls t212 t211 true _ A22.out).mono ?_); rintro e w' ⟨rfl, ⟨nd, rfl⟩⟩; refine ⟨_, rfl, ?_⟩) | (go_at_call 19; (with_reducible refine (float_Less.calls t211 t212 t221 _ A24.out).mono ?_); rintro e w' ⟨rfl, ⟨nd, rfl⟩⟩))
        go_ret
        exact ⟨by first | rfl | (simp [errW_none, errW_some] <;> rfl) | (simp [*, errW_none, errW_some] <;> rfl), by repeat (first | (with_reducible first | exact HB.out | apply below_alloc | apply pw_below_drewN | apply below_drew1) | exact HB.out)⟩
       ·replace c23 := Bool.eq_false_iff.mpr c23
        subst c23
        have H1 : (none) = some r := by rw [if_neg (show ¬ (false = true) by decide)] at H; exact H
        clear H
        have H := H1
        clear H1
        exact absurd H (by simp)
      ·rw [if_neg c21] at H
       have c21b0 : (FloatKind.f64.format.order t211 t212 == some .gt) = false := by simpa using c21
       (try (have c21b1 : decide (FloatKind.f64.format.order t211 t212 = some .gt) = false := by simpa using c21))
       (try (have c21b2 : (FloatKind.f64.format.order t211 t212 == some .gt) = false := by simpa using c21))
       (try (have c21b3 : ¬ (FloatKind.f64.format.order t211 t212 = some .gt) := by simpa using c21))
       clear c21
       by_cases c25 : (FloatKind.f64.format.order t211 t212 == some .eq) = true
       ·rw [if_pos c25] at H
        have c25b0 : (FloatKind.f64.format.order t211 t212 == some .eq) = true := c25
        (try (have c25b1 : decide (FloatKind.f64.format.order t211 t212 = some .eq) = true := by simpa using c25))
        (try (have c25b2 : (FloatKind.f64.format.order t211 t212 == some .eq) = true := by simpa using c25))
        clear c25
        replace H := Option.bind_eq_some_iff.mp H
        obtain ⟨t222, A260, H⟩ := H
        replace H : (if t222 = true then (some true) else (if (FloatKind.f64.format.order t211 0 == some .eq) = true then ((float_Less.f t211 t212).bind fun t223 => ((float_Less.f t212 t211).bind fun t224 => (some (t223 != t224)))) else (none))) = some r := H
        have A26 := Aside0.mk A260
        clear A260
        by_cases c27 : t222 = true
        ·subst c27
         have H1 : (some true) = some r := by rw [if_pos rfl] at H; exact H
         clear H
         have H := H1
         clear H1
         obtain rfl := Option.some.inj H
         go_wp2_with (first | (go_at_call 20; (with_reducible refine (float_Same.calls t211 t212 true _ A26.out).mono ?_); rintro e w' ⟨rfl, ⟨nd, rfl⟩⟩))
         go_ret
         exact ⟨by first | rfl | (simp [errW_none, errW_some] <;> rfl) | (simp [*, errW_none, errW_some] <;> rfl), by repeat (first | (with_reducible first | exact HB.out | apply below_alloc | apply pw_below_drewN | apply below_drew1) | exact HB.out)⟩
        ·replace c27 := Bool.eq_false_iff.mpr c27
         subst c27
         have H1 : (if (FloatKind.f64.format.order t211 0 == some .eq) = true then ((float_Less.f t211 t212).bind fun t223 => ((float_Less.f t212 t211).bind fun t224 => (some (t223 != t224)))) else (none)) = some r := by rw [if_neg (show ¬ (false = true) by decide)] at H; exact H
         clear H
         have H := H1
         clear H1
         by_cases c28 : (FloatKind.f64.format.order t211 0 == some .eq) = true
         ·rw [if_pos c28] at H
          have c28b0 : (FloatKind.f64.format.order t211 0 == some .eq) = true := c28
          (try (have c28b1 : decide (FloatKind.f64.format.order t211 0 = some .eq) = true := by simpa using c28))
          (try (have c28b2 : (FloatKind.f64.format.order t211 0 == some .eq) = true := by simpa using c28))
          clear c28
          replace H := Option.bind_eq_some_iff.mp H
          obtain ⟨t223, A290, H⟩ := H
          replace H : ((float_Less.f t212 t211).bind fun t224 => (some (t223 != t224))) = some r := H
          have A29 := Aside0.mk A290
          clear A290
          replace H := Option.bind_eq_some_iff.mp H
          obtain ⟨t224, A300, H⟩ := H
          replace H : (some (t223 != t224)) = some r := H
          have A30 := Aside0.mk A300
          clear A300
          obtain rfl := Option.some.inj H
          go_wp2_with (first | (go_at_call 20; (with_reducible refine (float_Same.calls t211 t212 false _ A26.out).mono ?_); rintro e w' ⟨rfl, ⟨nd, rfl⟩⟩) | (go_at_call 19; (with_reducible refine (float_Less.calls t211 t212 t223 _ A29.out).mono ?_); rintro e w' ⟨rfl, ⟨nd, rfl⟩⟩) | (go_at_call 19; (with_reducible refine (float_Less.calls t212 t211 t224 _ A30.out).mono ?_); rintro e w' ⟨rfl, ⟨nd, rfl⟩⟩))
          go_ret
          exact ⟨by first | rfl | (simp [errW_none, errW_some] <;> rfl) | (simp [*, errW_none, errW_some] <;> rfl), by repeat (first | (with_reducible first | exact HB.out | apply below_alloc | apply pw_below_drewN | apply below_drew1) | exact HB.out)⟩
         ·rw [if_neg c28] at H
          exact absurd H (by simp)
       ·rw [if_neg c25] at H
        exact absurd H (by simp)
 ·replace c4 := Bool.eq_false_iff.mpr c4
  subst c4
  have H1 : (none) = some r := by rw [if_neg (show ¬ (false = true) by decide)] at H; exact H
  clear H
  have H := H1
  clear H1
  exact absurd H (by simp)

/-- THE ONE PURE STATEMENT of engrosslaw3_FloatGo: yours. -/
def engrosslaw3_FloatGo.Pure : Prop := ∀ (a0 : Int) (a1 : Int), (Lit.int .u64 a0).wf = true → (Lit.int .u64 a1).wf = true → ∃ k, engrosslaw3_FloatGo.f k a0 a1 = some true
theorem engrosslaw3_FloatGo.walk (P : engrosslaw3_FloatGo.Pure) (a0 : Int) (a1 : Int) (w : World) (w0 : (Lit.int .u64 a0).wf = true) (w1 : (Lit.int .u64 a1).wf = true) :
  Calls Try.prog 6 #[.int .u64 a0, .int .u64 a1] w fun e w' => e = .returned (.bool true) ∧ Below w.heap.size w w' := by
 obtain ⟨k, h⟩ := P a0 a1 w0 w1
 refine (engrosslaw3_FloatGo.calls k a0 a1 true w h).mono ?_
 rintro e w' ⟨rfl, hd⟩
 exact ⟨rfl, hd⟩

end Go.Proofs.Ytaphfjfalbeojaa.P
