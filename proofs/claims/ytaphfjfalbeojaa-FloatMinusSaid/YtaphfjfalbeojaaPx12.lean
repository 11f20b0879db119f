/- Functions of the program as Lean functions, and that each call answers as its function does. No condition. (Lines written by a generator of this session.) -/
import Derived.Test.YtaphfjfalbeojaaPx0
import Derived.Test.YtaphfjfalbeojaaPx1
import Derived.Test.YtaphfjfalbeojaaPx2
namespace Go.Proofs.Ytaphfjfalbeojaa.P
open Go.RowKit Go.Proofs.YtaphfjfalbeojaaW.PrintWords Go.Proofs.YtaphfjfalbeojaaW.PrintLast Go.Proofs.YtaphfjfalbeojaaW.PrintMore
attribute [local go_sem] max2_int min2_int max_two min_two max_three min_three max_four min_four   -- for this text's walks alone
attribute [local go_sem] ext_bits ext_frombits ext_neg
set_option linter.unusedVariables false
set_option linter.unusedSimpArgs false

/-! ### engrosslaw3_FloatMinus: function 13 -/
def engrosslaw3_FloatMinus.j0 : Nat → Int → Int → Nat → Nat → Bool → Option (Bool)
  | 0, _, _, _, _, _ => none
  | k + 1, x0, x1, x6, x7, x22 => if x22 = true then (some true) else ((engrosslaw3_of.f (Go.bits .xor .u64 x0 9223372036854775808)).bind fun t332 => ((engrosslaw3_of.f (Go.bits .xor .u64 x1 9223372036854775808)).bind fun t333 => ((float_Less.f x6 x7).bind fun t334 => ((float_Less.f t333 t332).bind fun t335 => (if (t334 == t335) = true then ((float_Same.f x6 x7).bind fun t336 => ((float_Same.f t332 t333).bind fun t337 => (some (t336 == t337)))) else (some false))))))
def engrosslaw3_FloatMinus.f (k : Nat) (a0 : Int) (a1 : Int) : Option (Bool) := (engrosslaw3_begun.f k).bind fun t327 => (if t327 = true then ((engrosslaw3_of.f a0).bind fun t328 => ((engrosslaw3_of.f a1).bind fun t329 => ((engrossref1_NaN.f t328).bind fun t330 => (if t330 = true then (engrosslaw3_FloatMinus.j0 k a0 a1 t328 t329 true) else ((engrossref1_NaN.f t329).bind fun t331 => (engrosslaw3_FloatMinus.j0 k a0 a1 t328 t329 t331)))))) else (some false))
theorem engrosslaw3_FloatMinus.mono_l : ∀ k, (∀ y0 y1 y2 y3 y4, LeO (engrosslaw3_FloatMinus.j0 k y0 y1 y2 y3 y4) (engrosslaw3_FloatMinus.j0 (k + 1) y0 y1 y2 y3 y4))
  | 0 => fun _ _ _ _ _ r h => by simp [engrosslaw3_FloatMinus.j0] at h
  | k + 1 => by
    have ih0 := engrosslaw3_FloatMinus.mono_l k
    · intro y0 y1 y2 y3 y4
      unfold engrosslaw3_FloatMinus.j0
      repeat' first
      | (with_reducible exact ih0 _ _ _ _ _)
      | (with_reducible exact engrosslaw3_begun.mono _)
      | (with_reducible exact LeO.refl _)
      | (with_reducible exact LeO.none _)
      | (with_reducible refine LeO.ite ?_ ?_)
      | (with_reducible refine LeO.bind ?_ (fun _ => ?_))
      | exact ih0 _ _ _ _ _
      | exact engrosslaw3_begun.mono _
      | exact LeO.none _
      | refine LeO.ite ?_ ?_
      | refine LeO.bind ?_ (fun _ => ?_)
theorem engrosslaw3_FloatMinus.mono : ∀ a0 a1 k, LeO (engrosslaw3_FloatMinus.f k a0 a1) (engrosslaw3_FloatMinus.f (k + 1) a0 a1) := by
  intro a0 a1 k
  have ih0 := engrosslaw3_FloatMinus.mono_l k
  unfold engrosslaw3_FloatMinus.f
  repeat' first
      | (with_reducible exact ih0 _ _ _ _ _)
      | (with_reducible exact engrosslaw3_begun.mono _)
      | (with_reducible exact LeO.refl _)
      | (with_reducible exact LeO.none _)
      | (with_reducible refine LeO.ite ?_ ?_)
      | (with_reducible refine LeO.bind ?_ (fun _ => ?_))
      | exact ih0 _ _ _ _ _
      | exact engrosslaw3_begun.mono _
      | exact LeO.none _
      | refine LeO.ite ?_ ?_
      | refine LeO.bind ?_ (fun _ => ?_)
set_option maxHeartbeats 8000000 in
set_option maxRecDepth 100000 in
theorem engrosslaw3_FloatMinus.calls (k : Nat) (a0 : Int) (a1 : Int) (r : Bool) (w : World) (h : engrosslaw3_FloatMinus.f k a0 a1 = some r) :
    Calls Try.prog 13 #[.int .u64 a0, .int .u64 a1] w fun e w' => e = .returned (.bool r) ∧ Below w.heap.size w w' := by
  have HB := Aside0.mk (Below.refl w.heap.size w)
  have H : ((engrosslaw3_begun.f k).bind fun t327 => (if t327 = true then ((engrosslaw3_of.f a0).bind fun t328 => ((engrosslaw3_of.f a1).bind fun t329 => ((engrossref1_NaN.f t328).bind fun t330 => (if t330 = true then (engrosslaw3_FloatMinus.j0 k a0 a1 t328 t329 true) else ((engrossref1_NaN.f t329).bind fun t331 => (engrosslaw3_FloatMinus.j0 k a0 a1 t328 t329 t331)))))) else (some false))) = some r := h
  clear h
  replace H := Option.bind_eq_some_iff.mp H
  obtain ⟨t327, A30, H⟩ := H
  replace H : (if t327 = true then ((engrosslaw3_of.f a0).bind fun t328 => ((engrosslaw3_of.f a1).bind fun t329 => ((engrossref1_NaN.f t328).bind fun t330 => (if t330 = true then (engrosslaw3_FloatMinus.j0 k a0 a1 t328 t329 true) else ((engrossref1_NaN.f t329).bind fun t331 => (engrosslaw3_FloatMinus.j0 k a0 a1 t328 t329 t331)))))) else (some false)) = some r := H
  have A3 := Aside0.mk A30
  clear A30
  by_cases c4 : t327 = true
  · subst c4
    have H1 : ((engrosslaw3_of.f a0).bind fun t328 => ((engrosslaw3_of.f a1).bind fun t329 => ((engrossref1_NaN.f t328).bind fun t330 => (if t330 = true then (engrosslaw3_FloatMinus.j0 k a0 a1 t328 t329 true) else ((engrossref1_NaN.f t329).bind fun t331 => (engrosslaw3_FloatMinus.j0 k a0 a1 t328 t329 t331)))))) = some r := by rw [if_pos rfl] at H; exact H
    clear H
    have H := H1
    clear H1
    replace H := Option.bind_eq_some_iff.mp H
    obtain ⟨t328, A50, H⟩ := H
    replace H : ((engrosslaw3_of.f a1).bind fun t329 => ((engrossref1_NaN.f t328).bind fun t330 => (if t330 = true then (engrosslaw3_FloatMinus.j0 k a0 a1 t328 t329 true) else ((engrossref1_NaN.f t329).bind fun t331 => (engrosslaw3_FloatMinus.j0 k a0 a1 t328 t329 t331))))) = some r := H
    have A5 := Aside0.mk A50
    clear A50
    replace H := Option.bind_eq_some_iff.mp H
    obtain ⟨t329, A60, H⟩ := H
    replace H : ((engrossref1_NaN.f t328).bind fun t330 => (if t330 = true then (engrosslaw3_FloatMinus.j0 k a0 a1 t328 t329 true) else ((engrossref1_NaN.f t329).bind fun t331 => (engrosslaw3_FloatMinus.j0 k a0 a1 t328 t329 t331)))) = some r := H
    have A6 := Aside0.mk A60
    clear A60
    have HC7 := Aside0.mk H
    clear H
    go_enter Try.func13, Try.ntmps13
    go_upto_region 5 with (first | ((with_reducible refine gate_callee (f := 15) rfl ?_); refine goesL_ (some 10) rfl rfl Try.func15 (by kernel_rfl) rfl #[] rfl (by (try simp only [List.map_toArray, List.map_cons, List.map_nil]); first | done | rfl | (simp only [List.length_drop, List.length_take]; rfl)) ?_; (with_reducible refine (engrosslaw3_begun.calls k  true _ A3.out).mono ?_); rintro e w8 ⟨rfl, hb⟩; refine ⟨_, rfl, ?_⟩; have n0_ := Aside0.mk (below_step (by repeat (first | (with_reducible first | exact HB.out | apply below_alloc | apply pw_below_drewN | apply below_drew1) | exact HB.out)) hb); clear HB; have HB := n0_; clear n0_; (try clear hb); (try clear hb2); (try clear hk); (try clear hi)) | ((with_reducible refine gate_callee (f := 16) rfl ?_); refine goesL_ (some 14) rfl rfl Try.func16 (by kernel_rfl) rfl #[.int .u64 a0] rfl (by (try simp only [List.map_toArray, List.map_cons, List.map_nil]); first | done | rfl | (simp only [List.length_drop, List.length_take]; rfl)) ?_; (with_reducible refine (engrosslaw3_of.calls a0 t328 _ A5.out).mono ?_); rintro e w' ⟨rfl, ⟨nd, rfl⟩⟩; refine ⟨_, rfl, ?_⟩) | ((with_reducible refine gate_callee (f := 16) rfl ?_); refine goesL_ (some 16) rfl rfl Try.func16 (by kernel_rfl) rfl #[.int .u64 a1] rfl (by (try simp only [List.map_toArray, List.map_cons, List.map_nil]); first | done | rfl | (simp only [List.length_drop, List.length_take]; rfl)) ?_; (with_reducible refine (engrosslaw3_of.calls a1 t329 _ A6.out).mono ?_); rintro e w' ⟨rfl, ⟨nd, rfl⟩⟩; refine ⟨_, rfl, ?_⟩))
    (try simp only [Act.put, List.setIfInBounds_toArray, List.set_cons_zero, List.set_cons_succ])
    go_cut [22] (fun v22 wc => ∃ (kq : Nat) (x22_6 : Bool), v22 = .bool x22_6 ∧ Aside0 (engrosslaw3_FloatMinus.j0 kq a0 a1 t328 t329 x22_6 = some r) ∧ Aside0 (kq ≤ k) ∧ Aside0 (Below w.heap.size w wc))
    case first =>
      have H := HC7.out
      clear HC7
      replace H := Option.bind_eq_some_iff.mp H
      obtain ⟨t330, A90, H⟩ := H
      replace H : (if t330 = true then (engrosslaw3_FloatMinus.j0 k a0 a1 t328 t329 true) else ((engrossref1_NaN.f t329).bind fun t331 => (engrosslaw3_FloatMinus.j0 k a0 a1 t328 t329 t331))) = some r := H
      have A9 := Aside0.mk A90
      clear A90
      by_cases c10 : t330 = true
      · subst c10
        have H1 : (engrosslaw3_FloatMinus.j0 k a0 a1 t328 t329 true) = some r := by rw [if_pos rfl] at H; exact H
        clear H
        have H := H1
        clear H1
        have H' := Aside0.mk H
        clear H
        go_wp2_with (first | ((with_reducible refine gate_callee (f := 28) rfl ?_); refine goesL_ (some 18) rfl rfl Try.func28 (by kernel_rfl) rfl #[.float .f64 t328] rfl (by (try simp only [List.map_toArray, List.map_cons, List.map_nil]); first | done | rfl | (simp only [List.length_drop, List.length_take]; rfl)) ?_; (with_reducible refine (engrossref1_NaN.calls t328 true _ A9.out).mono ?_); rintro e w' ⟨rfl, ⟨nd, rfl⟩⟩; refine ⟨_, rfl, ?_⟩))
        go_meet
        case rel => exact ⟨_, (true), (by first | rfl | (simp; done) | (simp [*]; done)), H', ⟨by first | omega | exact Nat.le_refl _⟩, ⟨by repeat (first | (with_reducible first | exact HB.out | apply below_alloc | apply pw_below_drewN | apply below_drew1) | exact HB.out)⟩⟩
      · replace c10 := Bool.eq_false_iff.mpr c10
        subst c10
        have H1 : ((engrossref1_NaN.f t329).bind fun t331 => (engrosslaw3_FloatMinus.j0 k a0 a1 t328 t329 t331)) = some r := by rw [if_neg (show ¬ (false = true) by decide)] at H; exact H
        clear H
        have H := H1
        clear H1
        replace H := Option.bind_eq_some_iff.mp H
        obtain ⟨t331, A110, H⟩ := H
        replace H : (engrosslaw3_FloatMinus.j0 k a0 a1 t328 t329 t331) = some r := H
        have A11 := Aside0.mk A110
        clear A110
        have H' := Aside0.mk H
        clear H
        go_wp2_with (first | ((with_reducible refine gate_callee (f := 28) rfl ?_); refine goesL_ (some 18) rfl rfl Try.func28 (by kernel_rfl) rfl #[.float .f64 t328] rfl (by (try simp only [List.map_toArray, List.map_cons, List.map_nil]); first | done | rfl | (simp only [List.length_drop, List.length_take]; rfl)) ?_; (with_reducible refine (engrossref1_NaN.calls t328 false _ A9.out).mono ?_); rintro e w' ⟨rfl, ⟨nd, rfl⟩⟩; refine ⟨_, rfl, ?_⟩) | (go_at_call 28; (with_reducible refine (engrossref1_NaN.calls t329 t331 _ A11.out).mono ?_); rintro e w' ⟨rfl, ⟨nd, rfl⟩⟩))
        go_meet
        case rel => exact ⟨_, (t331), (by first | rfl | (simp; done) | (simp [*]; done)), H', ⟨by first | omega | exact Nat.le_refl _⟩, ⟨by repeat (first | (with_reducible first | exact HB.out | apply below_alloc | apply pw_below_drewN | apply below_drew1) | exact HB.out)⟩⟩
    case rest =>
      clear HC7
      try clear c1
      try clear c2
      try clear p2
      try clear c4
      try clear c10
      obtain ⟨kq, x22_6, rfl, HA, HJ6, HB⟩ := hcut
      cases kq with
      | zero => exact absurd HA.out (by simp [engrosslaw3_FloatMinus.j0])
      | succ kj6 =>
        have H := HA.out
        clear HA
        simp only [engrosslaw3_FloatMinus.j0] at H
        by_cases c12 : x22_6 = true
        · subst c12
          have H1 : (some true) = some r := by rw [if_pos rfl] at H; exact H
          clear H
          have H := H1
          clear H1
          obtain rfl := Option.some.inj H
          go_wp2
          go_ret
          exact ⟨by first | rfl | (simp [errW_none, errW_some] <;> rfl) | (simp [*, errW_none, errW_some] <;> rfl), by repeat (first | (with_reducible first | exact HB.out | apply below_alloc | apply pw_below_drewN | apply below_drew1) | exact HB.out)⟩
        · replace c12 := Bool.eq_false_iff.mpr c12
          subst c12
          have H1 : ((engrosslaw3_of.f (Go.bits .xor .u64 a0 9223372036854775808)).bind fun t332 => ((engrosslaw3_of.f (Go.bits .xor .u64 a1 9223372036854775808)).bind fun t333 => ((float_Less.f t328 t329).bind fun t334 => ((float_Less.f t333 t332).bind fun t335 => (if (t334 == t335) = true then ((float_Same.f t328 t329).bind fun t336 => ((float_Same.f t332 t333).bind fun t337 => (some (t336 == t337)))) else (some false)))))) = some r := by rw [if_neg (show ¬ (false = true) by decide)] at H; exact H
          clear H
          have H := H1
          clear H1
          replace H := Option.bind_eq_some_iff.mp H
          obtain ⟨t332, A130, H⟩ := H
          replace H : ((engrosslaw3_of.f (Go.bits .xor .u64 a1 9223372036854775808)).bind fun t333 => ((float_Less.f t328 t329).bind fun t334 => ((float_Less.f t333 t332).bind fun t335 => (if (t334 == t335) = true then ((float_Same.f t328 t329).bind fun t336 => ((float_Same.f t332 t333).bind fun t337 => (some (t336 == t337)))) else (some false))))) = some r := H
          have A13 := Aside0.mk A130
          clear A130
          replace H := Option.bind_eq_some_iff.mp H
          obtain ⟨t333, A140, H⟩ := H
          replace H : ((float_Less.f t328 t329).bind fun t334 => ((float_Less.f t333 t332).bind fun t335 => (if (t334 == t335) = true then ((float_Same.f t328 t329).bind fun t336 => ((float_Same.f t332 t333).bind fun t337 => (some (t336 == t337)))) else (some false)))) = some r := H
          have A14 := Aside0.mk A140
          clear A140
          replace H := Option.bind_eq_some_iff.mp H
          obtain ⟨t334, A150, H⟩ := H
          replace H : ((float_Less.f t333 t332).bind fun t335 => (if (t334 == t335) = true then ((float_Same.f t328 t329).bind fun t336 => ((float_Same.f t332 t333).bind fun t337 => (some (t336 == t337)))) else (some false))) = some r := H
          have A15 := Aside0.mk A150
          clear A150
          replace H := Option.bind_eq_some_iff.mp H
          obtain ⟨t335, A160, H⟩ := H
          replace H : (if (t334 == t335) = true then ((float_Same.f t328 t329).bind fun t336 => ((float_Same.f t332 t333).bind fun t337 => (some (t336 == t337)))) else (some false)) = some r := H
          have A16 := Aside0.mk A160
          clear A160
          by_cases c17 : (t334 == t335) = true
          · rw [if_pos c17] at H
            have c17b0 : (t334 == t335) = true := c17
            (try (have c17b1 : decide (t334 = t335) = true := by simpa using c17))
            (try (have c17b2 : (t334 == t335) = true := by simpa using c17))
            clear c17
            replace H := Option.bind_eq_some_iff.mp H
            obtain ⟨t336, A180, H⟩ := H
            replace H : ((float_Same.f t332 t333).bind fun t337 => (some (t336 == t337))) = some r := H
            have A18 := Aside0.mk A180
            clear A180
            replace H := Option.bind_eq_some_iff.mp H
            obtain ⟨t337, A190, H⟩ := H
            replace H : (some (t336 == t337)) = some r := H
            have A19 := Aside0.mk A190
            clear A190
            obtain rfl := Option.some.inj H
            go_wp2_with (first | ((with_reducible refine gate_callee (f := 16) rfl ?_); refine goesL_ (some 25) rfl rfl Try.func16 (by kernel_rfl) rfl #[.int .u64 (Go.bits .xor .u64 a0 9223372036854775808)] rfl (by (try simp only [List.map_toArray, List.map_cons, List.map_nil]); first | done | rfl | (simp only [List.length_drop, List.length_take]; rfl)) ?_; (with_reducible refine (engrosslaw3_of.calls (Go.bits .xor .u64 a0 9223372036854775808) t332 _ A13.out).mono ?_); rintro e w' ⟨rfl, ⟨nd, rfl⟩⟩; refine ⟨_, rfl, ?_⟩) | ((with_reducible refine gate_callee (f := 16) rfl ?_); refine goesL_ (some 28) rfl rfl Try.func16 (by kernel_rfl) rfl #[.int .u64 (Go.bits .xor .u64 a1 9223372036854775808)] rfl (by (try simp only [List.map_toArray, List.map_cons, List.map_nil]); first | done | rfl | (simp only [List.length_drop, List.length_take]; rfl)) ?_; (with_reducible refine (engrosslaw3_of.calls (Go.bits .xor .u64 a1 9223372036854775808) t333 _ A14.out).mono ?_); rintro e w' ⟨rfl, ⟨nd, rfl⟩⟩; refine ⟨_, rfl, ?_⟩) | ((with_reducible refine gate_callee (f := 19) rfl ?_); refine goesL_ (some 31) rfl rfl Try.func19 (by kernel_rfl) rfl #[.float .f64 t328, .float .f64 t329] rfl (by (try simp only [List.map_toArray, List.map_cons, List.map_nil]); first | done | rfl | (simp only [List.length_drop, List.length_take]; rfl)) ?_; (with_reducible refine (float_Less.calls t328 t329 t334 _ A15.out).mono ?_); rintro e w' ⟨rfl, ⟨nd, rfl⟩⟩; refine ⟨_, rfl, ?_⟩) | ((with_reducible refine gate_callee (f := 19) rfl ?_); refine goesL_ (some 34) rfl rfl Try.func19 (by kernel_rfl) rfl #[.float .f64 t333, .float .f64 t332] rfl (by (try simp only [List.map_toArray, List.map_cons, List.map_nil]); first | done | rfl | (simp only [List.length_drop, List.length_take]; rfl)) ?_; (with_reducible refine (float_Less.calls t333 t332 t335 _ A16.out).mono ?_); rintro e w' ⟨rfl, ⟨nd, rfl⟩⟩; refine ⟨_, rfl, ?_⟩) | (go_at_call 20; (with_reducible refine (float_Same.calls t328 t329 t336 _ A18.out).mono ?_); rintro e w' ⟨rfl, ⟨nd, rfl⟩⟩) | (go_at_call 20; (with_reducible refine (float_Same.calls t332 t333 t337 _ A19.out).mono ?_); rintro e w' ⟨rfl, ⟨nd, rfl⟩⟩))
            go_ret
            exact ⟨by first | rfl | (simp [errW_none, errW_some] <;> rfl) | (simp [*, errW_none, errW_some] <;> rfl), by repeat (first | (with_reducible first | exact HB.out | apply below_alloc | apply pw_below_drewN | apply below_drew1) | exact HB.out)⟩
          · rw [if_neg c17] at H
            have c17b0 : (t334 == t335) = false := by simpa using c17
            (try (have c17b1 : decide (t334 = t335) = false := by simpa using c17))
            (try (have c17b2 : (t334 == t335) = false := by simpa using c17))
            (try (have c17b3 : ¬ (t334 = t335) := by simpa using c17))
            clear c17
            obtain rfl := Option.some.inj H
            go_wp2_with (first | ((with_reducible refine gate_callee (f := 16) rfl ?_); refine goesL_ (some 25) rfl rfl Try.func16 (by kernel_rfl) rfl #[.int .u64 (Go.bits .xor .u64 a0 9223372036854775808)] rfl (by (try simp only [List.map_toArray, List.map_cons, List.map_nil]); first | done | rfl | (simp only [List.length_drop, List.length_take]; rfl)) ?_; (with_reducible refine (engrosslaw3_of.calls (Go.bits .xor .u64 a0 9223372036854775808) t332 _ A13.out).mono ?_); rintro e w' ⟨rfl, ⟨nd, rfl⟩⟩; refine ⟨_, rfl, ?_⟩) | ((with_reducible refine gate_callee (f := 16) rfl ?_); refine goesL_ (some 28) rfl rfl Try.func16 (by kernel_rfl) rfl #[.int .u64 (Go.bits .xor .u64 a1 9223372036854775808)] rfl (by (try simp only [List.map_toArray, List.map_cons, List.map_nil]); first | done | rfl | (simp only [List.length_drop, List.length_take]; rfl)) ?_; (with_reducible refine (engrosslaw3_of.calls (Go.bits .xor .u64 a1 9223372036854775808) t333 _ A14.out).mono ?_); rintro e w' ⟨rfl, ⟨nd, rfl⟩⟩; refine ⟨_, rfl, ?_⟩) | ((with_reducible refine gate_callee (f := 19) rfl ?_); refine goesL_ (some 31) rfl rfl Try.func19 (by kernel_rfl) rfl #[.float .f64 t328, .float .f64 t329] rfl (by (try simp only [List.map_toArray, List.map_cons, List.map_nil]); first | done | rfl | (simp only [List.length_drop, List.length_take]; rfl)) ?_; (with_reducible refine (float_Less.calls t328 t329 t334 _ A15.out).mono ?_); rintro e w' ⟨rfl, ⟨nd, rfl⟩⟩; refine ⟨_, rfl, ?_⟩) | ((with_reducible refine gate_callee (f := 19) rfl ?_); refine goesL_ (some 34) rfl rfl Try.func19 (by kernel_rfl) rfl #[.float .f64 t333, .float .f64 t332] rfl (by (try simp only [List.map_toArray, List.map_cons, List.map_nil]); first | done | rfl | (simp only [List.length_drop, List.length_take]; rfl)) ?_; (with_reducible refine (float_Less.calls t333 t332 t335 _ A16.out).mono ?_); rintro e w' ⟨rfl, ⟨nd, rfl⟩⟩; refine ⟨_, rfl, ?_⟩))
            go_ret
            exact ⟨by first | rfl | (simp [errW_none, errW_some] <;> rfl) | (simp [*, errW_none, errW_some] <;> rfl), by repeat (first | (with_reducible first | exact HB.out | apply below_alloc | apply pw_below_drewN | apply below_drew1) | exact HB.out)⟩
  · replace c4 := Bool.eq_false_iff.mpr c4
    subst c4
    have H1 : (some false) = some r := by rw [if_neg (show ¬ (false = true) by decide)] at H; exact H
    clear H
    have H := H1
    clear H1
    obtain rfl := Option.some.inj H
    go_enter Try.func13, Try.ntmps13
    go_wp2_with (first | ((with_reducible refine gate_callee (f := 15) rfl ?_); refine goesL_ (some 10) rfl rfl Try.func15 (by kernel_rfl) rfl #[] rfl (by (try simp only [List.map_toArray, List.map_cons, List.map_nil]); first | done | rfl | (simp only [List.length_drop, List.length_take]; rfl)) ?_; (with_reducible refine (engrosslaw3_begun.calls k  false _ A3.out).mono ?_); rintro e w20 ⟨rfl, hb⟩; refine ⟨_, rfl, ?_⟩; have n0_ := Aside0.mk (below_step (by repeat (first | (with_reducible first | exact HB.out | apply below_alloc | apply pw_below_drewN | apply below_drew1) | exact HB.out)) hb); clear HB; have HB := n0_; clear n0_; (try clear hb); (try clear hb2); (try clear hk); (try clear hi)))
    go_ret
    exact ⟨by first | rfl | (simp [errW_none, errW_some] <;> rfl) | (simp [*, errW_none, errW_some] <;> rfl), by repeat (first | (with_reducible first | exact HB.out | apply below_alloc | apply pw_below_drewN | apply below_drew1) | exact HB.out)⟩

/-- THE ONE PURE STATEMENT of engrosslaw3_FloatMinus: yours. -/
def engrosslaw3_FloatMinus.Pure : Prop := ∀ (a0 : Int) (a1 : Int), (Lit.int .u64 a0).wf = true → (Lit.int .u64 a1).wf = true → ∃ k, engrosslaw3_FloatMinus.f k a0 a1 = some true
theorem engrosslaw3_FloatMinus.walk (P : engrosslaw3_FloatMinus.Pure) (a0 : Int) (a1 : Int) (w : World) (w0 : (Lit.int .u64 a0).wf = true) (w1 : (Lit.int .u64 a1).wf = true) :
    Calls Try.prog 13 #[.int .u64 a0, .int .u64 a1] w fun e w' => e = .returned (.bool true) ∧ Below w.heap.size w w' := by
  obtain ⟨k, h⟩ := P a0 a1 w0 w1
  refine (engrosslaw3_FloatMinus.calls k a0 a1 true w h).mono ?_
  rintro e w' ⟨rfl, hd⟩
  exact ⟨rfl, hd⟩

-- NOT PRINTED: function 14 (engrosslaw3_FloatAdd)

end Go.Proofs.Ytaphfjfalbeojaa.P
