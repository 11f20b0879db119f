/- Functions of the program as Lean functions, and that each call answers as its function does. No condition. (Lines written by a generator of this session.) -/
import Derived.Test.YtoeiogailnfbkaaPx0
import Derived.Test.YtoeiogailnfbkaaPx1
import Derived.Test.YtoeiogailnfbkaaPx2
import Derived.Test.YtoeiogailnfbkaaPx3
namespace Go.Proofs.Ytoeiogailnfbkaa.P
open Go.RowKit Go.Proofs.YtoeiogailnfbkaaW.PrintWords Go.Proofs.YtoeiogailnfbkaaW.PrintLast Go.Proofs.YtoeiogailnfbkaaW.PrintMore
attribute [local go_sem] max2_int min2_int max_two min_two max_three min_three max_four min_four   -- for this text's walks alone
attribute [local go_sem] x_str_gtr x_str_leq x_str_geq ext_bits ext_frombits ext_neg
set_option linter.unusedVariables false
set_option linter.unusedSimpArgs false

/-! ### engrosslaw5_KeyAll: function 3 -/
mutual
def engrosslaw5_KeyAll.j0 : Nat → ByteArray → ByteArray → ByteArray → Nat → Bool → Bool → Bool → Option (Bool)
  | 0, _, _, _, _, _, _, _ => none
  | k + 1, x0, x1, x2, x8, x9, x10, x34 => if x34 = true then (if 1 ≤ (x0.size : Int) then (if (x0.extract 1 x0.size).size ≤ 9223372036854775807 then ((engrossref1_FloatOf.f k (bytesOf (x0.extract 1 x0.size))).bind fun bt159 => (if bt159.2 = true then ((engrossref1_Bits.f x8 bt159.1).bind fun t161 => (if t161 = true then (engrosslaw5_KeyAll.j1 k x0 x1 x2 x8 x9 bt159.2) else (some false))) else (engrosslaw5_KeyAll.j1 k x0 x1 x2 x8 x9 bt159.2))) else (none)) else (none)) else (engrosslaw5_KeyAll.j1 k x0 x1 x2 x8 x9 x10)
def engrosslaw5_KeyAll.j1 : Nat → ByteArray → ByteArray → ByteArray → Nat → Bool → Bool → Option (Bool)
  | 0, _, _, _, _, _, _ => none
  | k + 1, x0, x1, x2, x8, x9, x10 => (key_May.f x0).bind fun t162 => ((engrossref1_MayKey.f x0).bind fun t163 => (if (t162 == t163) = true then ((key_In.f x0 x1 x2).bind fun t164 => ((engrossref1_In.f x0 x1 x2).bind fun t165 => (if (t164 == t165) = true then (if (x9 == x10) = true then (if x9 = true then (some true) else ((engrossref1_Bits.f x8 0).bind fun t166 => (some t166))) else (some false)) else (some false)))) else (some false)))
end
def engrosslaw5_KeyAll.f (k : Nat) (a0 : ByteArray) (a1 : ByteArray) (a2 : ByteArray) : Option (Bool) := (engrosslaw5_begun.f k).bind fun t150 => (if t150 = true then ((engrosslaw1_Cut.f a0 20).bind fun t151 => ((engrosslaw1_Cut.f a1 20).bind fun t152 => ((engrosslaw1_Cut.f a2 20).bind fun t153 => ((key_Float.f k t151).bind fun bt154 => (if (t151.size : Int) = 9 then (if 0 < (t151.size : Int) then (engrosslaw5_KeyAll.j0 k t151 t152 t153 bt154.1 bt154.2 false ((bt t151 0) == 102)) else (none)) else (engrosslaw5_KeyAll.j0 k t151 t152 t153 bt154.1 bt154.2 false false)))))) else (some false))
theorem engrosslaw5_KeyAll.mono_l : ∀ k, (∀ y0 y1 y2 y3 y4 y5 y6, LeO (engrosslaw5_KeyAll.j0 k y0 y1 y2 y3 y4 y5 y6) (engrosslaw5_KeyAll.j0 (k + 1) y0 y1 y2 y3 y4 y5 y6)) ∧ (∀ y0 y1 y2 y3 y4 y5, LeO (engrosslaw5_KeyAll.j1 k y0 y1 y2 y3 y4 y5) (engrosslaw5_KeyAll.j1 (k + 1) y0 y1 y2 y3 y4 y5))
  | 0 => ⟨fun _ _ _ _ _ _ _ r h => by simp [engrosslaw5_KeyAll.j0] at h, fun _ _ _ _ _ _ r h => by simp [engrosslaw5_KeyAll.j1] at h⟩
  | k + 1 => by
    obtain ⟨ih0, ih1⟩ := engrosslaw5_KeyAll.mono_l k
    refine ⟨?_, ?_⟩
    · intro y0 y1 y2 y3 y4 y5 y6
      unfold engrosslaw5_KeyAll.j0
      repeat' first
      | (with_reducible exact ih0 _ _ _ _ _ _ _)
      | (with_reducible exact ih1 _ _ _ _ _ _)
      | (with_reducible exact engrosslaw5_begun.mono _)
      | (with_reducible exact engrossref1_FloatOf.mono _ _)
      | (with_reducible exact key_Float.mono _ _)
      | (with_reducible exact LeO.refl _)
      | (with_reducible exact LeO.none _)
      | (with_reducible refine LeO.ite ?_ ?_)
      | (with_reducible refine LeO.bind ?_ (fun _ => ?_))
      | exact ih0 _ _ _ _ _ _ _
      | exact ih1 _ _ _ _ _ _
      | exact engrosslaw5_begun.mono _
      | exact engrossref1_FloatOf.mono _ _
      | exact key_Float.mono _ _
      | exact LeO.none _
      | refine LeO.ite ?_ ?_
      | refine LeO.bind ?_ (fun _ => ?_)
    · intro y0 y1 y2 y3 y4 y5
      unfold engrosslaw5_KeyAll.j1
      repeat' first
      | (with_reducible exact ih0 _ _ _ _ _ _ _)
      | (with_reducible exact ih1 _ _ _ _ _ _)
      | (with_reducible exact engrosslaw5_begun.mono _)
      | (with_reducible exact engrossref1_FloatOf.mono _ _)
      | (with_reducible exact key_Float.mono _ _)
      | (with_reducible exact LeO.refl _)
      | (with_reducible exact LeO.none _)
      | (with_reducible refine LeO.ite ?_ ?_)
      | (with_reducible refine LeO.bind ?_ (fun _ => ?_))
      | exact ih0 _ _ _ _ _ _ _
      | exact ih1 _ _ _ _ _ _
      | exact engrosslaw5_begun.mono _
      | exact engrossref1_FloatOf.mono _ _
      | exact key_Float.mono _ _
      | exact LeO.none _
      | refine LeO.ite ?_ ?_
      | refine LeO.bind ?_ (fun _ => ?_)
theorem engrosslaw5_KeyAll.mono : ∀ a0 a1 a2 k, LeO (engrosslaw5_KeyAll.f k a0 a1 a2) (engrosslaw5_KeyAll.f (k + 1) a0 a1 a2) := by
  intro a0 a1 a2 k
  obtain ⟨ih0, ih1⟩ := engrosslaw5_KeyAll.mono_l k
  unfold engrosslaw5_KeyAll.f
  repeat' first
      | (with_reducible exact ih0 _ _ _ _ _ _ _)
      | (with_reducible exact ih1 _ _ _ _ _ _)
      | (with_reducible exact engrosslaw5_begun.mono _)
      | (with_reducible exact engrossref1_FloatOf.mono _ _)
      | (with_reducible exact key_Float.mono _ _)
      | (with_reducible exact LeO.refl _)
      | (with_reducible exact LeO.none _)
      | (with_reducible refine LeO.ite ?_ ?_)
      | (with_reducible refine LeO.bind ?_ (fun _ => ?_))
      | exact ih0 _ _ _ _ _ _ _
      | exact ih1 _ _ _ _ _ _
      | exact engrosslaw5_begun.mono _
      | exact engrossref1_FloatOf.mono _ _
      | exact key_Float.mono _ _
      | exact LeO.none _
      | refine LeO.ite ?_ ?_
      | refine LeO.bind ?_ (fun _ => ?_)
set_option maxHeartbeats 8000000 in
set_option maxRecDepth 100000 in
theorem engrosslaw5_KeyAll.calls (k : Nat) (a0 : ByteArray) (a1 : ByteArray) (a2 : ByteArray) (r : Bool) (w : World) (h : engrosslaw5_KeyAll.f k a0 a1 a2 = some r) :
    Calls Try.prog 3 #[.string a0, .string a1, .string a2] w fun e w' => e = .returned (.bool r) ∧ Below w.heap.size w w' := by
  have HB := Aside0.mk (Below.refl w.heap.size w)
  have H : ((engrosslaw5_begun.f k).bind fun t150 => (if t150 = true then ((engrosslaw1_Cut.f a0 20).bind fun t151 => ((engrosslaw1_Cut.f a1 20).bind fun t152 => ((engrosslaw1_Cut.f a2 20).bind fun t153 => ((key_Float.f k t151).bind fun bt154 => (if (t151.size : Int) = 9 then (if 0 < (t151.size : Int) then (engrosslaw5_KeyAll.j0 k t151 t152 t153 bt154.1 bt154.2 false ((bt t151 0) == 102)) else (none)) else (engrosslaw5_KeyAll.j0 k t151 t152 t153 bt154.1 bt154.2 false false)))))) else (some false))) = some r := h
  clear h
  replace H := Option.bind_eq_some_iff.mp H
  obtain ⟨t150, A40, H⟩ := H
  replace H : (if t150 = true then ((engrosslaw1_Cut.f a0 20).bind fun t151 => ((engrosslaw1_Cut.f a1 20).bind fun t152 => ((engrosslaw1_Cut.f a2 20).bind fun t153 => ((key_Float.f k t151).bind fun bt154 => (if (t151.size : Int) = 9 then (if 0 < (t151.size : Int) then (engrosslaw5_KeyAll.j0 k t151 t152 t153 bt154.1 bt154.2 false ((bt t151 0) == 102)) else (none)) else (engrosslaw5_KeyAll.j0 k t151 t152 t153 bt154.1 bt154.2 false false)))))) else (some false)) = some r := H
  have A4 := Aside0.mk A40
  clear A40
  by_cases c5 : t150 = true
  · subst c5
    have H1 : ((engrosslaw1_Cut.f a0 20).bind fun t151 => ((engrosslaw1_Cut.f a1 20).bind fun t152 => ((engrosslaw1_Cut.f a2 20).bind fun t153 => ((key_Float.f k t151).bind fun bt154 => (if (t151.size : Int) = 9 then (if 0 < (t151.size : Int) then (engrosslaw5_KeyAll.j0 k t151 t152 t153 bt154.1 bt154.2 false ((bt t151 0) == 102)) else (none)) else (engrosslaw5_KeyAll.j0 k t151 t152 t153 bt154.1 bt154.2 false false)))))) = some r := by rw [if_pos rfl] at H; exact H
    clear H
    have H := H1
    clear H1
    replace H := Option.bind_eq_some_iff.mp H
    obtain ⟨t151, A60, H⟩ := H
    replace H : ((engrosslaw1_Cut.f a1 20).bind fun t152 => ((engrosslaw1_Cut.f a2 20).bind fun t153 => ((key_Float.f k t151).bind fun bt154 => (if (t151.size : Int) = 9 then (if 0 < (t151.size : Int) then (engrosslaw5_KeyAll.j0 k t151 t152 t153 bt154.1 bt154.2 false ((bt t151 0) == 102)) else (none)) else (engrosslaw5_KeyAll.j0 k t151 t152 t153 bt154.1 bt154.2 false false))))) = some r := H
    have A6 := Aside0.mk A60
    clear A60
    replace H := Option.bind_eq_some_iff.mp H
    obtain ⟨t152, A70, H⟩ := H
    replace H : ((engrosslaw1_Cut.f a2 20).bind fun t153 => ((key_Float.f k t151).bind fun bt154 => (if (t151.size : Int) = 9 then (if 0 < (t151.size : Int) then (engrosslaw5_KeyAll.j0 k t151 t152 t153 bt154.1 bt154.2 false ((bt t151 0) == 102)) else (none)) else (engrosslaw5_KeyAll.j0 k t151 t152 t153 bt154.1 bt154.2 false false)))) = some r := H
    have A7 := Aside0.mk A70
    clear A70
    replace H := Option.bind_eq_some_iff.mp H
    obtain ⟨t153, A80, H⟩ := H
    replace H : ((key_Float.f k t151).bind fun bt154 => (if (t151.size : Int) = 9 then (if 0 < (t151.size : Int) then (engrosslaw5_KeyAll.j0 k t151 t152 t153 bt154.1 bt154.2 false ((bt t151 0) == 102)) else (none)) else (engrosslaw5_KeyAll.j0 k t151 t152 t153 bt154.1 bt154.2 false false))) = some r := H
    have A8 := Aside0.mk A80
    clear A80
    replace H := Option.bind_eq_some_iff.mp H
    obtain ⟨⟨t154, t155⟩, A90, H⟩ := H
    replace H : (if (t151.size : Int) = 9 then (if 0 < (t151.size : Int) then (engrosslaw5_KeyAll.j0 k t151 t152 t153 t154 t155 false ((bt t151 0) == 102)) else (none)) else (engrosslaw5_KeyAll.j0 k t151 t152 t153 t154 t155 false false)) = some r := H
    have A9 := Aside0.mk A90
    clear A90
    have HC10 := Aside0.mk H
    clear H
    go_enter Try.func3, Try.ntmps3
    go_upto_region 7 with (first | ((with_reducible refine gate_callee (f := 10) rfl ?_); refine goesL_ (some 13) rfl rfl Try.func10 (by kernel_rfl) rfl #[] rfl (by (try simp only [List.map_toArray, List.map_cons, List.map_nil]); first | done | rfl | (simp only [List.length_drop, List.length_take]; rfl)) ?_; (with_reducible refine (engrosslaw5_begun.calls k  true _ A4.out).mono ?_); rintro e w11 ⟨rfl, hb⟩; refine ⟨_, rfl, ?_⟩; have n0_ := Aside0.mk (below_step (by repeat (first | (with_reducible first | exact HB.out | apply below_alloc | apply pw_below_drewN | apply below_drew1) | exact HB.out)) hb); clear HB; have HB := n0_; clear n0_; (try clear hb); (try clear hb2); (try clear hk); (try clear hi)) | ((with_reducible refine gate_callee (f := 11) rfl ?_); refine goesL_ (some 17) rfl rfl Try.func11 (by kernel_rfl) rfl #[.string a0, .int .i64 20] rfl (by (try simp only [List.map_toArray, List.map_cons, List.map_nil]); first | done | rfl | (simp only [List.length_drop, List.length_take]; rfl)) ?_; (with_reducible refine (engrosslaw1_Cut.calls a0 20 t151 _ A6.out).mono ?_); rintro e w' ⟨rfl, ⟨nd, rfl⟩⟩; refine ⟨_, rfl, ?_⟩) | ((with_reducible refine gate_callee (f := 11) rfl ?_); refine goesL_ (some 19) rfl rfl Try.func11 (by kernel_rfl) rfl #[.string a1, .int .i64 20] rfl (by (try simp only [List.map_toArray, List.map_cons, List.map_nil]); first | done | rfl | (simp only [List.length_drop, List.length_take]; rfl)) ?_; (with_reducible refine (engrosslaw1_Cut.calls a1 20 t152 _ A7.out).mono ?_); rintro e w' ⟨rfl, ⟨nd, rfl⟩⟩; refine ⟨_, rfl, ?_⟩) | ((with_reducible refine gate_callee (f := 11) rfl ?_); refine goesL_ (some 21) rfl rfl Try.func11 (by kernel_rfl) rfl #[.string a2, .int .i64 20] rfl (by (try simp only [List.map_toArray, List.map_cons, List.map_nil]); first | done | rfl | (simp only [List.length_drop, List.length_take]; rfl)) ?_; (with_reducible refine (engrosslaw1_Cut.calls a2 20 t153 _ A8.out).mono ?_); rintro e w' ⟨rfl, ⟨nd, rfl⟩⟩; refine ⟨_, rfl, ?_⟩) | ((with_reducible refine gate_callee (f := 12) rfl ?_); refine goesL_ (some 24) rfl rfl Try.func12 (by kernel_rfl) rfl #[.string t151] rfl (by (try simp only [List.map_toArray, List.map_cons, List.map_nil]); first | done | rfl | (simp only [List.length_drop, List.length_take]; rfl)) ?_; (with_reducible refine (key_Float.calls k t151 t154 t155 _ A9.out).mono ?_); rintro e w12 ⟨rfl, hb⟩; refine ⟨_, rfl, ?_⟩; have n0_ := Aside0.mk (below_step (by repeat (first | (with_reducible first | exact HB.out | apply below_alloc | apply pw_below_drewN | apply below_drew1) | exact HB.out)) hb); clear HB; have HB := n0_; clear n0_; (try clear hb); (try clear hb2); (try clear hk); (try clear hi)))
    (try simp only [Act.put, List.setIfInBounds_toArray, List.set_cons_zero, List.set_cons_succ])
    go_cut [34] (fun v34 wc => ∃ (kq : Nat) (x34_9 : Bool), v34 = .bool x34_9 ∧ Aside0 (engrosslaw5_KeyAll.j0 kq t151 t152 t153 t154 t155 false x34_9 = some r) ∧ Aside0 (kq ≤ k) ∧ Aside0 (Below w.heap.size w wc))
    case first =>
      have H := HC10.out
      clear HC10
      by_cases c13 : (t151.size : Int) = 9
      · rw [if_pos c13] at H
        have c13b0 : ((t151.size : Int) == 9) = true := beq_iff_eq.mpr c13
        have c13b1 : ((t151.size : Int) != 9) = false := bne_eq_false_iff_eq.mpr c13
        clear c13
        (first | rw [c13b0] | (simp only [i64_w, i32_w]; rw [c13b0]) | skip)
        by_cases c14 : 0 < (t151.size : Int)
        · rw [if_pos c14] at H
          have c14b0 : decide (0 < (t151.size : Int)) = true := decide_eq_true c14
          have c14b1 : decide (0 < t151.size) = true := decide_eq_true (by omega)
          clear c14
          have H' := Aside0.mk H
          clear H
          have p15 : 0 ≤ (0 : Int) := (by omega)
          have q15 : 0 < t151.size := (by have : (0 : Int) < (t151.size : Int) := of_decide_eq_true (by first | (with_reducible assumption) | assumption); omega)
          have hx15 : ∀ h : 0 < t151.size, ((t151[0]'h).toNat : Int) = bt t151 0 := bt_at t151 0
          clear p15
          have qi15 : (0 < (t151.size : Int)) = True := eq_true (of_decide_eq_true (by first | (with_reducible assumption) | assumption))
          replace q15 := eq_true q15
          go_wp2
          go_meet
          case rel => exact ⟨_, (((bt t151 0) == 102)), (by first | rfl | (simp; done) | (simp [*]; done)), H', ⟨by first | omega | exact Nat.le_refl _⟩, ⟨by repeat (first | (with_reducible first | exact HB.out | apply below_alloc | apply pw_below_drewN | apply below_drew1) | exact HB.out)⟩⟩
        · rw [if_neg c14] at H
          exact absurd H (by simp)
      · rw [if_neg c13] at H
        have c13b0 : ((t151.size : Int) == 9) = false := beq_eq_false_iff_ne.mpr c13
        have c13b1 : ((t151.size : Int) != 9) = true := bne_iff_ne.mpr c13
        (first | rw [c13b0] | (simp only [i64_w, i32_w]; rw [c13b0]) | skip)
        have H' := Aside0.mk H
        clear H
        go_wp2
        go_meet
        case rel => exact ⟨_, (false), (by first | rfl | (simp; done) | (simp [*]; done)), H', ⟨by first | omega | exact Nat.le_refl _⟩, ⟨by repeat (first | (with_reducible first | exact HB.out | apply below_alloc | apply pw_below_drewN | apply below_drew1) | exact HB.out)⟩⟩
    case rest =>
      clear HC10
      try clear c1
      try clear p1
      try clear q1
      try clear hx1
      try clear qi1
      try clear p2
      try clear c3
      try clear c5
      try clear c10
      try clear c11
      try clear c12
      try clear c13
      try clear c13b0
      try clear c13b1
      try clear c14
      try clear c14b0
      try clear c14b1
      try clear p15
      try clear q15
      try clear hx15
      try clear qi15
      try clear p15
      try clear q15
      obtain ⟨kq, x34_9, rfl, HA, HJ9, HB⟩ := hcut
      cases kq with
      | zero => exact absurd HA.out (by simp [engrosslaw5_KeyAll.j0])
      | succ kj9 =>
        have H := HA.out
        clear HA
        simp only [engrosslaw5_KeyAll.j0] at H
        have HC16 := Aside0.mk H
        clear H
        go_upto_if 34 with (fail)
        go_cut [10] (fun v10 wc => ∃ (kq : Nat) (x10_15 : Bool), v10 = .bool x10_15 ∧ Aside0 (engrosslaw5_KeyAll.j1 kq t151 t152 t153 t154 t155 x10_15 = some r) ∧ Aside0 (kq ≤ kj9) ∧ Aside0 (Below w.heap.size w wc))
        case first =>
          have H := HC16.out
          clear HC16
          by_cases c17 : x34_9 = true
          · subst c17
            have H1 : (if 1 ≤ (t151.size : Int) then (if (t151.extract 1 t151.size).size ≤ 9223372036854775807 then ((engrossref1_FloatOf.f kj9 (bytesOf (t151.extract 1 t151.size))).bind fun bt159 => (if bt159.2 = true then ((engrossref1_Bits.f t154 bt159.1).bind fun t161 => (if t161 = true then (engrosslaw5_KeyAll.j1 kj9 t151 t152 t153 t154 t155 bt159.2) else (some false))) else (engrosslaw5_KeyAll.j1 kj9 t151 t152 t153 t154 t155 bt159.2))) else (none)) else (none)) = some r := by rw [if_pos rfl] at H; exact H
            clear H
            have H := H1
            clear H1
            by_cases c18 : 1 ≤ (t151.size : Int)
            · rw [if_pos c18] at H
              have c18b0 := eq_true c18
              have c18b1 : decide (1 ≤ (t151.size : Int)) = true := decide_eq_true c18
              clear c18
              by_cases c19 : (t151.extract 1 t151.size).size ≤ 9223372036854775807
              · rw [if_pos c19] at H
                have c19b0 := eq_true c19
                have c19b1 : decide ((t151.extract 1 t151.size).size ≤ 9223372036854775807) = true := decide_eq_true c19
                try have c19b2 : (9223372036854775807 < (t151.extract 1 t151.size).size) = False := eq_false (Nat.not_lt.2 c19)
                clear c19
                obtain ⟨y156, hy156⟩ : ∃ y_ : List Int, y_ = (bytesOf (t151.extract 1 t151.size)) := ⟨_, rfl⟩
                replace H : ((engrossref1_FloatOf.f kj9 y156).bind fun bt159 => (if bt159.2 = true then ((engrossref1_Bits.f t154 bt159.1).bind fun t161 => (if t161 = true then (engrosslaw5_KeyAll.j1 kj9 t151 t152 t153 t154 t155 bt159.2) else (some false))) else (engrosslaw5_KeyAll.j1 kj9 t151 t152 t153 t154 t155 bt159.2))) = some r := by first | (rw [hy156]; with_reducible exact H) | (have H2_ := (Option.bind_some _ _).symm.trans H; rw [hy156]; with_reducible exact H2_) | (have H2_ := (Option.bind_some _ _).symm.trans H; with_reducible exact H2_) | with_reducible exact H | (rw [hy156]; exact H) | exact H
                have Ny156 := Aside0.mk hy156
                clear hy156
                replace H := Option.bind_eq_some_iff.mp H
                obtain ⟨⟨t159, t160⟩, A200, H⟩ := H
                replace H : (if t160 = true then ((engrossref1_Bits.f t154 t159).bind fun t161 => (if t161 = true then (engrosslaw5_KeyAll.j1 kj9 t151 t152 t153 t154 t155 t160) else (some false))) else (engrosslaw5_KeyAll.j1 kj9 t151 t152 t153 t154 t155 t160)) = some r := H
                have A20 := Aside0.mk A200
                clear A200
                by_cases c21 : t160 = true
                · subst c21
                  have H1 : ((engrossref1_Bits.f t154 t159).bind fun t161 => (if t161 = true then (engrosslaw5_KeyAll.j1 kj9 t151 t152 t153 t154 t155 true) else (some false))) = some r := by rw [if_pos rfl] at H; exact H
                  clear H
                  have H := H1
                  clear H1
                  replace H := Option.bind_eq_some_iff.mp H
                  obtain ⟨t161, A220, H⟩ := H
                  replace H : (if t161 = true then (engrosslaw5_KeyAll.j1 kj9 t151 t152 t153 t154 t155 true) else (some false)) = some r := H
                  have A22 := Aside0.mk A220
                  clear A220
                  by_cases c23 : t161 = true
                  · subst c23
                    have H1 : (engrosslaw5_KeyAll.j1 kj9 t151 t152 t153 t154 t155 true) = some r := by rw [if_pos rfl] at H; exact H
                    clear H
                    have H := H1
                    clear H1
                    have H' := Aside0.mk H
                    clear H
                    go_wp2_with (first | ((with_reducible refine gate_dst (N := 38) rfl ?_); refine Kd.x_V_conv _ 5 rfl (N := 38) rfl 9 28 _ rfl (t151.extract 1 t151.size) rfl Try.underlying9 Try.underlying28 Try.underlying5 (of_decide_eq_true (by first | (with_reducible assumption) | assumption)) (Below.refl _ _) (Nat.le_refl _) ?_; intro v157 w24 ho25 hb hg_ hnew_; clear hg_ hnew_; (first | rw [← Ny156.out] at ho25 | (simp only [Int.reduceToNat] at ho25; rw [← Ny156.out] at ho25)); have n0_ := Aside0.mk (Kd.V_lower (Kd.V_mono (ok' := fun k_ => True) ho25 (fun k_ hk_ => trivial)) (below_size (by repeat (first | (with_reducible first | exact HB.out | apply below_alloc | apply pw_below_drewN | apply below_drew1) | exact HB.out)))); have n1_ := Aside0.mk (below_step (by repeat (first | (with_reducible first | exact HB.out | apply below_alloc | apply pw_below_drewN | apply below_drew1) | exact HB.out)) hb); clear HB; have HO158 := n0_; have HB := n1_; clear n0_ n1_; clear hb ho25; obtain ⟨Ao26, co26, eo26⟩ := Kd.V_slice HO158.out; subst eo26) | ((with_reducible refine gate_callee (f := 13) rfl ?_); refine goesL_ (some 39) rfl rfl Try.func13 (by kernel_rfl) rfl #[.slice Ao26 y156.length co26] rfl (by (try simp only [List.map_toArray, List.map_cons, List.map_nil]); first | done | rfl | (simp only [List.length_drop, List.length_take]; rfl)) ?_; (with_reducible refine (engrossref1_FloatOf.calls kj9 _ _ y156 t159 true _ ?side1 ?side2 A20.out).mono ?_); (case side1 => repeat (first | exact (Kd.V_reads' HO158.out).2.2 | (with_reducible refine Kd.C_alloc ?_ _) | (with_reducible refine Kd.C_drewN ?_ _) | (with_reducible refine Kd.C_drew ?_))); (case side2 => exact (Kd.V_reads' HO158.out).2.1); rintro e w27 ⟨rfl, hb⟩; refine ⟨_, rfl, ?_⟩; have n0_ := Aside0.mk (Kd.V_below (by (with_reducible repeat (first | apply Kd.V_alloc | apply Kd.V_drewN | apply Kd.V_drew)); exact HO158.out) hb); have n1_ := Aside0.mk (below_step (by repeat (first | (with_reducible first | exact HB.out | apply below_alloc | apply pw_below_drewN | apply below_drew1) | exact HB.out)) hb); clear HO158; clear HB; have HO158 := n0_; have HB := n1_; clear n0_ n1_; (try clear hb); (try clear hb2); (try clear hk); (try clear hi)) | (go_at_call 14; (with_reducible refine (engrossref1_Bits.calls t154 t159 true _ A22.out).mono ?_); rintro e w' ⟨rfl, ⟨nd, rfl⟩⟩))
                    go_meet
                    case rel => exact ⟨_, (true), (by first | rfl | (simp; done) | (simp [*]; done)), H', ⟨by have := HJ9.out; first | omega | exact Nat.le_refl _⟩, ⟨by repeat (first | (with_reducible first | exact HB.out | apply below_alloc | apply pw_below_drewN | apply below_drew1) | exact HB.out)⟩⟩
                  · replace c23 := Bool.eq_false_iff.mpr c23
                    subst c23
                    have H1 : (some false) = some r := by rw [if_neg (show ¬ (false = true) by decide)] at H; exact H
                    clear H
                    have H := H1
                    clear H1
                    obtain rfl := Option.some.inj H
                    go_wp2_with (first | ((with_reducible refine gate_dst (N := 38) rfl ?_); refine Kd.x_V_conv _ 5 rfl (N := 38) rfl 9 28 _ rfl (t151.extract 1 t151.size) rfl Try.underlying9 Try.underlying28 Try.underlying5 (of_decide_eq_true (by first | (with_reducible assumption) | assumption)) (Below.refl _ _) (Nat.le_refl _) ?_; intro v157 w28 ho29 hb hg_ hnew_; clear hg_ hnew_; (first | rw [← Ny156.out] at ho29 | (simp only [Int.reduceToNat] at ho29; rw [← Ny156.out] at ho29)); have n0_ := Aside0.mk (Kd.V_lower (Kd.V_mono (ok' := fun k_ => True) ho29 (fun k_ hk_ => trivial)) (below_size (by repeat (first | (with_reducible first | exact HB.out | apply below_alloc | apply pw_below_drewN | apply below_drew1) | exact HB.out)))); have n1_ := Aside0.mk (below_step (by repeat (first | (with_reducible first | exact HB.out | apply below_alloc | apply pw_below_drewN | apply below_drew1) | exact HB.out)) hb); clear HB; have HO158 := n0_; have HB := n1_; clear n0_ n1_; clear hb ho29; obtain ⟨Ao30, co30, eo30⟩ := Kd.V_slice HO158.out; subst eo30) | ((with_reducible refine gate_callee (f := 13) rfl ?_); refine goesL_ (some 39) rfl rfl Try.func13 (by kernel_rfl) rfl #[.slice Ao30 y156.length co30] rfl (by (try simp only [List.map_toArray, List.map_cons, List.map_nil]); first | done | rfl | (simp only [List.length_drop, List.length_take]; rfl)) ?_; (with_reducible refine (engrossref1_FloatOf.calls kj9 _ _ y156 t159 true _ ?side1 ?side2 A20.out).mono ?_); (case side1 => repeat (first | exact (Kd.V_reads' HO158.out).2.2 | (with_reducible refine Kd.C_alloc ?_ _) | (with_reducible refine Kd.C_drewN ?_ _) | (with_reducible refine Kd.C_drew ?_))); (case side2 => exact (Kd.V_reads' HO158.out).2.1); rintro e w31 ⟨rfl, hb⟩; refine ⟨_, rfl, ?_⟩; have n0_ := Aside0.mk (Kd.V_below (by (with_reducible repeat (first | apply Kd.V_alloc | apply Kd.V_drewN | apply Kd.V_drew)); exact HO158.out) hb); have n1_ := Aside0.mk (below_step (by repeat (first | (with_reducible first | exact HB.out | apply below_alloc | apply pw_below_drewN | apply below_drew1) | exact HB.out)) hb); clear HO158; clear HB; have HO158 := n0_; have HB := n1_; clear n0_ n1_; (try clear hb); (try clear hb2); (try clear hk); (try clear hi)) | (go_at_call 14; (with_reducible refine (engrossref1_Bits.calls t154 t159 false _ A22.out).mono ?_); rintro e w' ⟨rfl, ⟨nd, rfl⟩⟩))
                    go_ret
                    exact ⟨by first | rfl | (simp [errW_none, errW_some] <;> rfl) | (simp [*, errW_none, errW_some] <;> rfl), by repeat (first | (with_reducible first | exact HB.out | apply below_alloc | apply pw_below_drewN | apply below_drew1) | exact HB.out)⟩
                · replace c21 := Bool.eq_false_iff.mpr c21
                  subst c21
                  have H1 : (engrosslaw5_KeyAll.j1 kj9 t151 t152 t153 t154 t155 false) = some r := by rw [if_neg (show ¬ (false = true) by decide)] at H; exact H
                  clear H
                  have H := H1
                  clear H1
                  have H' := Aside0.mk H
                  clear H
                  go_wp2_with (first | ((with_reducible refine gate_dst (N := 38) rfl ?_); refine Kd.x_V_conv _ 5 rfl (N := 38) rfl 9 28 _ rfl (t151.extract 1 t151.size) rfl Try.underlying9 Try.underlying28 Try.underlying5 (of_decide_eq_true (by first | (with_reducible assumption) | assumption)) (Below.refl _ _) (Nat.le_refl _) ?_; intro v157 w32 ho33 hb hg_ hnew_; clear hg_ hnew_; (first | rw [← Ny156.out] at ho33 | (simp only [Int.reduceToNat] at ho33; rw [← Ny156.out] at ho33)); have n0_ := Aside0.mk (Kd.V_lower (Kd.V_mono (ok' := fun k_ => True) ho33 (fun k_ hk_ => trivial)) (below_size (by repeat (first | (with_reducible first | exact HB.out | apply below_alloc | apply pw_below_drewN | apply below_drew1) | exact HB.out)))); have n1_ := Aside0.mk (below_step (by repeat (first | (with_reducible first | exact HB.out | apply below_alloc | apply pw_below_drewN | apply below_drew1) | exact HB.out)) hb); clear HB; have HO158 := n0_; have HB := n1_; clear n0_ n1_; clear hb ho33; obtain ⟨Ao34, co34, eo34⟩ := Kd.V_slice HO158.out; subst eo34) | ((with_reducible refine gate_callee (f := 13) rfl ?_); refine goesL_ (some 39) rfl rfl Try.func13 (by kernel_rfl) rfl #[.slice Ao34 y156.length co34] rfl (by (try simp only [List.map_toArray, List.map_cons, List.map_nil]); first | done | rfl | (simp only [List.length_drop, List.length_take]; rfl)) ?_; (with_reducible refine (engrossref1_FloatOf.calls kj9 _ _ y156 t159 false _ ?side1 ?side2 A20.out).mono ?_); (case side1 => repeat (first | exact (Kd.V_reads' HO158.out).2.2 | (with_reducible refine Kd.C_alloc ?_ _) | (with_reducible refine Kd.C_drewN ?_ _) | (with_reducible refine Kd.C_drew ?_))); (case side2 => exact (Kd.V_reads' HO158.out).2.1); rintro e w35 ⟨rfl, hb⟩; refine ⟨_, rfl, ?_⟩; have n0_ := Aside0.mk (Kd.V_below (by (with_reducible repeat (first | apply Kd.V_alloc | apply Kd.V_drewN | apply Kd.V_drew)); exact HO158.out) hb); have n1_ := Aside0.mk (below_step (by repeat (first | (with_reducible first | exact HB.out | apply below_alloc | apply pw_below_drewN | apply below_drew1) | exact HB.out)) hb); clear HO158; clear HB; have HO158 := n0_; have HB := n1_; clear n0_ n1_; (try clear hb); (try clear hb2); (try clear hk); (try clear hi)))
                  go_meet
                  case rel => exact ⟨_, (false), (by first | rfl | (simp; done) | (simp [*]; done)), H', ⟨by have := HJ9.out; first | omega | exact Nat.le_refl _⟩, ⟨by repeat (first | (with_reducible first | exact HB.out | apply below_alloc | apply pw_below_drewN | apply below_drew1) | exact HB.out)⟩⟩
              · rw [if_neg c19] at H
                exact absurd H (by simp)
            · rw [if_neg c18] at H
              exact absurd H (by simp)
          · replace c17 := Bool.eq_false_iff.mpr c17
            subst c17
            have H1 : (engrosslaw5_KeyAll.j1 kj9 t151 t152 t153 t154 t155 false) = some r := by rw [if_neg (show ¬ (false = true) by decide)] at H; exact H
            clear H
            have H := H1
            clear H1
            have H' := Aside0.mk H
            clear H
            go_wp2
            go_meet
            case rel => exact ⟨_, (false), (by first | rfl | (simp; done) | (simp [*]; done)), H', ⟨by have := HJ9.out; first | omega | exact Nat.le_refl _⟩, ⟨by repeat (first | (with_reducible first | exact HB.out | apply below_alloc | apply pw_below_drewN | apply below_drew1) | exact HB.out)⟩⟩
        case rest =>
          clear HC16
          try clear c1
          try clear p1
          try clear q1
          try clear hx1
          try clear qi1
          try clear c2
          try clear p2
          try clear c3
          try clear c5
          try clear c10
          try clear c11
          try clear c12
          try clear c13
          try clear c13b0
          try clear c13b1
          try clear c14
          try clear c14b0
          try clear c14b1
          try clear p15
          try clear q15
          try clear hx15
          try clear qi15
          try clear c17
          try clear c18
          try clear c18b0
          try clear c18b1
          try clear c19
          try clear c19b0
          try clear c19b1
          try clear c19b2
          try clear c21
          try clear c23
          try clear p1
          try clear p15
          try clear p2
          try clear q1
          try clear q15
          obtain ⟨kq, x10_15, rfl, HA, HJ15, HB⟩ := hcut
          cases kq with
          | zero => exact absurd HA.out (by simp [engrosslaw5_KeyAll.j1])
          | succ kj15 =>
            have H := HA.out
            clear HA
            simp only [engrosslaw5_KeyAll.j1] at H
            replace H := Option.bind_eq_some_iff.mp H
            obtain ⟨t162, A360, H⟩ := H
            replace H : ((engrossref1_MayKey.f t151).bind fun t163 => (if (t162 == t163) = true then ((key_In.f t151 t152 t153).bind fun t164 => ((engrossref1_In.f t151 t152 t153).bind fun t165 => (if (t164 == t165) = true then (if (t155 == x10_15) = true then (if t155 = true then (some true) else ((engrossref1_Bits.f t154 0).bind fun t166 => (some t166))) else (some false)) else (some false)))) else (some false))) = some r := H
            have A36 := Aside0.mk A360
            clear A360
            replace H := Option.bind_eq_some_iff.mp H
            obtain ⟨t163, A370, H⟩ := H
            replace H : (if (t162 == t163) = true then ((key_In.f t151 t152 t153).bind fun t164 => ((engrossref1_In.f t151 t152 t153).bind fun t165 => (if (t164 == t165) = true then (if (t155 == x10_15) = true then (if t155 = true then (some true) else ((engrossref1_Bits.f t154 0).bind fun t166 => (some t166))) else (some false)) else (some false)))) else (some false)) = some r := H
            have A37 := Aside0.mk A370
            clear A370
            by_cases c38 : (t162 == t163) = true
            · rw [if_pos c38] at H
              have c38b0 : (t162 == t163) = true := c38
              (try (have c38b1 : decide (t162 = t163) = true := by simpa using c38))
              (try (have c38b2 : (t162 == t163) = true := by simpa using c38))
              clear c38
              replace H := Option.bind_eq_some_iff.mp H
              obtain ⟨t164, A390, H⟩ := H
              replace H : ((engrossref1_In.f t151 t152 t153).bind fun t165 => (if (t164 == t165) = true then (if (t155 == x10_15) = true then (if t155 = true then (some true) else ((engrossref1_Bits.f t154 0).bind fun t166 => (some t166))) else (some false)) else (some false))) = some r := H
              have A39 := Aside0.mk A390
              clear A390
              replace H := Option.bind_eq_some_iff.mp H
              obtain ⟨t165, A400, H⟩ := H
              replace H : (if (t164 == t165) = true then (if (t155 == x10_15) = true then (if t155 = true then (some true) else ((engrossref1_Bits.f t154 0).bind fun t166 => (some t166))) else (some false)) else (some false)) = some r := H
              have A40 := Aside0.mk A400
              clear A400
              by_cases c41 : (t164 == t165) = true
              · rw [if_pos c41] at H
                have c41b0 : (t164 == t165) = true := c41
                (try (have c41b1 : decide (t164 = t165) = true := by simpa using c41))
                (try (have c41b2 : (t164 == t165) = true := by simpa using c41))
                clear c41
                by_cases c42 : (t155 == x10_15) = true
                · rw [if_pos c42] at H
                  have c42b0 : (t155 == x10_15) = true := c42
                  (try (have c42b1 : decide (t155 = x10_15) = true := by simpa using c42))
                  (try (have c42b2 : (t155 == x10_15) = true := by simpa using c42))
                  clear c42
                  by_cases c43 : t155 = true
                  · subst c43
                    have H1 : (some true) = some r := by rw [if_pos rfl] at H; exact H
                    clear H
                    have H := H1
                    clear H1
                    obtain rfl := Option.some.inj H
                    go_wp2_with (first | ((with_reducible refine gate_callee (f := 15) rfl ?_); refine goesL_ (some 51) rfl rfl Try.func15 (by kernel_rfl) rfl #[.string t151] rfl (by (try simp only [List.map_toArray, List.map_cons, List.map_nil]); first | done | rfl | (simp only [List.length_drop, List.length_take]; rfl)) ?_; (with_reducible refine (key_May.calls t151 t162 _ A36.out).mono ?_); rintro e w' ⟨rfl, ⟨nd, rfl⟩⟩; refine ⟨_, rfl, ?_⟩) | ((with_reducible refine gate_callee (f := 16) rfl ?_); refine goesL_ (some 53) rfl rfl Try.func16 (by kernel_rfl) rfl #[.string t151] rfl (by (try simp only [List.map_toArray, List.map_cons, List.map_nil]); first | done | rfl | (simp only [List.length_drop, List.length_take]; rfl)) ?_; (with_reducible refine (engrossref1_MayKey.calls t151 t163 _ A37.out).mono ?_); rintro e w' ⟨rfl, ⟨nd, rfl⟩⟩; refine ⟨_, rfl, ?_⟩) | (go_at_call 17; (with_reducible refine (key_In.calls t151 t152 t153 t164 _ A39.out).mono ?_); rintro e w' ⟨rfl, ⟨nd, rfl⟩⟩) | (go_at_call 18; (with_reducible refine (engrossref1_In.calls t151 t152 t153 t165 _ A40.out).mono ?_); rintro e w' ⟨rfl, ⟨nd, rfl⟩⟩))
                    go_ret
                    exact ⟨by first | rfl | (simp [errW_none, errW_some] <;> rfl) | (simp [*, errW_none, errW_some] <;> rfl), by repeat (first | (with_reducible first | exact HB.out | apply below_alloc | apply pw_below_drewN | apply below_drew1) | exact HB.out)⟩
                  · replace c43 := Bool.eq_false_iff.mpr c43
                    subst c43
                    have H1 : ((engrossref1_Bits.f t154 0).bind fun t166 => (some t166)) = some r := by rw [if_neg (show ¬ (false = true) by decide)] at H; exact H
                    clear H
                    have H := H1
                    clear H1
                    replace H := Option.bind_eq_some_iff.mp H
                    obtain ⟨t166, A440, H⟩ := H
                    replace H : (some t166) = some r := H
                    have A44 := Aside0.mk A440
                    clear A440
                    obtain rfl := Option.some.inj H
                    go_wp2_with (first | ((with_reducible refine gate_callee (f := 15) rfl ?_); refine goesL_ (some 51) rfl rfl Try.func15 (by kernel_rfl) rfl #[.string t151] rfl (by (try simp only [List.map_toArray, List.map_cons, List.map_nil]); first | done | rfl | (simp only [List.length_drop, List.length_take]; rfl)) ?_; (with_reducible refine (key_May.calls t151 t162 _ A36.out).mono ?_); rintro e w' ⟨rfl, ⟨nd, rfl⟩⟩; refine ⟨_, rfl, ?_⟩) | ((with_reducible refine gate_callee (f := 16) rfl ?_); refine goesL_ (some 53) rfl rfl Try.func16 (by kernel_rfl) rfl #[.string t151] rfl (by (try simp only [List.map_toArray, List.map_cons, List.map_nil]); first | done | rfl | (simp only [List.length_drop, List.length_take]; rfl)) ?_; (with_reducible refine (engrossref1_MayKey.calls t151 t163 _ A37.out).mono ?_); rintro e w' ⟨rfl, ⟨nd, rfl⟩⟩; refine ⟨_, rfl, ?_⟩) | (go_at_call 17; (with_reducible refine (key_In.calls t151 t152 t153 t164 _ A39.out).mono ?_); rintro e w' ⟨rfl, ⟨nd, rfl⟩⟩) | (go_at_call 18; (with_reducible refine (engrossref1_In.calls t151 t152 t153 t165 _ A40.out).mono ?_); rintro e w' ⟨rfl, ⟨nd, rfl⟩⟩) | (go_at_call 14; (with_reducible refine (engrossref1_Bits.calls t154 0 t166 _ A44.out).mono ?_); rintro e w' ⟨rfl, ⟨nd, rfl⟩⟩))
                    go_ret
                    exact ⟨by first | rfl | (simp [errW_none, errW_some] <;> rfl) | (simp [*, errW_none, errW_some] <;> rfl), by repeat (first | (with_reducible first | exact HB.out | apply below_alloc | apply pw_below_drewN | apply below_drew1) | exact HB.out)⟩
                · rw [if_neg c42] at H
                  have c42b0 : (t155 == x10_15) = false := by simpa using c42
                  (try (have c42b1 : decide (t155 = x10_15) = false := by simpa using c42))
                  (try (have c42b2 : (t155 == x10_15) = false := by simpa using c42))
                  (try (have c42b3 : ¬ (t155 = x10_15) := by simpa using c42))
                  clear c42
                  obtain rfl := Option.some.inj H
                  go_wp2_with (first | ((with_reducible refine gate_callee (f := 15) rfl ?_); refine goesL_ (some 51) rfl rfl Try.func15 (by kernel_rfl) rfl #[.string t151] rfl (by (try simp only [List.map_toArray, List.map_cons, List.map_nil]); first | done | rfl | (simp only [List.length_drop, List.length_take]; rfl)) ?_; (with_reducible refine (key_May.calls t151 t162 _ A36.out).mono ?_); rintro e w' ⟨rfl, ⟨nd, rfl⟩⟩; refine ⟨_, rfl, ?_⟩) | ((with_reducible refine gate_callee (f := 16) rfl ?_); refine goesL_ (some 53) rfl rfl Try.func16 (by kernel_rfl) rfl #[.string t151] rfl (by (try simp only [List.map_toArray, List.map_cons, List.map_nil]); first | done | rfl | (simp only [List.length_drop, List.length_take]; rfl)) ?_; (with_reducible refine (engrossref1_MayKey.calls t151 t163 _ A37.out).mono ?_); rintro e w' ⟨rfl, ⟨nd, rfl⟩⟩; refine ⟨_, rfl, ?_⟩) | (go_at_call 17; (with_reducible refine (key_In.calls t151 t152 t153 t164 _ A39.out).mono ?_); rintro e w' ⟨rfl, ⟨nd, rfl⟩⟩) | (go_at_call 18; (with_reducible refine (engrossref1_In.calls t151 t152 t153 t165 _ A40.out).mono ?_); rintro e w' ⟨rfl, ⟨nd, rfl⟩⟩))
                  go_ret
                  exact ⟨by first | rfl | (simp [errW_none, errW_some] <;> rfl) | (simp [*, errW_none, errW_some] <;> rfl), by repeat (first | (with_reducible first | exact HB.out | apply below_alloc | apply pw_below_drewN | apply below_drew1) | exact HB.out)⟩
              · rw [if_neg c41] at H
                have c41b0 : (t164 == t165) = false := by simpa using c41
                (try (have c41b1 : decide (t164 = t165) = false := by simpa using c41))
                (try (have c41b2 : (t164 == t165) = false := by simpa using c41))
                (try (have c41b3 : ¬ (t164 = t165) := by simpa using c41))
                clear c41
                obtain rfl := Option.some.inj H
                go_wp2_with (first | ((with_reducible refine gate_callee (f := 15) rfl ?_); refine goesL_ (some 51) rfl rfl Try.func15 (by kernel_rfl) rfl #[.string t151] rfl (by (try simp only [List.map_toArray, List.map_cons, List.map_nil]); first | done | rfl | (simp only [List.length_drop, List.length_take]; rfl)) ?_; (with_reducible refine (key_May.calls t151 t162 _ A36.out).mono ?_); rintro e w' ⟨rfl, ⟨nd, rfl⟩⟩; refine ⟨_, rfl, ?_⟩) | ((with_reducible refine gate_callee (f := 16) rfl ?_); refine goesL_ (some 53) rfl rfl Try.func16 (by kernel_rfl) rfl #[.string t151] rfl (by (try simp only [List.map_toArray, List.map_cons, List.map_nil]); first | done | rfl | (simp only [List.length_drop, List.length_take]; rfl)) ?_; (with_reducible refine (engrossref1_MayKey.calls t151 t163 _ A37.out).mono ?_); rintro e w' ⟨rfl, ⟨nd, rfl⟩⟩; refine ⟨_, rfl, ?_⟩) | (go_at_call 17; (with_reducible refine (key_In.calls t151 t152 t153 t164 _ A39.out).mono ?_); rintro e w' ⟨rfl, ⟨nd, rfl⟩⟩) | (go_at_call 18; (with_reducible refine (engrossref1_In.calls t151 t152 t153 t165 _ A40.out).mono ?_); rintro e w' ⟨rfl, ⟨nd, rfl⟩⟩))
                go_ret
                exact ⟨by first | rfl | (simp [errW_none, errW_some] <;> rfl) | (simp [*, errW_none, errW_some] <;> rfl), by repeat (first | (with_reducible first | exact HB.out | apply below_alloc | apply pw_below_drewN | apply below_drew1) | exact HB.out)⟩
            · rw [if_neg c38] at H
              have c38b0 : (t162 == t163) = false := by simpa using c38
              (try (have c38b1 : decide (t162 = t163) = false := by simpa using c38))
              (try (have c38b2 : (t162 == t163) = false := by simpa using c38))
              (try (have c38b3 : ¬ (t162 = t163) := by simpa using c38))
              clear c38
              obtain rfl := Option.some.inj H
              go_wp2_with (first | ((with_reducible refine gate_callee (f := 15) rfl ?_); refine goesL_ (some 51) rfl rfl Try.func15 (by kernel_rfl) rfl #[.string t151] rfl (by (try simp only [List.map_toArray, List.map_cons, List.map_nil]); first | done | rfl | (simp only [List.length_drop, List.length_take]; rfl)) ?_; (with_reducible refine (key_May.calls t151 t162 _ A36.out).mono ?_); rintro e w' ⟨rfl, ⟨nd, rfl⟩⟩; refine ⟨_, rfl, ?_⟩) | ((with_reducible refine gate_callee (f := 16) rfl ?_); refine goesL_ (some 53) rfl rfl Try.func16 (by kernel_rfl) rfl #[.string t151] rfl (by (try simp only [List.map_toArray, List.map_cons, List.map_nil]); first | done | rfl | (simp only [List.length_drop, List.length_take]; rfl)) ?_; (with_reducible refine (engrossref1_MayKey.calls t151 t163 _ A37.out).mono ?_); rintro e w' ⟨rfl, ⟨nd, rfl⟩⟩; refine ⟨_, rfl, ?_⟩))
              go_ret
              exact ⟨by first | rfl | (simp [errW_none, errW_some] <;> rfl) | (simp [*, errW_none, errW_some] <;> rfl), by repeat (first | (with_reducible first | exact HB.out | apply below_alloc | apply pw_below_drewN | apply below_drew1) | exact HB.out)⟩
  · replace c5 := Bool.eq_false_iff.mpr c5
    subst c5
    have H1 : (some false) = some r := by rw [if_neg (show ¬ (false = true) by decide)] at H; exact H
    clear H
    have H := H1
    clear H1
    obtain rfl := Option.some.inj H
    go_enter Try.func3, Try.ntmps3
    go_wp2_with (first | ((with_reducible refine gate_callee (f := 10) rfl ?_); refine goesL_ (some 13) rfl rfl Try.func10 (by kernel_rfl) rfl #[] rfl (by (try simp only [List.map_toArray, List.map_cons, List.map_nil]); first | done | rfl | (simp only [List.length_drop, List.length_take]; rfl)) ?_; (with_reducible refine (engrosslaw5_begun.calls k  false _ A4.out).mono ?_); rintro e w45 ⟨rfl, hb⟩; refine ⟨_, rfl, ?_⟩; have n0_ := Aside0.mk (below_step (by repeat (first | (with_reducible first | exact HB.out | apply below_alloc | apply pw_below_drewN | apply below_drew1) | exact HB.out)) hb); clear HB; have HB := n0_; clear n0_; (try clear hb); (try clear hb2); (try clear hk); (try clear hi)))
    go_ret
    exact ⟨by first | rfl | (simp [errW_none, errW_some] <;> rfl) | (simp [*, errW_none, errW_some] <;> rfl), by repeat (first | (with_reducible first | exact HB.out | apply below_alloc | apply pw_below_drewN | apply below_drew1) | exact HB.out)⟩

/-- THE ONE PURE STATEMENT of engrosslaw5_KeyAll: yours. -/
def engrosslaw5_KeyAll.Pure : Prop := ∀ (a0 : ByteArray) (a1 : ByteArray) (a2 : ByteArray), a0.size ≤ 140737488351232 → a1.size ≤ 140737488351232 → a2.size ≤ 140737488351232 → ∃ k, engrosslaw5_KeyAll.f k a0 a1 a2 = some true
theorem engrosslaw5_KeyAll.walk (P : engrosslaw5_KeyAll.Pure) (a0 : ByteArray) (a1 : ByteArray) (a2 : ByteArray) (w : World) (w0 : a0.size ≤ 140737488351232) (w1 : a1.size ≤ 140737488351232) (w2 : a2.size ≤ 140737488351232) :
    Calls Try.prog 3 #[.string a0, .string a1, .string a2] w fun e w' => e = .returned (.bool true) ∧ Below w.heap.size w w' := by
  obtain ⟨k, h⟩ := P a0 a1 a2 w0 w1 w2
  refine (engrosslaw5_KeyAll.calls k a0 a1 a2 true w h).mono ?_
  rintro e w' ⟨rfl, hd⟩
  exact ⟨rfl, hd⟩

/-! ### engrosslaw5_KeyFloats: function 4 -/
def engrosslaw5_KeyFloats.f (k : Nat) (a0 : Int) (a1 : Int) : Option (Bool) := (engrosslaw5_begun.f k).bind fun t167 => (if t167 = true then ((key_Of.f k (Int.toNat a0)).bind fun t168 => ((key_Float.f k t168).bind fun bt169 => ((engrossref1_Place.f (Int.toNat a0)).bind fun t171 => ((engrossref1_Place.f (Int.toNat a1)).bind fun t172 => (if bt169.2 = true then ((engrossref1_Clean.f (Int.toNat a0)).bind fun t173 => ((engrossref1_Bits.f bt169.1 t173).bind fun t174 => (if t174 = true then ((key_Of.f k (Int.toNat a0)).bind fun t175 => ((key_Of.f k (Int.toNat a1)).bind fun t176 => (if ((Op.bytesLess t175.toList t176.toList) == (decide (t171 < t172))) = true then ((key_Of.f k (Int.toNat a0)).bind fun t177 => ((key_Of.f k (Int.toNat a1)).bind fun t178 => (if ((t177.toList == t178.toList) == (t171 == t172)) = true then ((key_Of.f k (Int.toNat a0)).bind fun t179 => ((key_May.f t179).bind fun t180 => (some t180))) else (some false)))) else (some false)))) else (some false)))) else (some false)))))) else (some false))
theorem engrosslaw5_KeyFloats.mono : ∀ a0 a1 k, LeO (engrosslaw5_KeyFloats.f k a0 a1) (engrosslaw5_KeyFloats.f (k + 1) a0 a1) := by
  intro a0 a1 k
  unfold engrosslaw5_KeyFloats.f
  repeat' first
      | (with_reducible exact engrosslaw5_begun.mono _)
      | (with_reducible exact key_Float.mono _ _)
      | (with_reducible exact key_Of.mono _ _)
      | (with_reducible exact LeO.refl _)
      | (with_reducible exact LeO.none _)
      | (with_reducible refine LeO.ite ?_ ?_)
      | (with_reducible refine LeO.bind ?_ (fun _ => ?_))
      | exact engrosslaw5_begun.mono _
      | exact key_Float.mono _ _
      | exact key_Of.mono _ _
      | exact LeO.none _
      | refine LeO.ite ?_ ?_
      | refine LeO.bind ?_ (fun _ => ?_)
set_option maxHeartbeats 8000000 in
set_option maxRecDepth 100000 in
theorem engrosslaw5_KeyFloats.calls (k : Nat) (a0 : Int) (a1 : Int) (r : Bool) (w : World) (h : engrosslaw5_KeyFloats.f k a0 a1 = some r) :
    Calls Try.prog 4 #[.int .u64 a0, .int .u64 a1] w fun e w' => e = .returned (.bool r) ∧ Below w.heap.size w w' := by
  have HB := Aside0.mk (Below.refl w.heap.size w)
  have H : ((engrosslaw5_begun.f k).bind fun t167 => (if t167 = true then ((key_Of.f k (Int.toNat a0)).bind fun t168 => ((key_Float.f k t168).bind fun bt169 => ((engrossref1_Place.f (Int.toNat a0)).bind fun t171 => ((engrossref1_Place.f (Int.toNat a1)).bind fun t172 => (if bt169.2 = true then ((engrossref1_Clean.f (Int.toNat a0)).bind fun t173 => ((engrossref1_Bits.f bt169.1 t173).bind fun t174 => (if t174 = true then ((key_Of.f k (Int.toNat a0)).bind fun t175 => ((key_Of.f k (Int.toNat a1)).bind fun t176 => (if ((Op.bytesLess t175.toList t176.toList) == (decide (t171 < t172))) = true then ((key_Of.f k (Int.toNat a0)).bind fun t177 => ((key_Of.f k (Int.toNat a1)).bind fun t178 => (if ((t177.toList == t178.toList) == (t171 == t172)) = true then ((key_Of.f k (Int.toNat a0)).bind fun t179 => ((key_May.f t179).bind fun t180 => (some t180))) else (some false)))) else (some false)))) else (some false)))) else (some false)))))) else (some false))) = some r := h
  clear h
  replace H := Option.bind_eq_some_iff.mp H
  obtain ⟨t167, A30, H⟩ := H
  replace H : (if t167 = true then ((key_Of.f k (Int.toNat a0)).bind fun t168 => ((key_Float.f k t168).bind fun bt169 => ((engrossref1_Place.f (Int.toNat a0)).bind fun t171 => ((engrossref1_Place.f (Int.toNat a1)).bind fun t172 => (if bt169.2 = true then ((engrossref1_Clean.f (Int.toNat a0)).bind fun t173 => ((engrossref1_Bits.f bt169.1 t173).bind fun t174 => (if t174 = true then ((key_Of.f k (Int.toNat a0)).bind fun t175 => ((key_Of.f k (Int.toNat a1)).bind fun t176 => (if ((Op.bytesLess t175.toList t176.toList) == (decide (t171 < t172))) = true then ((key_Of.f k (Int.toNat a0)).bind fun t177 => ((key_Of.f k (Int.toNat a1)).bind fun t178 => (if ((t177.toList == t178.toList) == (t171 == t172)) = true then ((key_Of.f k (Int.toNat a0)).bind fun t179 => ((key_May.f t179).bind fun t180 => (some t180))) else (some false)))) else (some false)))) else (some false)))) else (some false)))))) else (some false)) = some r := H
  have A3 := Aside0.mk A30
  clear A30
  by_cases c4 : t167 = true
  · subst c4
    have H1 : ((key_Of.f k (Int.toNat a0)).bind fun t168 => ((key_Float.f k t168).bind fun bt169 => ((engrossref1_Place.f (Int.toNat a0)).bind fun t171 => ((engrossref1_Place.f (Int.toNat a1)).bind fun t172 => (if bt169.2 = true then ((engrossref1_Clean.f (Int.toNat a0)).bind fun t173 => ((engrossref1_Bits.f bt169.1 t173).bind fun t174 => (if t174 = true then ((key_Of.f k (Int.toNat a0)).bind fun t175 => ((key_Of.f k (Int.toNat a1)).bind fun t176 => (if ((Op.bytesLess t175.toList t176.toList) == (decide (t171 < t172))) = true then ((key_Of.f k (Int.toNat a0)).bind fun t177 => ((key_Of.f k (Int.toNat a1)).bind fun t178 => (if ((t177.toList == t178.toList) == (t171 == t172)) = true then ((key_Of.f k (Int.toNat a0)).bind fun t179 => ((key_May.f t179).bind fun t180 => (some t180))) else (some false)))) else (some false)))) else (some false)))) else (some false)))))) = some r := by rw [if_pos rfl] at H; exact H
    clear H
    have H := H1
    clear H1
    replace H := Option.bind_eq_some_iff.mp H
    obtain ⟨t168, A50, H⟩ := H
    replace H : ((key_Float.f k t168).bind fun bt169 => ((engrossref1_Place.f (Int.toNat a0)).bind fun t171 => ((engrossref1_Place.f (Int.toNat a1)).bind fun t172 => (if bt169.2 = true then ((engrossref1_Clean.f (Int.toNat a0)).bind fun t173 => ((engrossref1_Bits.f bt169.1 t173).bind fun t174 => (if t174 = true then ((key_Of.f k (Int.toNat a0)).bind fun t175 => ((key_Of.f k (Int.toNat a1)).bind fun t176 => (if ((Op.bytesLess t175.toList t176.toList) == (decide (t171 < t172))) = true then ((key_Of.f k (Int.toNat a0)).bind fun t177 => ((key_Of.f k (Int.toNat a1)).bind fun t178 => (if ((t177.toList == t178.toList) == (t171 == t172)) = true then ((key_Of.f k (Int.toNat a0)).bind fun t179 => ((key_May.f t179).bind fun t180 => (some t180))) else (some false)))) else (some false)))) else (some false)))) else (some false))))) = some r := H
    have A5 := Aside0.mk A50
    clear A50
    replace H := Option.bind_eq_some_iff.mp H
    obtain ⟨⟨t169, t170⟩, A60, H⟩ := H
    replace H : ((engrossref1_Place.f (Int.toNat a0)).bind fun t171 => ((engrossref1_Place.f (Int.toNat a1)).bind fun t172 => (if t170 = true then ((engrossref1_Clean.f (Int.toNat a0)).bind fun t173 => ((engrossref1_Bits.f t169 t173).bind fun t174 => (if t174 = true then ((key_Of.f k (Int.toNat a0)).bind fun t175 => ((key_Of.f k (Int.toNat a1)).bind fun t176 => (if ((Op.bytesLess t175.toList t176.toList) == (decide (t171 < t172))) = true then ((key_Of.f k (Int.toNat a0)).bind fun t177 => ((key_Of.f k (Int.toNat a1)).bind fun t178 => (if ((t177.toList == t178.toList) == (t171 == t172)) = true then ((key_Of.f k (Int.toNat a0)).bind fun t179 => ((key_May.f t179).bind fun t180 => (some t180))) else (some false)))) else (some false)))) else (some false)))) else (some false)))) = some r := H
    have A6 := Aside0.mk A60
    clear A60
    replace H := Option.bind_eq_some_iff.mp H
    obtain ⟨t171, A70, H⟩ := H
    replace H : ((engrossref1_Place.f (Int.toNat a1)).bind fun t172 => (if t170 = true then ((engrossref1_Clean.f (Int.toNat a0)).bind fun t173 => ((engrossref1_Bits.f t169 t173).bind fun t174 => (if t174 = true then ((key_Of.f k (Int.toNat a0)).bind fun t175 => ((key_Of.f k (Int.toNat a1)).bind fun t176 => (if ((Op.bytesLess t175.toList t176.toList) == (decide (t171 < t172))) = true then ((key_Of.f k (Int.toNat a0)).bind fun t177 => ((key_Of.f k (Int.toNat a1)).bind fun t178 => (if ((t177.toList == t178.toList) == (t171 == t172)) = true then ((key_Of.f k (Int.toNat a0)).bind fun t179 => ((key_May.f t179).bind fun t180 => (some t180))) else (some false)))) else (some false)))) else (some false)))) else (some false))) = some r := H
    have A7 := Aside0.mk A70
    clear A70
    replace H := Option.bind_eq_some_iff.mp H
    obtain ⟨t172, A80, H⟩ := H
    replace H : (if t170 = true then ((engrossref1_Clean.f (Int.toNat a0)).bind fun t173 => ((engrossref1_Bits.f t169 t173).bind fun t174 => (if t174 = true then ((key_Of.f k (Int.toNat a0)).bind fun t175 => ((key_Of.f k (Int.toNat a1)).bind fun t176 => (if ((Op.bytesLess t175.toList t176.toList) == (decide (t171 < t172))) = true then ((key_Of.f k (Int.toNat a0)).bind fun t177 => ((key_Of.f k (Int.toNat a1)).bind fun t178 => (if ((t177.toList == t178.toList) == (t171 == t172)) = true then ((key_Of.f k (Int.toNat a0)).bind fun t179 => ((key_May.f t179).bind fun t180 => (some t180))) else (some false)))) else (some false)))) else (some false)))) else (some false)) = some r := H
    have A8 := Aside0.mk A80
    clear A80
    by_cases c9 : t170 = true
    · subst c9
      have H1 : ((engrossref1_Clean.f (Int.toNat a0)).bind fun t173 => ((engrossref1_Bits.f t169 t173).bind fun t174 => (if t174 = true then ((key_Of.f k (Int.toNat a0)).bind fun t175 => ((key_Of.f k (Int.toNat a1)).bind fun t176 => (if ((Op.bytesLess t175.toList t176.toList) == (decide (t171 < t172))) = true then ((key_Of.f k (Int.toNat a0)).bind fun t177 => ((key_Of.f k (Int.toNat a1)).bind fun t178 => (if ((t177.toList == t178.toList) == (t171 == t172)) = true then ((key_Of.f k (Int.toNat a0)).bind fun t179 => ((key_May.f t179).bind fun t180 => (some t180))) else (some false)))) else (some false)))) else (some false)))) = some r := by rw [if_pos rfl] at H; exact H
      clear H
      have H := H1
      clear H1
      replace H := Option.bind_eq_some_iff.mp H
      obtain ⟨t173, A100, H⟩ := H
      replace H : ((engrossref1_Bits.f t169 t173).bind fun t174 => (if t174 = true then ((key_Of.f k (Int.toNat a0)).bind fun t175 => ((key_Of.f k (Int.toNat a1)).bind fun t176 => (if ((Op.bytesLess t175.toList t176.toList) == (decide (t171 < t172))) = true then ((key_Of.f k (Int.toNat a0)).bind fun t177 => ((key_Of.f k (Int.toNat a1)).bind fun t178 => (if ((t177.toList == t178.toList) == (t171 == t172)) = true then ((key_Of.f k (Int.toNat a0)).bind fun t179 => ((key_May.f t179).bind fun t180 => (some t180))) else (some false)))) else (some false)))) else (some false))) = some r := H
      have A10 := Aside0.mk A100
      clear A100
      replace H := Option.bind_eq_some_iff.mp H
      obtain ⟨t174, A110, H⟩ := H
      replace H : (if t174 = true then ((key_Of.f k (Int.toNat a0)).bind fun t175 => ((key_Of.f k (Int.toNat a1)).bind fun t176 => (if ((Op.bytesLess t175.toList t176.toList) == (decide (t171 < t172))) = true then ((key_Of.f k (Int.toNat a0)).bind fun t177 => ((key_Of.f k (Int.toNat a1)).bind fun t178 => (if ((t177.toList == t178.toList) == (t171 == t172)) = true then ((key_Of.f k (Int.toNat a0)).bind fun t179 => ((key_May.f t179).bind fun t180 => (some t180))) else (some false)))) else (some false)))) else (some false)) = some r := H
      have A11 := Aside0.mk A110
      clear A110
      by_cases c12 : t174 = true
      · subst c12
        have H1 : ((key_Of.f k (Int.toNat a0)).bind fun t175 => ((key_Of.f k (Int.toNat a1)).bind fun t176 => (if ((Op.bytesLess t175.toList t176.toList) == (decide (t171 < t172))) = true then ((key_Of.f k (Int.toNat a0)).bind fun t177 => ((key_Of.f k (Int.toNat a1)).bind fun t178 => (if ((t177.toList == t178.toList) == (t171 == t172)) = true then ((key_Of.f k (Int.toNat a0)).bind fun t179 => ((key_May.f t179).bind fun t180 => (some t180))) else (some false)))) else (some false)))) = some r := by rw [if_pos rfl] at H; exact H
        clear H
        have H := H1
        clear H1
        replace H := Option.bind_eq_some_iff.mp H
        obtain ⟨t175, A130, H⟩ := H
        replace H : ((key_Of.f k (Int.toNat a1)).bind fun t176 => (if ((Op.bytesLess t175.toList t176.toList) == (decide (t171 < t172))) = true then ((key_Of.f k (Int.toNat a0)).bind fun t177 => ((key_Of.f k (Int.toNat a1)).bind fun t178 => (if ((t177.toList == t178.toList) == (t171 == t172)) = true then ((key_Of.f k (Int.toNat a0)).bind fun t179 => ((key_May.f t179).bind fun t180 => (some t180))) else (some false)))) else (some false))) = some r := H
        have A13 := Aside0.mk A130
        clear A130
        have EA13 := Option.some.inj (A5.out.symm.trans A13.out)
        subst EA13
        replace H := Option.bind_eq_some_iff.mp H
        obtain ⟨t176, A140, H⟩ := H
        replace H : (if ((Op.bytesLess t168.toList t176.toList) == (decide (t171 < t172))) = true then ((key_Of.f k (Int.toNat a0)).bind fun t177 => ((key_Of.f k (Int.toNat a1)).bind fun t178 => (if ((t177.toList == t178.toList) == (t171 == t172)) = true then ((key_Of.f k (Int.toNat a0)).bind fun t179 => ((key_May.f t179).bind fun t180 => (some t180))) else (some false)))) else (some false)) = some r := H
        have A14 := Aside0.mk A140
        clear A140
        by_cases c15 : ((Op.bytesLess t168.toList t176.toList) == (decide (t171 < t172))) = true
        · rw [if_pos c15] at H
          have c15b0 : ((Op.bytesLess t168.toList t176.toList) == (decide (t171 < t172))) = true := c15
          (try (have c15b1 : decide ((Op.bytesLess t168.toList t176.toList) = (decide (t171 < t172))) = true := by simpa using c15))
          (try (have c15b2 : ((Op.bytesLess t168.toList t176.toList) == (decide (t171 < t172))) = true := by simpa using c15))
          clear c15
          replace H := Option.bind_eq_some_iff.mp H
          obtain ⟨t177, A160, H⟩ := H
          replace H : ((key_Of.f k (Int.toNat a1)).bind fun t178 => (if ((t177.toList == t178.toList) == (t171 == t172)) = true then ((key_Of.f k (Int.toNat a0)).bind fun t179 => ((key_May.f t179).bind fun t180 => (some t180))) else (some false))) = some r := H
          have A16 := Aside0.mk A160
          clear A160
          have EA16 := Option.some.inj (A5.out.symm.trans A16.out)
          subst EA16
          replace H := Option.bind_eq_some_iff.mp H
          obtain ⟨t178, A170, H⟩ := H
          replace H : (if ((t168.toList == t178.toList) == (t171 == t172)) = true then ((key_Of.f k (Int.toNat a0)).bind fun t179 => ((key_May.f t179).bind fun t180 => (some t180))) else (some false)) = some r := H
          have A17 := Aside0.mk A170
          clear A170
          have EA17 := Option.some.inj (A14.out.symm.trans A17.out)
          subst EA17
          by_cases c18 : ((t168.toList == t176.toList) == (t171 == t172)) = true
          · rw [if_pos c18] at H
            have c18b0 : ((t168.toList == t176.toList) == (t171 == t172)) = true := c18
            (try (have c18b1 : decide ((t168.toList == t176.toList) = (t171 == t172)) = true := by simpa using c18))
            (try (have c18b2 : ((t168.toList == t176.toList) == (t171 == t172)) = true := by simpa using c18))
            clear c18
            replace H := Option.bind_eq_some_iff.mp H
            obtain ⟨t179, A190, H⟩ := H
            replace H : ((key_May.f t179).bind fun t180 => (some t180)) = some r := H
            have A19 := Aside0.mk A190
            clear A190
            have EA19 := Option.some.inj (A5.out.symm.trans A19.out)
            subst EA19
            replace H := Option.bind_eq_some_iff.mp H
            obtain ⟨t180, A200, H⟩ := H
            replace H : (some t180) = some r := H
            have A20 := Aside0.mk A200
            clear A200
            obtain rfl := Option.some.inj H
            go_enter Try.func4, Try.ntmps4
            go_wp2_with (first | ((with_reducible refine gate_callee (f := 10) rfl ?_); refine goesL_ (some 12) rfl rfl Try.func10 (by kernel_rfl) rfl #[] rfl (by (try simp only [List.map_toArray, List.map_cons, List.map_nil]); first | done | rfl | (simp only [List.length_drop, List.length_take]; rfl)) ?_; (with_reducible refine (engrosslaw5_begun.calls k  true _ A3.out).mono ?_); rintro e w21 ⟨rfl, hb⟩; refine ⟨_, rfl, ?_⟩; have n0_ := Aside0.mk (below_step (by repeat (first | (with_reducible first | exact HB.out | apply below_alloc | apply pw_below_drewN | apply below_drew1) | exact HB.out)) hb); clear HB; have HB := n0_; clear n0_; (try clear hb); (try clear hb2); (try clear hk); (try clear hi)) | ((with_reducible refine gate_callee (f := 20) rfl ?_); refine goesL_ (some 21) rfl rfl Try.func20 (by kernel_rfl) rfl #[.float .f64 (Int.toNat a0)] rfl (by (try simp only [List.map_toArray, List.map_cons, List.map_nil]); first | done | rfl | (simp only [List.length_drop, List.length_take]; rfl)) ?_; (with_reducible refine (key_Of.calls k (Int.toNat a0) t168 _ A5.out).mono ?_); rintro e w22 ⟨rfl, hb⟩; refine ⟨_, rfl, ?_⟩; have n0_ := Aside0.mk (below_step (by repeat (first | (with_reducible first | exact HB.out | apply below_alloc | apply pw_below_drewN | apply below_drew1) | exact HB.out)) hb); clear HB; have HB := n0_; clear n0_; (try clear hb); (try clear hb2); (try clear hk); (try clear hi)) | ((with_reducible refine gate_callee (f := 12) rfl ?_); refine goesL_ (some 22) rfl rfl Try.func12 (by kernel_rfl) rfl #[.string t168] rfl (by (try simp only [List.map_toArray, List.map_cons, List.map_nil]); first | done | rfl | (simp only [List.length_drop, List.length_take]; rfl)) ?_; (with_reducible refine (key_Float.calls k t168 t169 true _ A6.out).mono ?_); rintro e w23 ⟨rfl, hb⟩; refine ⟨_, rfl, ?_⟩; have n0_ := Aside0.mk (below_step (by repeat (first | (with_reducible first | exact HB.out | apply below_alloc | apply pw_below_drewN | apply below_drew1) | exact HB.out)) hb); clear HB; have HB := n0_; clear n0_; (try clear hb); (try clear hb2); (try clear hk); (try clear hi)) | ((with_reducible refine gate_callee (f := 21) rfl ?_); refine goesL_ (some 26) rfl rfl Try.func21 (by kernel_rfl) rfl #[.float .f64 (Int.toNat a0)] rfl (by (try simp only [List.map_toArray, List.map_cons, List.map_nil]); first | done | rfl | (simp only [List.length_drop, List.length_take]; rfl)) ?_; (with_reducible refine (engrossref1_Place.calls (Int.toNat a0) t171 _ A7.out).mono ?_); rintro e w' ⟨rfl, ⟨nd, rfl⟩⟩; refine ⟨_, rfl, ?_⟩) | ((with_reducible refine gate_callee (f := 21) rfl ?_); refine goesL_ (some 28) rfl rfl Try.func21 (by kernel_rfl) rfl #[.float .f64 (Int.toNat a1)] rfl (by (try simp only [List.map_toArray, List.map_cons, List.map_nil]); first | done | rfl | (simp only [List.length_drop, List.length_take]; rfl)) ?_; (with_reducible refine (engrossref1_Place.calls (Int.toNat a1) t172 _ A8.out).mono ?_); rintro e w' ⟨rfl, ⟨nd, rfl⟩⟩; refine ⟨_, rfl, ?_⟩) | (go_at_call 22; (with_reducible refine (engrossref1_Clean.calls (Int.toNat a0) t173 _ A10.out).mono ?_); rintro e w' ⟨rfl, ⟨nd, rfl⟩⟩) | (go_at_call 14; (with_reducible refine (engrossref1_Bits.calls t169 t173 true _ A11.out).mono ?_); rintro e w' ⟨rfl, ⟨nd, rfl⟩⟩) | (go_at_call 20; (with_reducible refine (key_Of.calls k (Int.toNat a0) t168 _ A13.out).mono ?_); rintro e w24 ⟨rfl, hb⟩; have n0_ := Aside0.mk (below_step (by repeat (first | (with_reducible first | exact HB.out | apply below_alloc | apply pw_below_drewN | apply below_drew1) | exact HB.out)) hb); clear HB; have HB := n0_; clear n0_; (try clear hb); (try clear hb2); (try clear hk); (try clear hi)) | (go_at_call 20; (with_reducible refine (key_Of.calls k (Int.toNat a1) t176 _ A14.out).mono ?_); rintro e w25 ⟨rfl, hb⟩; have n0_ := Aside0.mk (below_step (by repeat (first | (with_reducible first | exact HB.out | apply below_alloc | apply pw_below_drewN | apply below_drew1) | exact HB.out)) hb); clear HB; have HB := n0_; clear n0_; (try clear hb); (try clear hb2); (try clear hk); (try clear hi)) | (go_at_call 20; (with_reducible refine (key_Of.calls k (Int.toNat a0) t168 _ A16.out).mono ?_); rintro e w26 ⟨rfl, hb⟩; have n0_ := Aside0.mk (below_step (by repeat (first | (with_reducible first | exact HB.out | apply below_alloc | apply pw_below_drewN | apply below_drew1) | exact HB.out)) hb); clear HB; have HB := n0_; clear n0_; (try clear hb); (try clear hb2); (try clear hk); (try clear hi)) | (go_at_call 20; (with_reducible refine (key_Of.calls k (Int.toNat a1) t176 _ A17.out).mono ?_); rintro e w27 ⟨rfl, hb⟩; have n0_ := Aside0.mk (below_step (by repeat (first | (with_reducible first | exact HB.out | apply below_alloc | apply pw_below_drewN | apply below_drew1) | exact HB.out)) hb); clear HB; have HB := n0_; clear n0_; (try clear hb); (try clear hb2); (try clear hk); (try clear hi)) | (go_at_call 20; (with_reducible refine (key_Of.calls k (Int.toNat a0) t168 _ A19.out).mono ?_); rintro e w28 ⟨rfl, hb⟩; have n0_ := Aside0.mk (below_step (by repeat (first | (with_reducible first | exact HB.out | apply below_alloc | apply pw_below_drewN | apply below_drew1) | exact HB.out)) hb); clear HB; have HB := n0_; clear n0_; (try clear hb); (try clear hb2); (try clear hk); (try clear hi)) | (go_at_call 15; (with_reducible refine (key_May.calls t168 t180 _ A20.out).mono ?_); rintro e w' ⟨rfl, ⟨nd, rfl⟩⟩))
            go_ret
            exact ⟨by first | rfl | (simp [errW_none, errW_some] <;> rfl) | (simp [*, errW_none, errW_some] <;> rfl), by repeat (first | (with_reducible first | exact HB.out | apply below_alloc | apply pw_below_drewN | apply below_drew1) | exact HB.out)⟩
          · rw [if_neg c18] at H
            have c18b0 : ((t168.toList == t176.toList) == (t171 == t172)) = false := by simpa using c18
            (try (have c18b1 : decide ((t168.toList == t176.toList) = (t171 == t172)) = false := by simpa using c18))
            (try (have c18b2 : ((t168.toList == t176.toList) == (t171 == t172)) = false := by simpa using c18))
            (try (have c18b3 : ¬ ((t168.toList == t176.toList) = (t171 == t172)) := by simpa using c18))
            clear c18
            obtain rfl := Option.some.inj H
            go_enter Try.func4, Try.ntmps4
            go_wp2_with (first | ((with_reducible refine gate_callee (f := 10) rfl ?_); refine goesL_ (some 12) rfl rfl Try.func10 (by kernel_rfl) rfl #[] rfl (by (try simp only [List.map_toArray, List.map_cons, List.map_nil]); first | done | rfl | (simp only [List.length_drop, List.length_take]; rfl)) ?_; (with_reducible refine (engrosslaw5_begun.calls k  true _ A3.out).mono ?_); rintro e w29 ⟨rfl, hb⟩; refine ⟨_, rfl, ?_⟩; have n0_ := Aside0.mk (below_step (by repeat (first | (with_reducible first | exact HB.out | apply below_alloc | apply pw_below_drewN | apply below_drew1) | exact HB.out)) hb); clear HB; have HB := n0_; clear n0_; (try clear hb); (try clear hb2); (try clear hk); (try clear hi)) | ((with_reducible refine gate_callee (f := 20) rfl ?_); refine goesL_ (some 21) rfl rfl Try.func20 (by kernel_rfl) rfl #[.float .f64 (Int.toNat a0)] rfl (by (try simp only [List.map_toArray, List.map_cons, List.map_nil]); first | done | rfl | (simp only [List.length_drop, List.length_take]; rfl)) ?_; (with_reducible refine (key_Of.calls k (Int.toNat a0) t168 _ A5.out).mono ?_); rintro e w30 ⟨rfl, hb⟩; refine ⟨_, rfl, ?_⟩; have n0_ := Aside0.mk (below_step (by repeat (first | (with_reducible first | exact HB.out | apply below_alloc | apply pw_below_drewN | apply below_drew1) | exact HB.out)) hb); clear HB; have HB := n0_; clear n0_; (try clear hb); (try clear hb2); (try clear hk); (try clear hi)) | ((with_reducible refine gate_callee (f := 12) rfl ?_); refine goesL_ (some 22) rfl rfl Try.func12 (by kernel_rfl) rfl #[.string t168] rfl (by (try simp only [List.map_toArray, List.map_cons, List.map_nil]); first | done | rfl | (simp only [List.length_drop, List.length_take]; rfl)) ?_; (with_reducible refine (key_Float.calls k t168 t169 true _ A6.out).mono ?_); rintro e w31 ⟨rfl, hb⟩; refine ⟨_, rfl, ?_⟩; have n0_ := Aside0.mk (below_step (by repeat (first | (with_reducible first | exact HB.out | apply below_alloc | apply pw_below_drewN | apply below_drew1) | exact HB.out)) hb); clear HB; have HB := n0_; clear n0_; (try clear hb); (try clear hb2); (try clear hk); (try clear hi)) | ((with_reducible refine gate_callee (f := 21) rfl ?_); refine goesL_ (some 26) rfl rfl Try.func21 (by kernel_rfl) rfl #[.float .f64 (Int.toNat a0)] rfl (by (try simp only [List.map_toArray, List.map_cons, List.map_nil]); first | done | rfl | (simp only [List.length_drop, List.length_take]; rfl)) ?_; (with_reducible refine (engrossref1_Place.calls (Int.toNat a0) t171 _ A7.out).mono ?_); rintro e w' ⟨rfl, ⟨nd, rfl⟩⟩; refine ⟨_, rfl, ?_⟩) | ((with_reducible refine gate_callee (f := 21) rfl ?_); refine goesL_ (some 28) rfl rfl Try.func21 (by kernel_rfl) rfl #[.float .f64 (Int.toNat a1)] rfl (by (try simp only [List.map_toArray, List.map_cons, List.map_nil]); first | done | rfl | (simp only [List.length_drop, List.length_take]; rfl)) ?_; (with_reducible refine (engrossref1_Place.calls (Int.toNat a1) t172 _ A8.out).mono ?_); rintro e w' ⟨rfl, ⟨nd, rfl⟩⟩; refine ⟨_, rfl, ?_⟩) | (go_at_call 22; (with_reducible refine (engrossref1_Clean.calls (Int.toNat a0) t173 _ A10.out).mono ?_); rintro e w' ⟨rfl, ⟨nd, rfl⟩⟩) | (go_at_call 14; (with_reducible refine (engrossref1_Bits.calls t169 t173 true _ A11.out).mono ?_); rintro e w' ⟨rfl, ⟨nd, rfl⟩⟩) | (go_at_call 20; (with_reducible refine (key_Of.calls k (Int.toNat a0) t168 _ A13.out).mono ?_); rintro e w32 ⟨rfl, hb⟩; have n0_ := Aside0.mk (below_step (by repeat (first | (with_reducible first | exact HB.out | apply below_alloc | apply pw_below_drewN | apply below_drew1) | exact HB.out)) hb); clear HB; have HB := n0_; clear n0_; (try clear hb); (try clear hb2); (try clear hk); (try clear hi)) | (go_at_call 20; (with_reducible refine (key_Of.calls k (Int.toNat a1) t176 _ A14.out).mono ?_); rintro e w33 ⟨rfl, hb⟩; have n0_ := Aside0.mk (below_step (by repeat (first | (with_reducible first | exact HB.out | apply below_alloc | apply pw_below_drewN | apply below_drew1) | exact HB.out)) hb); clear HB; have HB := n0_; clear n0_; (try clear hb); (try clear hb2); (try clear hk); (try clear hi)) | (go_at_call 20; (with_reducible refine (key_Of.calls k (Int.toNat a0) t168 _ A16.out).mono ?_); rintro e w34 ⟨rfl, hb⟩; have n0_ := Aside0.mk (below_step (by repeat (first | (with_reducible first | exact HB.out | apply below_alloc | apply pw_below_drewN | apply below_drew1) | exact HB.out)) hb); clear HB; have HB := n0_; clear n0_; (try clear hb); (try clear hb2); (try clear hk); (try clear hi)) | (go_at_call 20; (with_reducible refine (key_Of.calls k (Int.toNat a1) t176 _ A17.out).mono ?_); rintro e w35 ⟨rfl, hb⟩; have n0_ := Aside0.mk (below_step (by repeat (first | (with_reducible first | exact HB.out | apply below_alloc | apply pw_below_drewN | apply below_drew1) | exact HB.out)) hb); clear HB; have HB := n0_; clear n0_; (try clear hb); (try clear hb2); (try clear hk); (try clear hi)))
            go_ret
            exact ⟨by first | rfl | (simp [errW_none, errW_some] <;> rfl) | (simp [*, errW_none, errW_some] <;> rfl), by repeat (first | (with_reducible first | exact HB.out | apply below_alloc | apply pw_below_drewN | apply below_drew1) | exact HB.out)⟩
        · rw [if_neg c15] at H
          have c15b0 : ((Op.bytesLess t168.toList t176.toList) == (decide (t171 < t172))) = false := by simpa using c15
          (try (have c15b1 : decide ((Op.bytesLess t168.toList t176.toList) = (decide (t171 < t172))) = false := by simpa using c15))
          (try (have c15b2 : ((Op.bytesLess t168.toList t176.toList) == (decide (t171 < t172))) = false := by simpa using c15))
          (try (have c15b3 : ¬ ((Op.bytesLess t168.toList t176.toList) = (decide (t171 < t172))) := by simpa using c15))
          clear c15
          obtain rfl := Option.some.inj H
          go_enter Try.func4, Try.ntmps4
          go_wp2_with (first | ((with_reducible refine gate_callee (f := 10) rfl ?_); refine goesL_ (some 12) rfl rfl Try.func10 (by kernel_rfl) rfl #[] rfl (by (try simp only [List.map_toArray, List.map_cons, List.map_nil]); first | done | rfl | (simp only [List.length_drop, List.length_take]; rfl)) ?_; (with_reducible refine (engrosslaw5_begun.calls k  true _ A3.out).mono ?_); rintro e w36 ⟨rfl, hb⟩; refine ⟨_, rfl, ?_⟩; have n0_ := Aside0.mk (below_step (by repeat (first | (with_reducible first | exact HB.out | apply below_alloc | apply pw_below_drewN | apply below_drew1) | exact HB.out)) hb); clear HB; have HB := n0_; clear n0_; (try clear hb); (try clear hb2); (try clear hk); (try clear hi)) | ((with_reducible refine gate_callee (f := 20) rfl ?_); refine goesL_ (some 21) rfl rfl Try.func20 (by kernel_rfl) rfl #[.float .f64 (Int.toNat a0)] rfl (by (try simp only [List.map_toArray, List.map_cons, List.map_nil]); first | done | rfl | (simp only [List.length_drop, List.length_take]; rfl)) ?_; (with_reducible refine (key_Of.calls k (Int.toNat a0) t168 _ A5.out).mono ?_); rintro e w37 ⟨rfl, hb⟩; refine ⟨_, rfl, ?_⟩; have n0_ := Aside0.mk (below_step (by repeat (first | (with_reducible first | exact HB.out | apply below_alloc | apply pw_below_drewN | apply below_drew1) | exact HB.out)) hb); clear HB; have HB := n0_; clear n0_; (try clear hb); (try clear hb2); (try clear hk); (try clear hi)) | ((with_reducible refine gate_callee (f := 12) rfl ?_); refine goesL_ (some 22) rfl rfl Try.func12 (by kernel_rfl) rfl #[.string t168] rfl (by (try simp only [List.map_toArray, List.map_cons, List.map_nil]); first | done | rfl | (simp only [List.length_drop, List.length_take]; rfl)) ?_; (with_reducible refine (key_Float.calls k t168 t169 true _ A6.out).mono ?_); rintro e w38 ⟨rfl, hb⟩; refine ⟨_, rfl, ?_⟩; have n0_ := Aside0.mk (below_step (by repeat (first | (with_reducible first | exact HB.out | apply below_alloc | apply pw_below_drewN | apply below_drew1) | exact HB.out)) hb); clear HB; have HB := n0_; clear n0_; (try clear hb); (try clear hb2); (try clear hk); (try clear hi)) | ((with_reducible refine gate_callee (f := 21) rfl ?_); refine goesL_ (some 26) rfl rfl Try.func21 (by kernel_rfl) rfl #[.float .f64 (Int.toNat a0)] rfl (by (try simp only [List.map_toArray, List.map_cons, List.map_nil]); first | done | rfl | (simp only [List.length_drop, List.length_take]; rfl)) ?_; (with_reducible refine (engrossref1_Place.calls (Int.toNat a0) t171 _ A7.out).mono ?_); rintro e w' ⟨rfl, ⟨nd, rfl⟩⟩; refine ⟨_, rfl, ?_⟩) | ((with_reducible refine gate_callee (f := 21) rfl ?_); refine goesL_ (some 28) rfl rfl Try.func21 (by kernel_rfl) rfl #[.float .f64 (Int.toNat a1)] rfl (by (try simp only [List.map_toArray, List.map_cons, List.map_nil]); first | done | rfl | (simp only [List.length_drop, List.length_take]; rfl)) ?_; (with_reducible refine (engrossref1_Place.calls (Int.toNat a1) t172 _ A8.out).mono ?_); rintro e w' ⟨rfl, ⟨nd, rfl⟩⟩; refine ⟨_, rfl, ?_⟩) | (go_at_call 22; (with_reducible refine (engrossref1_Clean.calls (Int.toNat a0) t173 _ A10.out).mono ?_); rintro e w' ⟨rfl, ⟨nd, rfl⟩⟩) | (go_at_call 14; (with_reducible refine (engrossref1_Bits.calls t169 t173 true _ A11.out).mono ?_); rintro e w' ⟨rfl, ⟨nd, rfl⟩⟩) | (go_at_call 20; (with_reducible refine (key_Of.calls k (Int.toNat a0) t168 _ A13.out).mono ?_); rintro e w39 ⟨rfl, hb⟩; have n0_ := Aside0.mk (below_step (by repeat (first | (with_reducible first | exact HB.out | apply below_alloc | apply pw_below_drewN | apply below_drew1) | exact HB.out)) hb); clear HB; have HB := n0_; clear n0_; (try clear hb); (try clear hb2); (try clear hk); (try clear hi)) | (go_at_call 20; (with_reducible refine (key_Of.calls k (Int.toNat a1) t176 _ A14.out).mono ?_); rintro e w40 ⟨rfl, hb⟩; have n0_ := Aside0.mk (below_step (by repeat (first | (with_reducible first | exact HB.out | apply below_alloc | apply pw_below_drewN | apply below_drew1) | exact HB.out)) hb); clear HB; have HB := n0_; clear n0_; (try clear hb); (try clear hb2); (try clear hk); (try clear hi)))
          go_ret
          exact ⟨by first | rfl | (simp [errW_none, errW_some] <;> rfl) | (simp [*, errW_none, errW_some] <;> rfl), by repeat (first | (with_reducible first | exact HB.out | apply below_alloc | apply pw_below_drewN | apply below_drew1) | exact HB.out)⟩
      · replace c12 := Bool.eq_false_iff.mpr c12
        subst c12
        have H1 : (some false) = some r := by rw [if_neg (show ¬ (false = true) by decide)] at H; exact H
        clear H
        have H := H1
        clear H1
        obtain rfl := Option.some.inj H
        go_enter Try.func4, Try.ntmps4
        go_wp2_with (first | ((with_reducible refine gate_callee (f := 10) rfl ?_); refine goesL_ (some 12) rfl rfl Try.func10 (by kernel_rfl) rfl #[] rfl (by (try simp only [List.map_toArray, List.map_cons, List.map_nil]); first | done | rfl | (simp only [List.length_drop, List.length_take]; rfl)) ?_; (with_reducible refine (engrosslaw5_begun.calls k  true _ A3.out).mono ?_); rintro e w41 ⟨rfl, hb⟩; refine ⟨_, rfl, ?_⟩; have n0_ := Aside0.mk (below_step (by repeat (first | (with_reducible first | exact HB.out | apply below_alloc | apply pw_below_drewN | apply below_drew1) | exact HB.out)) hb); clear HB; have HB := n0_; clear n0_; (try clear hb); (try clear hb2); (try clear hk); (try clear hi)) | ((with_reducible refine gate_callee (f := 20) rfl ?_); refine goesL_ (some 21) rfl rfl Try.func20 (by kernel_rfl) rfl #[.float .f64 (Int.toNat a0)] rfl (by (try simp only [List.map_toArray, List.map_cons, List.map_nil]); first | done | rfl | (simp only [List.length_drop, List.length_take]; rfl)) ?_; (with_reducible refine (key_Of.calls k (Int.toNat a0) t168 _ A5.out).mono ?_); rintro e w42 ⟨rfl, hb⟩; refine ⟨_, rfl, ?_⟩; have n0_ := Aside0.mk (below_step (by repeat (first | (with_reducible first | exact HB.out | apply below_alloc | apply pw_below_drewN | apply below_drew1) | exact HB.out)) hb); clear HB; have HB := n0_; clear n0_; (try clear hb); (try clear hb2); (try clear hk); (try clear hi)) | ((with_reducible refine gate_callee (f := 12) rfl ?_); refine goesL_ (some 22) rfl rfl Try.func12 (by kernel_rfl) rfl #[.string t168] rfl (by (try simp only [List.map_toArray, List.map_cons, List.map_nil]); first | done | rfl | (simp only [List.length_drop, List.length_take]; rfl)) ?_; (with_reducible refine (key_Float.calls k t168 t169 true _ A6.out).mono ?_); rintro e w43 ⟨rfl, hb⟩; refine ⟨_, rfl, ?_⟩; have n0_ := Aside0.mk (below_step (by repeat (first | (with_reducible first | exact HB.out | apply below_alloc | apply pw_below_drewN | apply below_drew1) | exact HB.out)) hb); clear HB; have HB := n0_; clear n0_; (try clear hb); (try clear hb2); (try clear hk); (try clear hi)) | ((with_reducible refine gate_callee (f := 21) rfl ?_); refine goesL_ (some 26) rfl rfl Try.func21 (by kernel_rfl) rfl #[.float .f64 (Int.toNat a0)] rfl (by (try simp only [List.map_toArray, List.map_cons, List.map_nil]); first | done | rfl | (simp only [List.length_drop, List.length_take]; rfl)) ?_; (with_reducible refine (engrossref1_Place.calls (Int.toNat a0) t171 _ A7.out).mono ?_); rintro e w' ⟨rfl, ⟨nd, rfl⟩⟩; refine ⟨_, rfl, ?_⟩) | ((with_reducible refine gate_callee (f := 21) rfl ?_); refine goesL_ (some 28) rfl rfl Try.func21 (by kernel_rfl) rfl #[.float .f64 (Int.toNat a1)] rfl (by (try simp only [List.map_toArray, List.map_cons, List.map_nil]); first | done | rfl | (simp only [List.length_drop, List.length_take]; rfl)) ?_; (with_reducible refine (engrossref1_Place.calls (Int.toNat a1) t172 _ A8.out).mono ?_); rintro e w' ⟨rfl, ⟨nd, rfl⟩⟩; refine ⟨_, rfl, ?_⟩) | (go_at_call 22; (with_reducible refine (engrossref1_Clean.calls (Int.toNat a0) t173 _ A10.out).mono ?_); rintro e w' ⟨rfl, ⟨nd, rfl⟩⟩) | (go_at_call 14; (with_reducible refine (engrossref1_Bits.calls t169 t173 false _ A11.out).mono ?_); rintro e w' ⟨rfl, ⟨nd, rfl⟩⟩))
        go_ret
        exact ⟨by first | rfl | (simp [errW_none, errW_some] <;> rfl) | (simp [*, errW_none, errW_some] <;> rfl), by repeat (first | (with_reducible first | exact HB.out | apply below_alloc | apply pw_below_drewN | apply below_drew1) | exact HB.out)⟩
    · replace c9 := Bool.eq_false_iff.mpr c9
      subst c9
      have H1 : (some false) = some r := by rw [if_neg (show ¬ (false = true) by decide)] at H; exact H
      clear H
      have H := H1
      clear H1
      obtain rfl := Option.some.inj H
      go_enter Try.func4, Try.ntmps4
      go_wp2_with (first | ((with_reducible refine gate_callee (f := 10) rfl ?_); refine goesL_ (some 12) rfl rfl Try.func10 (by kernel_rfl) rfl #[] rfl (by (try simp only [List.map_toArray, List.map_cons, List.map_nil]); first | done | rfl | (simp only [List.length_drop, List.length_take]; rfl)) ?_; (with_reducible refine (engrosslaw5_begun.calls k  true _ A3.out).mono ?_); rintro e w44 ⟨rfl, hb⟩; refine ⟨_, rfl, ?_⟩; have n0_ := Aside0.mk (below_step (by repeat (first | (with_reducible first | exact HB.out | apply below_alloc | apply pw_below_drewN | apply below_drew1) | exact HB.out)) hb); clear HB; have HB := n0_; clear n0_; (try clear hb); (try clear hb2); (try clear hk); (try clear hi)) | ((with_reducible refine gate_callee (f := 20) rfl ?_); refine goesL_ (some 21) rfl rfl Try.func20 (by kernel_rfl) rfl #[.float .f64 (Int.toNat a0)] rfl (by (try simp only [List.map_toArray, List.map_cons, List.map_nil]); first | done | rfl | (simp only [List.length_drop, List.length_take]; rfl)) ?_; (with_reducible refine (key_Of.calls k (Int.toNat a0) t168 _ A5.out).mono ?_); rintro e w45 ⟨rfl, hb⟩; refine ⟨_, rfl, ?_⟩; have n0_ := Aside0.mk (below_step (by repeat (first | (with_reducible first | exact HB.out | apply below_alloc | apply pw_below_drewN | apply below_drew1) | exact HB.out)) hb); clear HB; have HB := n0_; clear n0_; (try clear hb); (try clear hb2); (try clear hk); (try clear hi)) | ((with_reducible refine gate_callee (f := 12) rfl ?_); refine goesL_ (some 22) rfl rfl Try.func12 (by kernel_rfl) rfl #[.string t168] rfl (by (try simp only [List.map_toArray, List.map_cons, List.map_nil]); first | done | rfl | (simp only [List.length_drop, List.length_take]; rfl)) ?_; (with_reducible refine (key_Float.calls k t168 t169 false _ A6.out).mono ?_); rintro e w46 ⟨rfl, hb⟩; refine ⟨_, rfl, ?_⟩; have n0_ := Aside0.mk (below_step (by repeat (first | (with_reducible first | exact HB.out | apply below_alloc | apply pw_below_drewN | apply below_drew1) | exact HB.out)) hb); clear HB; have HB := n0_; clear n0_; (try clear hb); (try clear hb2); (try clear hk); (try clear hi)) | ((with_reducible refine gate_callee (f := 21) rfl ?_); refine goesL_ (some 26) rfl rfl Try.func21 (by kernel_rfl) rfl #[.float .f64 (Int.toNat a0)] rfl (by (try simp only [List.map_toArray, List.map_cons, List.map_nil]); first | done | rfl | (simp only [List.length_drop, List.length_take]; rfl)) ?_; (with_reducible refine (engrossref1_Place.calls (Int.toNat a0) t171 _ A7.out).mono ?_); rintro e w' ⟨rfl, ⟨nd, rfl⟩⟩; refine ⟨_, rfl, ?_⟩) | ((with_reducible refine gate_callee (f := 21) rfl ?_); refine goesL_ (some 28) rfl rfl Try.func21 (by kernel_rfl) rfl #[.float .f64 (Int.toNat a1)] rfl (by (try simp only [List.map_toArray, List.map_cons, List.map_nil]); first | done | rfl | (simp only [List.length_drop, List.length_take]; rfl)) ?_; (with_reducible refine (engrossref1_Place.calls (Int.toNat a1) t172 _ A8.out).mono ?_); rintro e w' ⟨rfl, ⟨nd, rfl⟩⟩; refine ⟨_, rfl, ?_⟩))
      go_ret
      exact ⟨by first | rfl | (simp [errW_none, errW_some] <;> rfl) | (simp [*, errW_none, errW_some] <;> rfl), by repeat (first | (with_reducible first | exact HB.out | apply below_alloc | apply pw_below_drewN | apply below_drew1) | exact HB.out)⟩
  · replace c4 := Bool.eq_false_iff.mpr c4
    subst c4
    have H1 : (some false) = some r := by rw [if_neg (show ¬ (false = true) by decide)] at H; exact H
    clear H
    have H := H1
    clear H1
    obtain rfl := Option.some.inj H
    go_enter Try.func4, Try.ntmps4
    go_wp2_with (first | ((with_reducible refine gate_callee (f := 10) rfl ?_); refine goesL_ (some 12) rfl rfl Try.func10 (by kernel_rfl) rfl #[] rfl (by (try simp only [List.map_toArray, List.map_cons, List.map_nil]); first | done | rfl | (simp only [List.length_drop, List.length_take]; rfl)) ?_; (with_reducible refine (engrosslaw5_begun.calls k  false _ A3.out).mono ?_); rintro e w47 ⟨rfl, hb⟩; refine ⟨_, rfl, ?_⟩; have n0_ := Aside0.mk (below_step (by repeat (first | (with_reducible first | exact HB.out | apply below_alloc | apply pw_below_drewN | apply below_drew1) | exact HB.out)) hb); clear HB; have HB := n0_; clear n0_; (try clear hb); (try clear hb2); (try clear hk); (try clear hi)))
    go_ret
    exact ⟨by first | rfl | (simp [errW_none, errW_some] <;> rfl) | (simp [*, errW_none, errW_some] <;> rfl), by repeat (first | (with_reducible first | exact HB.out | apply below_alloc | apply pw_below_drewN | apply below_drew1) | exact HB.out)⟩

/-- THE ONE PURE STATEMENT of engrosslaw5_KeyFloats: yours. -/
def engrosslaw5_KeyFloats.Pure : Prop := ∀ (a0 : Int) (a1 : Int), (Lit.int .u64 a0).wf = true → (Lit.int .u64 a1).wf = true → ∃ k, engrosslaw5_KeyFloats.f k a0 a1 = some true
theorem engrosslaw5_KeyFloats.walk (P : engrosslaw5_KeyFloats.Pure) (a0 : Int) (a1 : Int) (w : World) (w0 : (Lit.int .u64 a0).wf = true) (w1 : (Lit.int .u64 a1).wf = true) :
    Calls Try.prog 4 #[.int .u64 a0, .int .u64 a1] w fun e w' => e = .returned (.bool true) ∧ Below w.heap.size w w' := by
  obtain ⟨k, h⟩ := P a0 a1 w0 w1
  refine (engrosslaw5_KeyFloats.calls k a0 a1 true w h).mono ?_
  rintro e w' ⟨rfl, hd⟩
  exact ⟨rfl, hd⟩

/-! ### engrossref1_Mid: function 24 -/
mutual
def engrossref1_Mid.l0 : Nat → ByteArray → ByteArray → Int → Option (ByteArray)
  | 0, _, _, _ => none
  | k + 1, x0, x1, x5 => if (Op.bytesLess x0.toList x1.toList) = true then (engrossref1_Mid.j1 k x0 x1 x5 (decide (x5 ≤ (x1.size : Int)))) else (engrossref1_Mid.j1 k x0 x1 x5 false)
def engrossref1_Mid.j1 : Nat → ByteArray → ByteArray → Int → Bool → Option (ByteArray)
  | 0, _, _, _, _ => none
  | k + 1, x0, x1, x5, x14 => if x14 = true then (if 0 ≤ x5 then (if x5 ≤ (x1.size : Int) then (if (Op.bytesLess x0.toList ((x1.extract 0 (x5 : Int).toNat).toList)) = true then (some (x1.extract 0 (x5 : Int).toNat)) else (engrossref1_Mid.l0 k x0 x1 (wrap64 (x5 + 1)))) else (none)) else (none)) else (some (⟨#[]⟩ : ByteArray))
end
def engrossref1_Mid.f (k : Nat) (a0 : ByteArray) (a1 : ByteArray) : Option (ByteArray) := engrossref1_Mid.l0 k a0 a1 1
theorem engrossref1_Mid.mono_l : ∀ k, (∀ y0 y1 y2, LeO (engrossref1_Mid.l0 k y0 y1 y2) (engrossref1_Mid.l0 (k + 1) y0 y1 y2)) ∧ (∀ y0 y1 y2 y3, LeO (engrossref1_Mid.j1 k y0 y1 y2 y3) (engrossref1_Mid.j1 (k + 1) y0 y1 y2 y3))
  | 0 => ⟨fun _ _ _ r h => by simp [engrossref1_Mid.l0] at h, fun _ _ _ _ r h => by simp [engrossref1_Mid.j1] at h⟩
  | k + 1 => by
    obtain ⟨ih0, ih1⟩ := engrossref1_Mid.mono_l k
    refine ⟨?_, ?_⟩
    · intro y0 y1 y2
      unfold engrossref1_Mid.l0
      repeat' first
      | (with_reducible exact ih0 _ _ _)
      | (with_reducible exact ih1 _ _ _ _)
      | (with_reducible exact LeO.refl _)
      | (with_reducible exact LeO.none _)
      | (with_reducible refine LeO.ite ?_ ?_)
      | (with_reducible refine LeO.bind ?_ (fun _ => ?_))
      | exact ih0 _ _ _
      | exact ih1 _ _ _ _
      | exact LeO.none _
      | refine LeO.ite ?_ ?_
      | refine LeO.bind ?_ (fun _ => ?_)
    · intro y0 y1 y2 y3
      unfold engrossref1_Mid.j1
      repeat' first
      | (with_reducible exact ih0 _ _ _)
      | (with_reducible exact ih1 _ _ _ _)
      | (with_reducible exact LeO.refl _)
      | (with_reducible exact LeO.none _)
      | (with_reducible refine LeO.ite ?_ ?_)
      | (with_reducible refine LeO.bind ?_ (fun _ => ?_))
      | exact ih0 _ _ _
      | exact ih1 _ _ _ _
      | exact LeO.none _
      | refine LeO.ite ?_ ?_
      | refine LeO.bind ?_ (fun _ => ?_)
theorem engrossref1_Mid.mono : ∀ a0 a1 k, LeO (engrossref1_Mid.f k a0 a1) (engrossref1_Mid.f (k + 1) a0 a1) := by
  intro a0 a1 k
  obtain ⟨ih0, ih1⟩ := engrossref1_Mid.mono_l k
  unfold engrossref1_Mid.f
  repeat' first
      | (with_reducible exact ih0 _ _ _)
      | (with_reducible exact ih1 _ _ _ _)
      | (with_reducible exact LeO.refl _)
      | (with_reducible exact LeO.none _)
      | (with_reducible refine LeO.ite ?_ ?_)
      | (with_reducible refine LeO.bind ?_ (fun _ => ?_))
      | exact ih0 _ _ _
      | exact ih1 _ _ _ _
      | exact LeO.none _
      | refine LeO.ite ?_ ?_
      | refine LeO.bind ?_ (fun _ => ?_)
set_option maxHeartbeats 8000000 in
set_option maxRecDepth 100000 in
theorem engrossref1_Mid.calls (k : Nat) (a0 : ByteArray) (a1 : ByteArray) (r : ByteArray) (w : World) (h : engrossref1_Mid.f k a0 a1 = some r) :
    Calls Try.prog 24 #[.string a0, .string a1] w fun e w' => e = .returned (.string r) ∧ Drawn0 w w' := by
  have H : (engrossref1_Mid.l0 k a0 a1 1) = some r := h
  clear h
  have H' := Aside0.mk H
  clear H
  go_enter Try.func24, Try.ntmps24
  go_wp2
  go_loopg [5] k (fun kq v5 w' => ∃ (x5_1 : Int), v5 = .int .i64 x5_1 ∧ Aside0 (engrossref1_Mid.l0 kq a0 a1 x5_1 = some r) ∧ Aside0 (kq ≤ k) ∧ Drawn0 w w')
  case atStart => exact ⟨(1), (by first | rfl | (simp; done) | (simp [*]; done)), H', ⟨Nat.le_refl _⟩, by repeat (first | exact Drawn0.refl _ | apply Drawn0.step)⟩
  case round =>
    clear H'
    try clear c2
    try clear p2
    obtain ⟨x5_1, rfl, HA, HK1, ⟨m1, rfl⟩⟩ := hrel
    cases gk with
    | zero => exact absurd HA.out (by simp [engrossref1_Mid.l0])
    | succ k1 =>
      have H := HA.out
      clear HA
      simp only [engrossref1_Mid.l0] at H
      have HC3 := Aside0.mk H
      clear H
      go_upto_region 2 with (fail)
      go_cut [14] (fun v14 wc => ∃ (kq : Nat) (x14_2 : Bool), v14 = .bool x14_2 ∧ Aside0 (engrossref1_Mid.j1 kq a0 a1 x5_1 x14_2 = some r) ∧ Aside0 (kq ≤ k1) ∧ Drawn0 w wc)
      case first =>
        have H := HC3.out
        clear HC3
        by_cases c4 : (Op.bytesLess a0.toList a1.toList) = true
        · rw [if_pos c4] at H
          have c4b0 : (Op.bytesLess a0.toList a1.toList) = true := c4
          clear c4
          (first | rw [c4b0] | (simp only [i64_w, i32_w]; rw [c4b0]) | skip)
          have H' := Aside0.mk H
          clear H
          go_wp2
          go_meet
          case rel => exact ⟨_, (decide (x5_1 ≤ (a1.size : Int))), (by first | rfl | (simp; done) | (simp [*]; done)), H', ⟨by have := HK1.out; first | omega | exact Nat.le_refl _⟩, by repeat (first | exact Drawn0.refl _ | apply Drawn0.step)⟩
        · rw [if_neg c4] at H
          have c4b0 : (Op.bytesLess a0.toList a1.toList) = false := by simpa using c4
          clear c4
          (first | rw [c4b0] | (simp only [i64_w, i32_w]; rw [c4b0]) | skip)
          have H' := Aside0.mk H
          clear H
          go_wp2
          go_meet
          case rel => exact ⟨_, (false), (by first | rfl | (simp; done) | (simp [*]; done)), H', ⟨by have := HK1.out; first | omega | exact Nat.le_refl _⟩, by repeat (first | exact Drawn0.refl _ | apply Drawn0.step)⟩
      case rest =>
        clear HC3
        try clear c2
        try clear p2
        try clear c4
        try clear c4b0
        try clear p2
        obtain ⟨kq, x14_2, rfl, HA, HJ2, ⟨mc2, rfl⟩⟩ := hcut
        cases kq with
        | zero => exact absurd HA.out (by simp [engrossref1_Mid.j1])
        | succ kj2 =>
          have H := HA.out
          clear HA
          simp only [engrossref1_Mid.j1] at H
          by_cases c5 : x14_2 = true
          · subst c5
            have H1 : (if 0 ≤ x5_1 then (if x5_1 ≤ (a1.size : Int) then (if (Op.bytesLess a0.toList ((a1.extract 0 (x5_1 : Int).toNat).toList)) = true then (some (a1.extract 0 (x5_1 : Int).toNat)) else (engrossref1_Mid.l0 kj2 a0 a1 (wrap64 (x5_1 + 1)))) else (none)) else (none)) = some r := by rw [if_pos rfl] at H; exact H
            clear H
            have H := H1
            clear H1
            by_cases c6 : 0 ≤ x5_1
            · rw [if_pos c6] at H
              have c6b0 := eq_true c6
              have c6b1 : decide (0 ≤ x5_1) = true := decide_eq_true c6
              clear c6
              by_cases c7 : x5_1 ≤ (a1.size : Int)
              · rw [if_pos c7] at H
                have c7b0 := eq_true c7
                have c7b1 : decide (x5_1 ≤ (a1.size : Int)) = true := decide_eq_true c7
                clear c7
                by_cases c8 : (Op.bytesLess a0.toList ((a1.extract 0 (x5_1 : Int).toNat).toList)) = true
                · rw [if_pos c8] at H
                  have c8b0 : (Op.bytesLess a0.toList ((a1.extract 0 (x5_1 : Int).toNat).toList)) = true := c8
                  clear c8
                  have c9b0 := eq_true (of_decide_eq_true (by first | (with_reducible assumption) | assumption) : 0 ≤ x5_1)
                  have c10b0 := eq_true (of_decide_eq_true (by first | (with_reducible assumption) | assumption) : x5_1 ≤ (a1.size : Int))
                  obtain rfl := Option.some.inj H
                  go_wp2
                  go_ret
                  exact ⟨by first | rfl | (simp; done) | (simp [*]; done), by repeat (first | exact Drawn0.refl _ | apply Drawn0.step)⟩
                · rw [if_neg c8] at H
                  have c8b0 : (Op.bytesLess a0.toList ((a1.extract 0 (x5_1 : Int).toNat).toList)) = false := by simpa using c8
                  clear c8
                  have H' := Aside0.mk H
                  clear H
                  go_wp2
                  go_roundg kj2
                  case measure => have := HK1.out; have := HJ2.out; omega
                  case rel => exact ⟨(wrap64 (x5_1 + 1)), (by first | rfl | (simp; done) | (simp [*]; done)), H', ⟨by have := HK1.out; have := HJ2.out; omega⟩, by repeat (first | exact Drawn0.refl _ | apply Drawn0.step)⟩
              · rw [if_neg c7] at H
                exact absurd H (by simp)
            · rw [if_neg c6] at H
              exact absurd H (by simp)
          · replace c5 := Bool.eq_false_iff.mpr c5
            subst c5
            have H1 : (some (⟨#[]⟩ : ByteArray)) = some r := by rw [if_neg (show ¬ (false = true) by decide)] at H; exact H
            clear H
            have H := H1
            clear H1
            obtain rfl := Option.some.inj H
            go_wp2
            go_ret
            exact ⟨by first | rfl | (simp; done) | (simp [*]; done), by repeat (first | exact Drawn0.refl _ | apply Drawn0.step)⟩

end Go.Proofs.Ytoeiogailnfbkaa.P
