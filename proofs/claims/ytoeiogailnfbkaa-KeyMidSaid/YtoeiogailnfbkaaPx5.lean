/- Functions of the program as Lean functions, and that each call answers as its function does. No condition. (Lines written by a generator of this session.) -/
import Derived.Test.YtoeiogailnfbkaaPx0
import Derived.Test.YtoeiogailnfbkaaPx1
import Derived.Test.YtoeiogailnfbkaaPx2
import Derived.Test.YtoeiogailnfbkaaPx3
import Derived.Test.YtoeiogailnfbkaaPx4
namespace Go.Proofs.Ytoeiogailnfbkaa.P
open Go.RowKit Go.Proofs.YtoeiogailnfbkaaW.PrintWords Go.Proofs.YtoeiogailnfbkaaW.PrintLast Go.Proofs.YtoeiogailnfbkaaW.PrintMore
attribute [local go_sem] max2_int min2_int max_two min_two max_three min_three max_four min_four   -- for this text's walks alone
attribute [local go_sem] x_str_gtr x_str_leq x_str_geq ext_bits ext_frombits ext_neg
set_option linter.unusedVariables false
set_option linter.unusedSimpArgs false

/-! ### engrosslaw5_KeyMid: function 5 -/
def engrosslaw5_KeyMid.f (k : Nat) (a0 : ByteArray) (a1 : ByteArray) : Option (Bool) := (engrosslaw5_begun.f k).bind fun t181 => (if t181 = true then ((engrosslaw1_Cut.f a0 20).bind fun t182 => ((engrosslaw1_Cut.f a1 20).bind fun t183 => ((key_Mid.f k t182 t183).bind fun t184 => ((engrossref1_Mid.f k t182 t183).bind fun t185 => (if t184.toList = t185.toList then (if ((Op.bytesLess t182.toList t183.toList) = true) then (if (Op.bytesLess t182.toList t184.toList) = true then (if ((Op.bytesLess t183.toList t184.toList) = true) then (some false) else (if 0 ≤ (t184.size : Int) then (if (t184.size : Int) ≤ (t183.size : Int) then (some (t184.toList == (t183.extract 0 ((t184.size : Int) : Int).toNat).toList)) else (none)) else (none))) else (some false)) else (some true)) else (some false)))))) else (some false))
theorem engrosslaw5_KeyMid.mono : ∀ a0 a1 k, LeO (engrosslaw5_KeyMid.f k a0 a1) (engrosslaw5_KeyMid.f (k + 1) a0 a1) := by
  intro a0 a1 k
  unfold engrosslaw5_KeyMid.f
  repeat' first
      | (with_reducible exact engrosslaw5_begun.mono _)
      | (with_reducible exact engrossref1_Mid.mono _ _ _)
      | (with_reducible exact key_Mid.mono _ _ _)
      | (with_reducible exact LeO.refl _)
      | (with_reducible exact LeO.none _)
      | (with_reducible refine LeO.ite ?_ ?_)
      | (with_reducible refine LeO.bind ?_ (fun _ => ?_))
      | exact engrosslaw5_begun.mono _
      | exact engrossref1_Mid.mono _ _ _
      | exact key_Mid.mono _ _ _
      | exact LeO.none _
      | refine LeO.ite ?_ ?_
      | refine LeO.bind ?_ (fun _ => ?_)
set_option maxHeartbeats 8000000 in
set_option maxRecDepth 100000 in
theorem engrosslaw5_KeyMid.calls (k : Nat) (a0 : ByteArray) (a1 : ByteArray) (r : Bool) (w : World) (h : engrosslaw5_KeyMid.f k a0 a1 = some r) :
    Calls Try.prog 5 #[.string a0, .string a1] w fun e w' => e = .returned (.bool r) ∧ Below w.heap.size w w' := by
  have HB := Aside0.mk (Below.refl w.heap.size w)
  have H : ((engrosslaw5_begun.f k).bind fun t181 => (if t181 = true then ((engrosslaw1_Cut.f a0 20).bind fun t182 => ((engrosslaw1_Cut.f a1 20).bind fun t183 => ((key_Mid.f k t182 t183).bind fun t184 => ((engrossref1_Mid.f k t182 t183).bind fun t185 => (if t184.toList = t185.toList then (if ((Op.bytesLess t182.toList t183.toList) = true) then (if (Op.bytesLess t182.toList t184.toList) = true then (if ((Op.bytesLess t183.toList t184.toList) = true) then (some false) else (if 0 ≤ (t184.size : Int) then (if (t184.size : Int) ≤ (t183.size : Int) then (some (t184.toList == (t183.extract 0 ((t184.size : Int) : Int).toNat).toList)) else (none)) else (none))) else (some false)) else (some true)) else (some false)))))) else (some false))) = some r := h
  clear h
  replace H := Option.bind_eq_some_iff.mp H
  obtain ⟨t181, A30, H⟩ := H
  replace H : (if t181 = true then ((engrosslaw1_Cut.f a0 20).bind fun t182 => ((engrosslaw1_Cut.f a1 20).bind fun t183 => ((key_Mid.f k t182 t183).bind fun t184 => ((engrossref1_Mid.f k t182 t183).bind fun t185 => (if t184.toList = t185.toList then (if ((Op.bytesLess t182.toList t183.toList) = true) then (if (Op.bytesLess t182.toList t184.toList) = true then (if ((Op.bytesLess t183.toList t184.toList) = true) then (some false) else (if 0 ≤ (t184.size : Int) then (if (t184.size : Int) ≤ (t183.size : Int) then (some (t184.toList == (t183.extract 0 ((t184.size : Int) : Int).toNat).toList)) else (none)) else (none))) else (some false)) else (some true)) else (some false)))))) else (some false)) = some r := H
  have A3 := Aside0.mk A30
  clear A30
  by_cases c4 : t181 = true
  · subst c4
    have H1 : ((engrosslaw1_Cut.f a0 20).bind fun t182 => ((engrosslaw1_Cut.f a1 20).bind fun t183 => ((key_Mid.f k t182 t183).bind fun t184 => ((engrossref1_Mid.f k t182 t183).bind fun t185 => (if t184.toList = t185.toList then (if ((Op.bytesLess t182.toList t183.toList) = true) then (if (Op.bytesLess t182.toList t184.toList) = true then (if ((Op.bytesLess t183.toList t184.toList) = true) then (some false) else (if 0 ≤ (t184.size : Int) then (if (t184.size : Int) ≤ (t183.size : Int) then (some (t184.toList == (t183.extract 0 ((t184.size : Int) : Int).toNat).toList)) else (none)) else (none))) else (some false)) else (some true)) else (some false)))))) = some r := by rw [if_pos rfl] at H; exact H
    clear H
    have H := H1
    clear H1
    replace H := Option.bind_eq_some_iff.mp H
    obtain ⟨t182, A50, H⟩ := H
    replace H : ((engrosslaw1_Cut.f a1 20).bind fun t183 => ((key_Mid.f k t182 t183).bind fun t184 => ((engrossref1_Mid.f k t182 t183).bind fun t185 => (if t184.toList = t185.toList then (if ((Op.bytesLess t182.toList t183.toList) = true) then (if (Op.bytesLess t182.toList t184.toList) = true then (if ((Op.bytesLess t183.toList t184.toList) = true) then (some false) else (if 0 ≤ (t184.size : Int) then (if (t184.size : Int) ≤ (t183.size : Int) then (some (t184.toList == (t183.extract 0 ((t184.size : Int) : Int).toNat).toList)) else (none)) else (none))) else (some false)) else (some true)) else (some false))))) = some r := H
    have A5 := Aside0.mk A50
    clear A50
    replace H := Option.bind_eq_some_iff.mp H
    obtain ⟨t183, A60, H⟩ := H
    replace H : ((key_Mid.f k t182 t183).bind fun t184 => ((engrossref1_Mid.f k t182 t183).bind fun t185 => (if t184.toList = t185.toList then (if ((Op.bytesLess t182.toList t183.toList) = true) then (if (Op.bytesLess t182.toList t184.toList) = true then (if ((Op.bytesLess t183.toList t184.toList) = true) then (some false) else (if 0 ≤ (t184.size : Int) then (if (t184.size : Int) ≤ (t183.size : Int) then (some (t184.toList == (t183.extract 0 ((t184.size : Int) : Int).toNat).toList)) else (none)) else (none))) else (some false)) else (some true)) else (some false)))) = some r := H
    have A6 := Aside0.mk A60
    clear A60
    replace H := Option.bind_eq_some_iff.mp H
    obtain ⟨t184, A70, H⟩ := H
    replace H : ((engrossref1_Mid.f k t182 t183).bind fun t185 => (if t184.toList = t185.toList then (if ((Op.bytesLess t182.toList t183.toList) = true) then (if (Op.bytesLess t182.toList t184.toList) = true then (if ((Op.bytesLess t183.toList t184.toList) = true) then (some false) else (if 0 ≤ (t184.size : Int) then (if (t184.size : Int) ≤ (t183.size : Int) then (some (t184.toList == (t183.extract 0 ((t184.size : Int) : Int).toNat).toList)) else (none)) else (none))) else (some false)) else (some true)) else (some false))) = some r := H
    have A7 := Aside0.mk A70
    clear A70
    replace H := Option.bind_eq_some_iff.mp H
    obtain ⟨t185, A80, H⟩ := H
    replace H : (if t184.toList = t185.toList then (if ((Op.bytesLess t182.toList t183.toList) = true) then (if (Op.bytesLess t182.toList t184.toList) = true then (if ((Op.bytesLess t183.toList t184.toList) = true) then (some false) else (if 0 ≤ (t184.size : Int) then (if (t184.size : Int) ≤ (t183.size : Int) then (some (t184.toList == (t183.extract 0 ((t184.size : Int) : Int).toNat).toList)) else (none)) else (none))) else (some false)) else (some true)) else (some false)) = some r := H
    have A8 := Aside0.mk A80
    clear A80
    by_cases c9 : t184.toList = t185.toList
    · rw [if_pos c9] at H
      have c9b0 : (t184.toList == t185.toList) = true := beq_iff_eq.mpr c9
      have c9b1 : (t184.toList != t185.toList) = false := bne_eq_false_iff_eq.mpr c9
      clear c9
      by_cases c10 : ((Op.bytesLess t182.toList t183.toList) = true)
      · rw [if_pos c10] at H
        have c10b0 : (Op.bytesLess t182.toList t183.toList) = true := c10
        clear c10
        by_cases c11 : (Op.bytesLess t182.toList t184.toList) = true
        · rw [if_pos c11] at H
          have c11b0 : (Op.bytesLess t182.toList t184.toList) = true := c11
          clear c11
          by_cases c12 : ((Op.bytesLess t183.toList t184.toList) = true)
          · rw [if_pos c12] at H
            have c12b0 : (Op.bytesLess t183.toList t184.toList) = true := c12
            clear c12
            obtain rfl := Option.some.inj H
            go_enter Try.func5, Try.ntmps5
            go_wp2_with (first | ((with_reducible refine gate_callee (f := 10) rfl ?_); refine goesL_ (some 7) rfl rfl Try.func10 (by kernel_rfl) rfl #[] rfl (by (try simp only [List.map_toArray, List.map_cons, List.map_nil]); first | done | rfl | (simp only [List.length_drop, List.length_take]; rfl)) ?_; (with_reducible refine (engrosslaw5_begun.calls k  true _ A3.out).mono ?_); rintro e w13 ⟨rfl, hb⟩; refine ⟨_, rfl, ?_⟩; have n0_ := Aside0.mk (below_step (by repeat (first | (with_reducible first | exact HB.out | apply below_alloc | apply pw_below_drewN | apply below_drew1) | exact HB.out)) hb); clear HB; have HB := n0_; clear n0_; (try clear hb); (try clear hb2); (try clear hk); (try clear hi)) | ((with_reducible refine gate_callee (f := 11) rfl ?_); refine goesL_ (some 11) rfl rfl Try.func11 (by kernel_rfl) rfl #[.string a0, .int .i64 20] rfl (by (try simp only [List.map_toArray, List.map_cons, List.map_nil]); first | done | rfl | (simp only [List.length_drop, List.length_take]; rfl)) ?_; (with_reducible refine (engrosslaw1_Cut.calls a0 20 t182 _ A5.out).mono ?_); rintro e w' ⟨rfl, ⟨nd, rfl⟩⟩; refine ⟨_, rfl, ?_⟩) | ((with_reducible refine gate_callee (f := 11) rfl ?_); refine goesL_ (some 13) rfl rfl Try.func11 (by kernel_rfl) rfl #[.string a1, .int .i64 20] rfl (by (try simp only [List.map_toArray, List.map_cons, List.map_nil]); first | done | rfl | (simp only [List.length_drop, List.length_take]; rfl)) ?_; (with_reducible refine (engrosslaw1_Cut.calls a1 20 t183 _ A6.out).mono ?_); rintro e w' ⟨rfl, ⟨nd, rfl⟩⟩; refine ⟨_, rfl, ?_⟩) | ((with_reducible refine gate_callee (f := 23) rfl ?_); refine goesL_ (some 16) rfl rfl Try.func23 (by kernel_rfl) rfl #[.string t182, .string t183] rfl (by (try simp only [List.map_toArray, List.map_cons, List.map_nil]); first | done | rfl | (simp only [List.length_drop, List.length_take]; rfl)) ?_; (with_reducible refine (key_Mid.calls k t182 t183 t184 _ A7.out).mono ?_); rintro e w' ⟨rfl, ⟨nd, rfl⟩⟩; refine ⟨_, rfl, ?_⟩) | ((with_reducible refine gate_callee (f := 24) rfl ?_); refine goesL_ (some 20) rfl rfl Try.func24 (by kernel_rfl) rfl #[.string t182, .string t183] rfl (by (try simp only [List.map_toArray, List.map_cons, List.map_nil]); first | done | rfl | (simp only [List.length_drop, List.length_take]; rfl)) ?_; (with_reducible refine (engrossref1_Mid.calls k t182 t183 t185 _ A8.out).mono ?_); rintro e w' ⟨rfl, ⟨nd, rfl⟩⟩; refine ⟨_, rfl, ?_⟩))
            go_ret
            exact ⟨by first | rfl | (simp [errW_none, errW_some] <;> rfl) | (simp [*, errW_none, errW_some] <;> rfl), by repeat (first | (with_reducible first | exact HB.out | apply below_alloc | apply pw_below_drewN | apply below_drew1) | exact HB.out)⟩
          · rw [if_neg c12] at H
            have c12b0 : (Op.bytesLess t183.toList t184.toList) = false := by simpa using c12
            clear c12
            by_cases c14 : 0 ≤ (t184.size : Int)
            · rw [if_pos c14] at H
              have c14b0 := eq_true c14
              have c14b1 : decide (0 ≤ (t184.size : Int)) = true := decide_eq_true c14
              clear c14
              by_cases c15 : (t184.size : Int) ≤ (t183.size : Int)
              · rw [if_pos c15] at H
                have c15b0 := eq_true c15
                have c15b1 : decide ((t184.size : Int) ≤ (t183.size : Int)) = true := decide_eq_true c15
                clear c15
                obtain rfl := Option.some.inj H
                go_enter Try.func5, Try.ntmps5
                go_wp2_with (first | ((with_reducible refine gate_callee (f := 10) rfl ?_); refine goesL_ (some 7) rfl rfl Try.func10 (by kernel_rfl) rfl #[] rfl (by (try simp only [List.map_toArray, List.map_cons, List.map_nil]); first | done | rfl | (simp only [List.length_drop, List.length_take]; rfl)) ?_; (with_reducible refine (engrosslaw5_begun.calls k  true _ A3.out).mono ?_); rintro e w16 ⟨rfl, hb⟩; refine ⟨_, rfl, ?_⟩; have n0_ := Aside0.mk (below_step (by repeat (first | (with_reducible first | exact HB.out | apply below_alloc | apply pw_below_drewN | apply below_drew1) | exact HB.out)) hb); clear HB; have HB := n0_; clear n0_; (try clear hb); (try clear hb2); (try clear hk); (try clear hi)) | ((with_reducible refine gate_callee (f := 11) rfl ?_); refine goesL_ (some 11) rfl rfl Try.func11 (by kernel_rfl) rfl #[.string a0, .int .i64 20] rfl (by (try simp only [List.map_toArray, List.map_cons, List.map_nil]); first | done | rfl | (simp only [List.length_drop, List.length_take]; rfl)) ?_; (with_reducible refine (engrosslaw1_Cut.calls a0 20 t182 _ A5.out).mono ?_); rintro e w' ⟨rfl, ⟨nd, rfl⟩⟩; refine ⟨_, rfl, ?_⟩) | ((with_reducible refine gate_callee (f := 11) rfl ?_); refine goesL_ (some 13) rfl rfl Try.func11 (by kernel_rfl) rfl #[.string a1, .int .i64 20] rfl (by (try simp only [List.map_toArray, List.map_cons, List.map_nil]); first | done | rfl | (simp only [List.length_drop, List.length_take]; rfl)) ?_; (with_reducible refine (engrosslaw1_Cut.calls a1 20 t183 _ A6.out).mono ?_); rintro e w' ⟨rfl, ⟨nd, rfl⟩⟩; refine ⟨_, rfl, ?_⟩) | ((with_reducible refine gate_callee (f := 23) rfl ?_); refine goesL_ (some 16) rfl rfl Try.func23 (by kernel_rfl) rfl #[.string t182, .string t183] rfl (by (try simp only [List.map_toArray, List.map_cons, List.map_nil]); first | done | rfl | (simp only [List.length_drop, List.length_take]; rfl)) ?_; (with_reducible refine (key_Mid.calls k t182 t183 t184 _ A7.out).mono ?_); rintro e w' ⟨rfl, ⟨nd, rfl⟩⟩; refine ⟨_, rfl, ?_⟩) | ((with_reducible refine gate_callee (f := 24) rfl ?_); refine goesL_ (some 20) rfl rfl Try.func24 (by kernel_rfl) rfl #[.string t182, .string t183] rfl (by (try simp only [List.map_toArray, List.map_cons, List.map_nil]); first | done | rfl | (simp only [List.length_drop, List.length_take]; rfl)) ?_; (with_reducible refine (engrossref1_Mid.calls k t182 t183 t185 _ A8.out).mono ?_); rintro e w' ⟨rfl, ⟨nd, rfl⟩⟩; refine ⟨_, rfl, ?_⟩))
                go_ret
                exact ⟨by first | rfl | (simp [errW_none, errW_some] <;> rfl) | (simp [*, errW_none, errW_some] <;> rfl), by repeat (first | (with_reducible first | exact HB.out | apply below_alloc | apply pw_below_drewN | apply below_drew1) | exact HB.out)⟩
              · rw [if_neg c15] at H
                exact absurd H (by simp)
            · rw [if_neg c14] at H
              exact absurd H (by simp)
        · rw [if_neg c11] at H
          have c11b0 : (Op.bytesLess t182.toList t184.toList) = false := by simpa using c11
          clear c11
          obtain rfl := Option.some.inj H
          go_enter Try.func5, Try.ntmps5
          go_wp2_with (first | ((with_reducible refine gate_callee (f := 10) rfl ?_); refine goesL_ (some 7) rfl rfl Try.func10 (by kernel_rfl) rfl #[] rfl (by (try simp only [List.map_toArray, List.map_cons, List.map_nil]); first | done | rfl | (simp only [List.length_drop, List.length_take]; rfl)) ?_; (with_reducible refine (engrosslaw5_begun.calls k  true _ A3.out).mono ?_); rintro e w17 ⟨rfl, hb⟩; refine ⟨_, rfl, ?_⟩; have n0_ := Aside0.mk (below_step (by repeat (first | (with_reducible first | exact HB.out | apply below_alloc | apply pw_below_drewN | apply below_drew1) | exact HB.out)) hb); clear HB; have HB := n0_; clear n0_; (try clear hb); (try clear hb2); (try clear hk); (try clear hi)) | ((with_reducible refine gate_callee (f := 11) rfl ?_); refine goesL_ (some 11) rfl rfl Try.func11 (by kernel_rfl) rfl #[.string a0, .int .i64 20] rfl (by (try simp only [List.map_toArray, List.map_cons, List.map_nil]); first | done | rfl | (simp only [List.length_drop, List.length_take]; rfl)) ?_; (with_reducible refine (engrosslaw1_Cut.calls a0 20 t182 _ A5.out).mono ?_); rintro e w' ⟨rfl, ⟨nd, rfl⟩⟩; refine ⟨_, rfl, ?_⟩) | ((with_reducible refine gate_callee (f := 11) rfl ?_); refine goesL_ (some 13) rfl rfl Try.func11 (by kernel_rfl) rfl #[.string a1, .int .i64 20] rfl (by (try simp only [List.map_toArray, List.map_cons, List.map_nil]); first | done | rfl | (simp only [List.length_drop, List.length_take]; rfl)) ?_; (with_reducible refine (engrosslaw1_Cut.calls a1 20 t183 _ A6.out).mono ?_); rintro e w' ⟨rfl, ⟨nd, rfl⟩⟩; refine ⟨_, rfl, ?_⟩) | ((with_reducible refine gate_callee (f := 23) rfl ?_); refine goesL_ (some 16) rfl rfl Try.func23 (by kernel_rfl) rfl #[.string t182, .string t183] rfl (by (try simp only [List.map_toArray, List.map_cons, List.map_nil]); first | done | rfl | (simp only [List.length_drop, List.length_take]; rfl)) ?_; (with_reducible refine (key_Mid.calls k t182 t183 t184 _ A7.out).mono ?_); rintro e w' ⟨rfl, ⟨nd, rfl⟩⟩; refine ⟨_, rfl, ?_⟩) | ((with_reducible refine gate_callee (f := 24) rfl ?_); refine goesL_ (some 20) rfl rfl Try.func24 (by kernel_rfl) rfl #[.string t182, .string t183] rfl (by (try simp only [List.map_toArray, List.map_cons, List.map_nil]); first | done | rfl | (simp only [List.length_drop, List.length_take]; rfl)) ?_; (with_reducible refine (engrossref1_Mid.calls k t182 t183 t185 _ A8.out).mono ?_); rintro e w' ⟨rfl, ⟨nd, rfl⟩⟩; refine ⟨_, rfl, ?_⟩))
          go_ret
          exact ⟨by first | rfl | (simp [errW_none, errW_some] <;> rfl) | (simp [*, errW_none, errW_some] <;> rfl), by repeat (first | (with_reducible first | exact HB.out | apply below_alloc | apply pw_below_drewN | apply below_drew1) | exact HB.out)⟩
      · rw [if_neg c10] at H
        have c10b0 : (Op.bytesLess t182.toList t183.toList) = false := by simpa using c10
        clear c10
        obtain rfl := Option.some.inj H
        go_enter Try.func5, Try.ntmps5
        go_wp2_with (first | ((with_reducible refine gate_callee (f := 10) rfl ?_); refine goesL_ (some 7) rfl rfl Try.func10 (by kernel_rfl) rfl #[] rfl (by (try simp only [List.map_toArray, List.map_cons, List.map_nil]); first | done | rfl | (simp only [List.length_drop, List.length_take]; rfl)) ?_; (with_reducible refine (engrosslaw5_begun.calls k  true _ A3.out).mono ?_); rintro e w18 ⟨rfl, hb⟩; refine ⟨_, rfl, ?_⟩; have n0_ := Aside0.mk (below_step (by repeat (first | (with_reducible first | exact HB.out | apply below_alloc | apply pw_below_drewN | apply below_drew1) | exact HB.out)) hb); clear HB; have HB := n0_; clear n0_; (try clear hb); (try clear hb2); (try clear hk); (try clear hi)) | ((with_reducible refine gate_callee (f := 11) rfl ?_); refine goesL_ (some 11) rfl rfl Try.func11 (by kernel_rfl) rfl #[.string a0, .int .i64 20] rfl (by (try simp only [List.map_toArray, List.map_cons, List.map_nil]); first | done | rfl | (simp only [List.length_drop, List.length_take]; rfl)) ?_; (with_reducible refine (engrosslaw1_Cut.calls a0 20 t182 _ A5.out).mono ?_); rintro e w' ⟨rfl, ⟨nd, rfl⟩⟩; refine ⟨_, rfl, ?_⟩) | ((with_reducible refine gate_callee (f := 11) rfl ?_); refine goesL_ (some 13) rfl rfl Try.func11 (by kernel_rfl) rfl #[.string a1, .int .i64 20] rfl (by (try simp only [List.map_toArray, List.map_cons, List.map_nil]); first | done | rfl | (simp only [List.length_drop, List.length_take]; rfl)) ?_; (with_reducible refine (engrosslaw1_Cut.calls a1 20 t183 _ A6.out).mono ?_); rintro e w' ⟨rfl, ⟨nd, rfl⟩⟩; refine ⟨_, rfl, ?_⟩) | ((with_reducible refine gate_callee (f := 23) rfl ?_); refine goesL_ (some 16) rfl rfl Try.func23 (by kernel_rfl) rfl #[.string t182, .string t183] rfl (by (try simp only [List.map_toArray, List.map_cons, List.map_nil]); first | done | rfl | (simp only [List.length_drop, List.length_take]; rfl)) ?_; (with_reducible refine (key_Mid.calls k t182 t183 t184 _ A7.out).mono ?_); rintro e w' ⟨rfl, ⟨nd, rfl⟩⟩; refine ⟨_, rfl, ?_⟩) | ((with_reducible refine gate_callee (f := 24) rfl ?_); refine goesL_ (some 20) rfl rfl Try.func24 (by kernel_rfl) rfl #[.string t182, .string t183] rfl (by (try simp only [List.map_toArray, List.map_cons, List.map_nil]); first | done | rfl | (simp only [List.length_drop, List.length_take]; rfl)) ?_; (with_reducible refine (engrossref1_Mid.calls k t182 t183 t185 _ A8.out).mono ?_); rintro e w' ⟨rfl, ⟨nd, rfl⟩⟩; refine ⟨_, rfl, ?_⟩))
        go_ret
        exact ⟨by first | rfl | (simp [errW_none, errW_some] <;> rfl) | (simp [*, errW_none, errW_some] <;> rfl), by repeat (first | (with_reducible first | exact HB.out | apply below_alloc | apply pw_below_drewN | apply below_drew1) | exact HB.out)⟩
    · rw [if_neg c9] at H
      have c9b0 : (t184.toList == t185.toList) = false := beq_eq_false_iff_ne.mpr c9
      have c9b1 : (t184.toList != t185.toList) = true := bne_iff_ne.mpr c9
      obtain rfl := Option.some.inj H
      go_enter Try.func5, Try.ntmps5
      go_wp2_with (first | ((with_reducible refine gate_callee (f := 10) rfl ?_); refine goesL_ (some 7) rfl rfl Try.func10 (by kernel_rfl) rfl #[] rfl (by (try simp only [List.map_toArray, List.map_cons, List.map_nil]); first | done | rfl | (simp only [List.length_drop, List.length_take]; rfl)) ?_; (with_reducible refine (engrosslaw5_begun.calls k  true _ A3.out).mono ?_); rintro e w19 ⟨rfl, hb⟩; refine ⟨_, rfl, ?_⟩; have n0_ := Aside0.mk (below_step (by repeat (first | (with_reducible first | exact HB.out | apply below_alloc | apply pw_below_drewN | apply below_drew1) | exact HB.out)) hb); clear HB; have HB := n0_; clear n0_; (try clear hb); (try clear hb2); (try clear hk); (try clear hi)) | ((with_reducible refine gate_callee (f := 11) rfl ?_); refine goesL_ (some 11) rfl rfl Try.func11 (by kernel_rfl) rfl #[.string a0, .int .i64 20] rfl (by (try simp only [List.map_toArray, List.map_cons, List.map_nil]); first | done | rfl | (simp only [List.length_drop, List.length_take]; rfl)) ?_; (with_reducible refine (engrosslaw1_Cut.calls a0 20 t182 _ A5.out).mono ?_); rintro e w' ⟨rfl, ⟨nd, rfl⟩⟩; refine ⟨_, rfl, ?_⟩) | ((with_reducible refine gate_callee (f := 11) rfl ?_); refine goesL_ (some 13) rfl rfl Try.func11 (by kernel_rfl) rfl #[.string a1, .int .i64 20] rfl (by (try simp only [List.map_toArray, List.map_cons, List.map_nil]); first | done | rfl | (simp only [List.length_drop, List.length_take]; rfl)) ?_; (with_reducible refine (engrosslaw1_Cut.calls a1 20 t183 _ A6.out).mono ?_); rintro e w' ⟨rfl, ⟨nd, rfl⟩⟩; refine ⟨_, rfl, ?_⟩) | ((with_reducible refine gate_callee (f := 23) rfl ?_); refine goesL_ (some 16) rfl rfl Try.func23 (by kernel_rfl) rfl #[.string t182, .string t183] rfl (by (try simp only [List.map_toArray, List.map_cons, List.map_nil]); first | done | rfl | (simp only [List.length_drop, List.length_take]; rfl)) ?_; (with_reducible refine (key_Mid.calls k t182 t183 t184 _ A7.out).mono ?_); rintro e w' ⟨rfl, ⟨nd, rfl⟩⟩; refine ⟨_, rfl, ?_⟩) | ((with_reducible refine gate_callee (f := 24) rfl ?_); refine goesL_ (some 20) rfl rfl Try.func24 (by kernel_rfl) rfl #[.string t182, .string t183] rfl (by (try simp only [List.map_toArray, List.map_cons, List.map_nil]); first | done | rfl | (simp only [List.length_drop, List.length_take]; rfl)) ?_; (with_reducible refine (engrossref1_Mid.calls k t182 t183 t185 _ A8.out).mono ?_); rintro e w' ⟨rfl, ⟨nd, rfl⟩⟩; refine ⟨_, rfl, ?_⟩))
      go_ret
      exact ⟨by first | rfl | (simp [errW_none, errW_some] <;> rfl) | (simp [*, errW_none, errW_some] <;> rfl), by repeat (first | (with_reducible first | exact HB.out | apply below_alloc | apply pw_below_drewN | apply below_drew1) | exact HB.out)⟩
  · replace c4 := Bool.eq_false_iff.mpr c4
    subst c4
    have H1 : (some false) = some r := by rw [if_neg (show ¬ (false = true) by decide)] at H; exact H
    clear H
    have H := H1
    clear H1
    obtain rfl := Option.some.inj H
    go_enter Try.func5, Try.ntmps5
    go_wp2_with (first | ((with_reducible refine gate_callee (f := 10) rfl ?_); refine goesL_ (some 7) rfl rfl Try.func10 (by kernel_rfl) rfl #[] rfl (by (try simp only [List.map_toArray, List.map_cons, List.map_nil]); first | done | rfl | (simp only [List.length_drop, List.length_take]; rfl)) ?_; (with_reducible refine (engrosslaw5_begun.calls k  false _ A3.out).mono ?_); rintro e w20 ⟨rfl, hb⟩; refine ⟨_, rfl, ?_⟩; have n0_ := Aside0.mk (below_step (by repeat (first | (with_reducible first | exact HB.out | apply below_alloc | apply pw_below_drewN | apply below_drew1) | exact HB.out)) hb); clear HB; have HB := n0_; clear n0_; (try clear hb); (try clear hb2); (try clear hk); (try clear hi)))
    go_ret
    exact ⟨by first | rfl | (simp [errW_none, errW_some] <;> rfl) | (simp [*, errW_none, errW_some] <;> rfl), by repeat (first | (with_reducible first | exact HB.out | apply below_alloc | apply pw_below_drewN | apply below_drew1) | exact HB.out)⟩

/-- THE ONE PURE STATEMENT of engrosslaw5_KeyMid: yours. -/
def engrosslaw5_KeyMid.Pure : Prop := ∀ (a0 : ByteArray) (a1 : ByteArray), a0.size ≤ 140737488351232 → a1.size ≤ 140737488351232 → ∃ k, engrosslaw5_KeyMid.f k a0 a1 = some true
theorem engrosslaw5_KeyMid.walk (P : engrosslaw5_KeyMid.Pure) (a0 : ByteArray) (a1 : ByteArray) (w : World) (w0 : a0.size ≤ 140737488351232) (w1 : a1.size ≤ 140737488351232) :
    Calls Try.prog 5 #[.string a0, .string a1] w fun e w' => e = .returned (.bool true) ∧ Below w.heap.size w w' := by
  obtain ⟨k, h⟩ := P a0 a1 w0 w1
  refine (engrosslaw5_KeyMid.calls k a0 a1 true w h).mono ?_
  rintro e w' ⟨rfl, hd⟩
  exact ⟨rfl, hd⟩

/-! ### engrosslaw5_KeyOfs: function 6 -/
def engrosslaw5_KeyOfs.f (k : Nat) (a0 : Int) (a1 : Int) : Option (Bool) := (engrosslaw5_begun.f k).bind fun t186 => (if t186 = true then ((key_Of.f k (Int.toNat a0)).bind fun t187 => ((key_Float.f k t187).bind fun bt188 => (if t187.size + 1 ≤ 9223372036854775807 then ((key_Float.f k (t187 ++ (⟨#[120]⟩ : ByteArray))).bind fun bt190 => (if 1 ≤ (t187.size : Int) then (if 1 + (t187.extract 1 t187.size).size ≤ 9223372036854775807 then ((key_Float.f k ((⟨#[103]⟩ : ByteArray) ++ (t187.extract 1 t187.size))).bind fun bt192 => (if (t187.size : Int) = 9 then (if 0 < (t187.size : Int) then (if (bt t187 0) = 102 then (if bt188.2 = true then ((engrossref1_Clean.f (Int.toNat a0)).bind fun t194 => ((engrossref1_Bits.f bt188.1 t194).bind fun t195 => (if t195 = true then (if bt190.2 = true then (some false) else (if bt192.2 = true then (some false) else ((key_Of.f k (Int.toNat a1)).bind fun t196 => ((engrossref1_Place.f (Int.toNat a0)).bind fun t197 => ((engrossref1_Place.f (Int.toNat a1)).bind fun t198 => (some ((t187.toList == t196.toList) == (t197 == t198)))))))) else (some false)))) else (some false)) else (some false)) else (none)) else (some false))) else (none)) else (none))) else (none)))) else (some false))
theorem engrosslaw5_KeyOfs.mono : ∀ a0 a1 k, LeO (engrosslaw5_KeyOfs.f k a0 a1) (engrosslaw5_KeyOfs.f (k + 1) a0 a1) := by
  intro a0 a1 k
  unfold engrosslaw5_KeyOfs.f
  repeat' first
      | (with_reducible exact engrosslaw5_begun.mono _)
      | (with_reducible exact key_Float.mono _ _)
      | (with_reducible exact key_Of.mono _ _)
      | (with_reducible exact LeO.refl _)
      | (with_reducible exact LeO.none _)
      | (with_reducible refine LeO.ite ?_ ?_)
      | (with_reducible refine LeO.bind ?_ (fun _ => ?_))
      | exact engrosslaw5_begun.mono _
      | exact key_Float.mono _ _
      | exact key_Of.mono _ _
      | exact LeO.none _
      | refine LeO.ite ?_ ?_
      | refine LeO.bind ?_ (fun _ => ?_)
set_option maxHeartbeats 8000000 in
set_option maxRecDepth 100000 in
theorem engrosslaw5_KeyOfs.calls (k : Nat) (a0 : Int) (a1 : Int) (r : Bool) (w : World) (h : engrosslaw5_KeyOfs.f k a0 a1 = some r) :
    Calls Try.prog 6 #[.int .u64 a0, .int .u64 a1] w fun e w' => e = .returned (.bool r) ∧ Below w.heap.size w w' := by
  have HB := Aside0.mk (Below.refl w.heap.size w)
  have H : ((engrosslaw5_begun.f k).bind fun t186 => (if t186 = true then ((key_Of.f k (Int.toNat a0)).bind fun t187 => ((key_Float.f k t187).bind fun bt188 => (if t187.size + 1 ≤ 9223372036854775807 then ((key_Float.f k (t187 ++ (⟨#[120]⟩ : ByteArray))).bind fun bt190 => (if 1 ≤ (t187.size : Int) then (if 1 + (t187.extract 1 t187.size).size ≤ 9223372036854775807 then ((key_Float.f k ((⟨#[103]⟩ : ByteArray) ++ (t187.extract 1 t187.size))).bind fun bt192 => (if (t187.size : Int) = 9 then (if 0 < (t187.size : Int) then (if (bt t187 0) = 102 then (if bt188.2 = true then ((engrossref1_Clean.f (Int.toNat a0)).bind fun t194 => ((engrossref1_Bits.f bt188.1 t194).bind fun t195 => (if t195 = true then (if bt190.2 = true then (some false) else (if bt192.2 = true then (some false) else ((key_Of.f k (Int.toNat a1)).bind fun t196 => ((engrossref1_Place.f (Int.toNat a0)).bind fun t197 => ((engrossref1_Place.f (Int.toNat a1)).bind fun t198 => (some ((t187.toList == t196.toList) == (t197 == t198)))))))) else (some false)))) else (some false)) else (some false)) else (none)) else (some false))) else (none)) else (none))) else (none)))) else (some false))) = some r := h
  clear h
  replace H := Option.bind_eq_some_iff.mp H
  obtain ⟨t186, A30, H⟩ := H
  replace H : (if t186 = true then ((key_Of.f k (Int.toNat a0)).bind fun t187 => ((key_Float.f k t187).bind fun bt188 => (if t187.size + 1 ≤ 9223372036854775807 then ((key_Float.f k (t187 ++ (⟨#[120]⟩ : ByteArray))).bind fun bt190 => (if 1 ≤ (t187.size : Int) then (if 1 + (t187.extract 1 t187.size).size ≤ 9223372036854775807 then ((key_Float.f k ((⟨#[103]⟩ : ByteArray) ++ (t187.extract 1 t187.size))).bind fun bt192 => (if (t187.size : Int) = 9 then (if 0 < (t187.size : Int) then (if (bt t187 0) = 102 then (if bt188.2 = true then ((engrossref1_Clean.f (Int.toNat a0)).bind fun t194 => ((engrossref1_Bits.f bt188.1 t194).bind fun t195 => (if t195 = true then (if bt190.2 = true then (some false) else (if bt192.2 = true then (some false) else ((key_Of.f k (Int.toNat a1)).bind fun t196 => ((engrossref1_Place.f (Int.toNat a0)).bind fun t197 => ((engrossref1_Place.f (Int.toNat a1)).bind fun t198 => (some ((t187.toList == t196.toList) == (t197 == t198)))))))) else (some false)))) else (some false)) else (some false)) else (none)) else (some false))) else (none)) else (none))) else (none)))) else (some false)) = some r := H
  have A3 := Aside0.mk A30
  clear A30
  by_cases c4 : t186 = true
  · subst c4
    have H1 : ((key_Of.f k (Int.toNat a0)).bind fun t187 => ((key_Float.f k t187).bind fun bt188 => (if t187.size + 1 ≤ 9223372036854775807 then ((key_Float.f k (t187 ++ (⟨#[120]⟩ : ByteArray))).bind fun bt190 => (if 1 ≤ (t187.size : Int) then (if 1 + (t187.extract 1 t187.size).size ≤ 9223372036854775807 then ((key_Float.f k ((⟨#[103]⟩ : ByteArray) ++ (t187.extract 1 t187.size))).bind fun bt192 => (if (t187.size : Int) = 9 then (if 0 < (t187.size : Int) then (if (bt t187 0) = 102 then (if bt188.2 = true then ((engrossref1_Clean.f (Int.toNat a0)).bind fun t194 => ((engrossref1_Bits.f bt188.1 t194).bind fun t195 => (if t195 = true then (if bt190.2 = true then (some false) else (if bt192.2 = true then (some false) else ((key_Of.f k (Int.toNat a1)).bind fun t196 => ((engrossref1_Place.f (Int.toNat a0)).bind fun t197 => ((engrossref1_Place.f (Int.toNat a1)).bind fun t198 => (some ((t187.toList == t196.toList) == (t197 == t198)))))))) else (some false)))) else (some false)) else (some false)) else (none)) else (some false))) else (none)) else (none))) else (none)))) = some r := by rw [if_pos rfl] at H; exact H
    clear H
    have H := H1
    clear H1
    replace H := Option.bind_eq_some_iff.mp H
    obtain ⟨t187, A50, H⟩ := H
    replace H : ((key_Float.f k t187).bind fun bt188 => (if t187.size + 1 ≤ 9223372036854775807 then ((key_Float.f k (t187 ++ (⟨#[120]⟩ : ByteArray))).bind fun bt190 => (if 1 ≤ (t187.size : Int) then (if 1 + (t187.extract 1 t187.size).size ≤ 9223372036854775807 then ((key_Float.f k ((⟨#[103]⟩ : ByteArray) ++ (t187.extract 1 t187.size))).bind fun bt192 => (if (t187.size : Int) = 9 then (if 0 < (t187.size : Int) then (if (bt t187 0) = 102 then (if bt188.2 = true then ((engrossref1_Clean.f (Int.toNat a0)).bind fun t194 => ((engrossref1_Bits.f bt188.1 t194).bind fun t195 => (if t195 = true then (if bt190.2 = true then (some false) else (if bt192.2 = true then (some false) else ((key_Of.f k (Int.toNat a1)).bind fun t196 => ((engrossref1_Place.f (Int.toNat a0)).bind fun t197 => ((engrossref1_Place.f (Int.toNat a1)).bind fun t198 => (some ((t187.toList == t196.toList) == (t197 == t198)))))))) else (some false)))) else (some false)) else (some false)) else (none)) else (some false))) else (none)) else (none))) else (none))) = some r := H
    have A5 := Aside0.mk A50
    clear A50
    replace H := Option.bind_eq_some_iff.mp H
    obtain ⟨⟨t188, t189⟩, A60, H⟩ := H
    replace H : (if t187.size + 1 ≤ 9223372036854775807 then ((key_Float.f k (t187 ++ (⟨#[120]⟩ : ByteArray))).bind fun bt190 => (if 1 ≤ (t187.size : Int) then (if 1 + (t187.extract 1 t187.size).size ≤ 9223372036854775807 then ((key_Float.f k ((⟨#[103]⟩ : ByteArray) ++ (t187.extract 1 t187.size))).bind fun bt192 => (if (t187.size : Int) = 9 then (if 0 < (t187.size : Int) then (if (bt t187 0) = 102 then (if t189 = true then ((engrossref1_Clean.f (Int.toNat a0)).bind fun t194 => ((engrossref1_Bits.f t188 t194).bind fun t195 => (if t195 = true then (if bt190.2 = true then (some false) else (if bt192.2 = true then (some false) else ((key_Of.f k (Int.toNat a1)).bind fun t196 => ((engrossref1_Place.f (Int.toNat a0)).bind fun t197 => ((engrossref1_Place.f (Int.toNat a1)).bind fun t198 => (some ((t187.toList == t196.toList) == (t197 == t198)))))))) else (some false)))) else (some false)) else (some false)) else (none)) else (some false))) else (none)) else (none))) else (none)) = some r := H
    have A6 := Aside0.mk A60
    clear A60
    by_cases c7 : t187.size + 1 ≤ 9223372036854775807
    · rw [if_pos c7] at H
      have c7b0 := eq_true c7
      have c7b1 : decide (t187.size + 1 ≤ 9223372036854775807) = true := decide_eq_true c7
      try have c7b2 : (9223372036854775807 < t187.size + 1) = False := eq_false (Nat.not_lt.2 c7)
      replace H := Option.bind_eq_some_iff.mp H
      obtain ⟨⟨t190, t191⟩, A80, H⟩ := H
      replace H : (if 1 ≤ (t187.size : Int) then (if 1 + (t187.extract 1 t187.size).size ≤ 9223372036854775807 then ((key_Float.f k ((⟨#[103]⟩ : ByteArray) ++ (t187.extract 1 t187.size))).bind fun bt192 => (if (t187.size : Int) = 9 then (if 0 < (t187.size : Int) then (if (bt t187 0) = 102 then (if t189 = true then ((engrossref1_Clean.f (Int.toNat a0)).bind fun t194 => ((engrossref1_Bits.f t188 t194).bind fun t195 => (if t195 = true then (if t191 = true then (some false) else (if bt192.2 = true then (some false) else ((key_Of.f k (Int.toNat a1)).bind fun t196 => ((engrossref1_Place.f (Int.toNat a0)).bind fun t197 => ((engrossref1_Place.f (Int.toNat a1)).bind fun t198 => (some ((t187.toList == t196.toList) == (t197 == t198)))))))) else (some false)))) else (some false)) else (some false)) else (none)) else (some false))) else (none)) else (none)) = some r := H
      have A8 := Aside0.mk A80
      clear A80
      by_cases c9 : 1 ≤ (t187.size : Int)
      · rw [if_pos c9] at H
        have c9b0 := eq_true c9
        have c9b1 : decide (1 ≤ (t187.size : Int)) = true := decide_eq_true c9
        clear c9
        by_cases c10 : 1 + (t187.extract 1 t187.size).size ≤ 9223372036854775807
        · rw [if_pos c10] at H
          have c10b0 := eq_true c10
          have c10b1 : decide (1 + (t187.extract 1 t187.size).size ≤ 9223372036854775807) = true := decide_eq_true c10
          try have c10b2 : (9223372036854775807 < 1 + (t187.extract 1 t187.size).size) = False := eq_false (Nat.not_lt.2 c10)
          replace H := Option.bind_eq_some_iff.mp H
          obtain ⟨⟨t192, t193⟩, A110, H⟩ := H
          replace H : (if (t187.size : Int) = 9 then (if 0 < (t187.size : Int) then (if (bt t187 0) = 102 then (if t189 = true then ((engrossref1_Clean.f (Int.toNat a0)).bind fun t194 => ((engrossref1_Bits.f t188 t194).bind fun t195 => (if t195 = true then (if t191 = true then (some false) else (if t193 = true then (some false) else ((key_Of.f k (Int.toNat a1)).bind fun t196 => ((engrossref1_Place.f (Int.toNat a0)).bind fun t197 => ((engrossref1_Place.f (Int.toNat a1)).bind fun t198 => (some ((t187.toList == t196.toList) == (t197 == t198)))))))) else (some false)))) else (some false)) else (some false)) else (none)) else (some false)) = some r := H
          have A11 := Aside0.mk A110
          clear A110
          by_cases c12 : (t187.size : Int) = 9
          · rw [if_pos c12] at H
            have c12b0 : ((t187.size : Int) == 9) = true := beq_iff_eq.mpr c12
            have c12b1 : ((t187.size : Int) != 9) = false := bne_eq_false_iff_eq.mpr c12
            clear c12
            by_cases c13 : 0 < (t187.size : Int)
            · rw [if_pos c13] at H
              have c13b0 : decide (0 < (t187.size : Int)) = true := decide_eq_true c13
              have c13b1 : decide (0 < t187.size) = true := decide_eq_true (by omega)
              clear c13
              by_cases c15 : (bt t187 0) = 102
              · rw [if_pos c15] at H
                have c15b0 : ((bt t187 0) == 102) = true := beq_iff_eq.mpr c15
                have c15b1 : ((bt t187 0) != 102) = false := bne_eq_false_iff_eq.mpr c15
                clear c15
                by_cases c16 : t189 = true
                · subst c16
                  have H1 : ((engrossref1_Clean.f (Int.toNat a0)).bind fun t194 => ((engrossref1_Bits.f t188 t194).bind fun t195 => (if t195 = true then (if t191 = true then (some false) else (if t193 = true then (some false) else ((key_Of.f k (Int.toNat a1)).bind fun t196 => ((engrossref1_Place.f (Int.toNat a0)).bind fun t197 => ((engrossref1_Place.f (Int.toNat a1)).bind fun t198 => (some ((t187.toList == t196.toList) == (t197 == t198)))))))) else (some false)))) = some r := by rw [if_pos rfl] at H; exact H
                  clear H
                  have H := H1
                  clear H1
                  replace H := Option.bind_eq_some_iff.mp H
                  obtain ⟨t194, A170, H⟩ := H
                  replace H : ((engrossref1_Bits.f t188 t194).bind fun t195 => (if t195 = true then (if t191 = true then (some false) else (if t193 = true then (some false) else ((key_Of.f k (Int.toNat a1)).bind fun t196 => ((engrossref1_Place.f (Int.toNat a0)).bind fun t197 => ((engrossref1_Place.f (Int.toNat a1)).bind fun t198 => (some ((t187.toList == t196.toList) == (t197 == t198)))))))) else (some false))) = some r := H
                  have A17 := Aside0.mk A170
                  clear A170
                  replace H := Option.bind_eq_some_iff.mp H
                  obtain ⟨t195, A180, H⟩ := H
                  replace H : (if t195 = true then (if t191 = true then (some false) else (if t193 = true then (some false) else ((key_Of.f k (Int.toNat a1)).bind fun t196 => ((engrossref1_Place.f (Int.toNat a0)).bind fun t197 => ((engrossref1_Place.f (Int.toNat a1)).bind fun t198 => (some ((t187.toList == t196.toList) == (t197 == t198)))))))) else (some false)) = some r := H
                  have A18 := Aside0.mk A180
                  clear A180
                  by_cases c19 : t195 = true
                  · subst c19
                    have H1 : (if t191 = true then (some false) else (if t193 = true then (some false) else ((key_Of.f k (Int.toNat a1)).bind fun t196 => ((engrossref1_Place.f (Int.toNat a0)).bind fun t197 => ((engrossref1_Place.f (Int.toNat a1)).bind fun t198 => (some ((t187.toList == t196.toList) == (t197 == t198)))))))) = some r := by rw [if_pos rfl] at H; exact H
                    clear H
                    have H := H1
                    clear H1
                    by_cases c20 : t191 = true
                    · subst c20
                      have H1 : (some false) = some r := by rw [if_pos rfl] at H; exact H
                      clear H
                      have H := H1
                      clear H1
                      obtain rfl := Option.some.inj H
                      go_enter Try.func6, Try.ntmps6
                      go_wp2_with (first | ((with_reducible refine gate_callee (f := 10) rfl ?_); refine goesL_ (some 15) rfl rfl Try.func10 (by kernel_rfl) rfl #[] rfl (by (try simp only [List.map_toArray, List.map_cons, List.map_nil]); first | done | rfl | (simp only [List.length_drop, List.length_take]; rfl)) ?_; (with_reducible refine (engrosslaw5_begun.calls k  true _ A3.out).mono ?_); rintro e w21 ⟨rfl, hb⟩; refine ⟨_, rfl, ?_⟩; have n0_ := Aside0.mk (below_step (by repeat (first | (with_reducible first | exact HB.out | apply below_alloc | apply pw_below_drewN | apply below_drew1) | exact HB.out)) hb); clear HB; have HB := n0_; clear n0_; (try clear hb); (try clear hb2); (try clear hk); (try clear hi)) | ((with_reducible refine gate_callee (f := 20) rfl ?_); refine goesL_ (some 23) rfl rfl Try.func20 (by kernel_rfl) rfl #[.float .f64 (Int.toNat a0)] rfl (by (try simp only [List.map_toArray, List.map_cons, List.map_nil]); first | done | rfl | (simp only [List.length_drop, List.length_take]; rfl)) ?_; (with_reducible refine (key_Of.calls k (Int.toNat a0) t187 _ A5.out).mono ?_); rintro e w22 ⟨rfl, hb⟩; refine ⟨_, rfl, ?_⟩; have n0_ := Aside0.mk (below_step (by repeat (first | (with_reducible first | exact HB.out | apply below_alloc | apply pw_below_drewN | apply below_drew1) | exact HB.out)) hb); clear HB; have HB := n0_; clear n0_; (try clear hb); (try clear hb2); (try clear hk); (try clear hi)) | ((with_reducible refine gate_callee (f := 12) rfl ?_); refine goesL_ (some 26) rfl rfl Try.func12 (by kernel_rfl) rfl #[.string t187] rfl (by (try simp only [List.map_toArray, List.map_cons, List.map_nil]); first | done | rfl | (simp only [List.length_drop, List.length_take]; rfl)) ?_; (with_reducible refine (key_Float.calls k t187 t188 true _ A6.out).mono ?_); rintro e w23 ⟨rfl, hb⟩; refine ⟨_, rfl, ?_⟩; have n0_ := Aside0.mk (below_step (by repeat (first | (with_reducible first | exact HB.out | apply below_alloc | apply pw_below_drewN | apply below_drew1) | exact HB.out)) hb); clear HB; have HB := n0_; clear n0_; (try clear hb); (try clear hb2); (try clear hk); (try clear hi)) | ((with_reducible refine gate_callee (f := 12) rfl ?_); refine goesL_ (some 32) rfl rfl Try.func12 (by kernel_rfl) rfl #[.string (t187 ++ (⟨#[120]⟩ : ByteArray))] rfl (by (try simp only [List.map_toArray, List.map_cons, List.map_nil]); first | done | rfl | (simp only [List.length_drop, List.length_take]; rfl)) ?_; (with_reducible refine (key_Float.calls k (t187 ++ (⟨#[120]⟩ : ByteArray)) t190 true _ A8.out).mono ?_); rintro e w24 ⟨rfl, hb⟩; refine ⟨_, rfl, ?_⟩; have n0_ := Aside0.mk (below_step (by repeat (first | (with_reducible first | exact HB.out | apply below_alloc | apply pw_below_drewN | apply below_drew1) | exact HB.out)) hb); clear HB; have HB := n0_; clear n0_; (try clear hb); (try clear hb2); (try clear hk); (try clear hi)) | ((with_reducible refine gate_callee (f := 12) rfl ?_); refine goesL_ (some 39) rfl rfl Try.func12 (by kernel_rfl) rfl #[.string ((⟨#[103]⟩ : ByteArray) ++ (t187.extract 1 t187.size))] rfl (by (try simp only [List.map_toArray, List.map_cons, List.map_nil]); first | done | rfl | (simp only [List.length_drop, List.length_take]; rfl)) ?_; (with_reducible refine (key_Float.calls k ((⟨#[103]⟩ : ByteArray) ++ (t187.extract 1 t187.size)) t192 t193 _ A11.out).mono ?_); rintro e w25 ⟨rfl, hb⟩; refine ⟨_, rfl, ?_⟩; have n0_ := Aside0.mk (below_step (by repeat (first | (with_reducible first | exact HB.out | apply below_alloc | apply pw_below_drewN | apply below_drew1) | exact HB.out)) hb); clear HB; have HB := n0_; clear n0_; (try clear hb); (try clear hb2); (try clear hk); (try clear hi); have p14 : 0 ≤ (0 : Int) := (by omega); have q14 : 0 < t187.size := (by have : (0 : Int) < (t187.size : Int) := of_decide_eq_true (by first | (with_reducible assumption) | assumption); omega); have hx14 : ∀ h : 0 < t187.size, ((t187[0]'h).toNat : Int) = bt t187 0 := bt_at t187 0; clear p14; have qi14 : (0 < (t187.size : Int)) = True := eq_true (of_decide_eq_true (by first | (with_reducible assumption) | assumption)); replace q14 := eq_true q14) | (go_at_call 22; (with_reducible refine (engrossref1_Clean.calls (Int.toNat a0) t194 _ A17.out).mono ?_); rintro e w' ⟨rfl, ⟨nd, rfl⟩⟩) | (go_at_call 14; (with_reducible refine (engrossref1_Bits.calls t188 t194 true _ A18.out).mono ?_); rintro e w' ⟨rfl, ⟨nd, rfl⟩⟩))
                      go_ret
                      exact ⟨by first | rfl | (simp [errW_none, errW_some] <;> rfl) | (simp [*, errW_none, errW_some] <;> rfl), by repeat (first | (with_reducible first | exact HB.out | apply below_alloc | apply pw_below_drewN | apply below_drew1) | exact HB.out)⟩
                    · replace c20 := Bool.eq_false_iff.mpr c20
                      subst c20
                      have H1 : (if t193 = true then (some false) else ((key_Of.f k (Int.toNat a1)).bind fun t196 => ((engrossref1_Place.f (Int.toNat a0)).bind fun t197 => ((engrossref1_Place.f (Int.toNat a1)).bind fun t198 => (some ((t187.toList == t196.toList) == (t197 == t198))))))) = some r := by rw [if_neg (show ¬ (false = true) by decide)] at H; exact H
                      clear H
                      have H := H1
                      clear H1
                      by_cases c26 : t193 = true
                      · subst c26
                        have H1 : (some false) = some r := by rw [if_pos rfl] at H; exact H
                        clear H
                        have H := H1
                        clear H1
                        obtain rfl := Option.some.inj H
                        go_enter Try.func6, Try.ntmps6
                        go_wp2_with (first | ((with_reducible refine gate_callee (f := 10) rfl ?_); refine goesL_ (some 15) rfl rfl Try.func10 (by kernel_rfl) rfl #[] rfl (by (try simp only [List.map_toArray, List.map_cons, List.map_nil]); first | done | rfl | (simp only [List.length_drop, List.length_take]; rfl)) ?_; (with_reducible refine (engrosslaw5_begun.calls k  true _ A3.out).mono ?_); rintro e w27 ⟨rfl, hb⟩; refine ⟨_, rfl, ?_⟩; have n0_ := Aside0.mk (below_step (by repeat (first | (with_reducible first | exact HB.out | apply below_alloc | apply pw_below_drewN | apply below_drew1) | exact HB.out)) hb); clear HB; have HB := n0_; clear n0_; (try clear hb); (try clear hb2); (try clear hk); (try clear hi)) | ((with_reducible refine gate_callee (f := 20) rfl ?_); refine goesL_ (some 23) rfl rfl Try.func20 (by kernel_rfl) rfl #[.float .f64 (Int.toNat a0)] rfl (by (try simp only [List.map_toArray, List.map_cons, List.map_nil]); first | done | rfl | (simp only [List.length_drop, List.length_take]; rfl)) ?_; (with_reducible refine (key_Of.calls k (Int.toNat a0) t187 _ A5.out).mono ?_); rintro e w28 ⟨rfl, hb⟩; refine ⟨_, rfl, ?_⟩; have n0_ := Aside0.mk (below_step (by repeat (first | (with_reducible first | exact HB.out | apply below_alloc | apply pw_below_drewN | apply below_drew1) | exact HB.out)) hb); clear HB; have HB := n0_; clear n0_; (try clear hb); (try clear hb2); (try clear hk); (try clear hi)) | ((with_reducible refine gate_callee (f := 12) rfl ?_); refine goesL_ (some 26) rfl rfl Try.func12 (by kernel_rfl) rfl #[.string t187] rfl (by (try simp only [List.map_toArray, List.map_cons, List.map_nil]); first | done | rfl | (simp only [List.length_drop, List.length_take]; rfl)) ?_; (with_reducible refine (key_Float.calls k t187 t188 true _ A6.out).mono ?_); rintro e w29 ⟨rfl, hb⟩; refine ⟨_, rfl, ?_⟩; have n0_ := Aside0.mk (below_step (by repeat (first | (with_reducible first | exact HB.out | apply below_alloc | apply pw_below_drewN | apply below_drew1) | exact HB.out)) hb); clear HB; have HB := n0_; clear n0_; (try clear hb); (try clear hb2); (try clear hk); (try clear hi)) | ((with_reducible refine gate_callee (f := 12) rfl ?_); refine goesL_ (some 32) rfl rfl Try.func12 (by kernel_rfl) rfl #[.string (t187 ++ (⟨#[120]⟩ : ByteArray))] rfl (by (try simp only [List.map_toArray, List.map_cons, List.map_nil]); first | done | rfl | (simp only [List.length_drop, List.length_take]; rfl)) ?_; (with_reducible refine (key_Float.calls k (t187 ++ (⟨#[120]⟩ : ByteArray)) t190 false _ A8.out).mono ?_); rintro e w30 ⟨rfl, hb⟩; refine ⟨_, rfl, ?_⟩; have n0_ := Aside0.mk (below_step (by repeat (first | (with_reducible first | exact HB.out | apply below_alloc | apply pw_below_drewN | apply below_drew1) | exact HB.out)) hb); clear HB; have HB := n0_; clear n0_; (try clear hb); (try clear hb2); (try clear hk); (try clear hi)) | ((with_reducible refine gate_callee (f := 12) rfl ?_); refine goesL_ (some 39) rfl rfl Try.func12 (by kernel_rfl) rfl #[.string ((⟨#[103]⟩ : ByteArray) ++ (t187.extract 1 t187.size))] rfl (by (try simp only [List.map_toArray, List.map_cons, List.map_nil]); first | done | rfl | (simp only [List.length_drop, List.length_take]; rfl)) ?_; (with_reducible refine (key_Float.calls k ((⟨#[103]⟩ : ByteArray) ++ (t187.extract 1 t187.size)) t192 true _ A11.out).mono ?_); rintro e w31 ⟨rfl, hb⟩; refine ⟨_, rfl, ?_⟩; have n0_ := Aside0.mk (below_step (by repeat (first | (with_reducible first | exact HB.out | apply below_alloc | apply pw_below_drewN | apply below_drew1) | exact HB.out)) hb); clear HB; have HB := n0_; clear n0_; (try clear hb); (try clear hb2); (try clear hk); (try clear hi); have p14 : 0 ≤ (0 : Int) := (by omega); have q14 : 0 < t187.size := (by have : (0 : Int) < (t187.size : Int) := of_decide_eq_true (by first | (with_reducible assumption) | assumption); omega); have hx14 : ∀ h : 0 < t187.size, ((t187[0]'h).toNat : Int) = bt t187 0 := bt_at t187 0; clear p14; have qi14 : (0 < (t187.size : Int)) = True := eq_true (of_decide_eq_true (by first | (with_reducible assumption) | assumption)); replace q14 := eq_true q14) | (go_at_call 22; (with_reducible refine (engrossref1_Clean.calls (Int.toNat a0) t194 _ A17.out).mono ?_); rintro e w' ⟨rfl, ⟨nd, rfl⟩⟩) | (go_at_call 14; (with_reducible refine (engrossref1_Bits.calls t188 t194 true _ A18.out).mono ?_); rintro e w' ⟨rfl, ⟨nd, rfl⟩⟩))
                        go_ret
                        exact ⟨by first | rfl | (simp [errW_none, errW_some] <;> rfl) | (simp [*, errW_none, errW_some] <;> rfl), by repeat (first | (with_reducible first | exact HB.out | apply below_alloc | apply pw_below_drewN | apply below_drew1) | exact HB.out)⟩
                      · replace c26 := Bool.eq_false_iff.mpr c26
                        subst c26
                        have H1 : ((key_Of.f k (Int.toNat a1)).bind fun t196 => ((engrossref1_Place.f (Int.toNat a0)).bind fun t197 => ((engrossref1_Place.f (Int.toNat a1)).bind fun t198 => (some ((t187.toList == t196.toList) == (t197 == t198)))))) = some r := by rw [if_neg (show ¬ (false = true) by decide)] at H; exact H
                        clear H
                        have H := H1
                        clear H1
                        replace H := Option.bind_eq_some_iff.mp H
                        obtain ⟨t196, A320, H⟩ := H
                        replace H : ((engrossref1_Place.f (Int.toNat a0)).bind fun t197 => ((engrossref1_Place.f (Int.toNat a1)).bind fun t198 => (some ((t187.toList == t196.toList) == (t197 == t198))))) = some r := H
                        have A32 := Aside0.mk A320
                        clear A320
                        replace H := Option.bind_eq_some_iff.mp H
                        obtain ⟨t197, A330, H⟩ := H
                        replace H : ((engrossref1_Place.f (Int.toNat a1)).bind fun t198 => (some ((t187.toList == t196.toList) == (t197 == t198)))) = some r := H
                        have A33 := Aside0.mk A330
                        clear A330
                        replace H := Option.bind_eq_some_iff.mp H
                        obtain ⟨t198, A340, H⟩ := H
                        replace H : (some ((t187.toList == t196.toList) == (t197 == t198))) = some r := H
                        have A34 := Aside0.mk A340
                        clear A340
                        obtain rfl := Option.some.inj H
                        go_enter Try.func6, Try.ntmps6
                        go_wp2_with (first | ((with_reducible refine gate_callee (f := 10) rfl ?_); refine goesL_ (some 15) rfl rfl Try.func10 (by kernel_rfl) rfl #[] rfl (by (try simp only [List.map_toArray, List.map_cons, List.map_nil]); first | done | rfl | (simp only [List.length_drop, List.length_take]; rfl)) ?_; (with_reducible refine (engrosslaw5_begun.calls k  true _ A3.out).mono ?_); rintro e w35 ⟨rfl, hb⟩; refine ⟨_, rfl, ?_⟩; have n0_ := Aside0.mk (below_step (by repeat (first | (with_reducible first | exact HB.out | apply below_alloc | apply pw_below_drewN | apply below_drew1) | exact HB.out)) hb); clear HB; have HB := n0_; clear n0_; (try clear hb); (try clear hb2); (try clear hk); (try clear hi)) | ((with_reducible refine gate_callee (f := 20) rfl ?_); refine goesL_ (some 23) rfl rfl Try.func20 (by kernel_rfl) rfl #[.float .f64 (Int.toNat a0)] rfl (by (try simp only [List.map_toArray, List.map_cons, List.map_nil]); first | done | rfl | (simp only [List.length_drop, List.length_take]; rfl)) ?_; (with_reducible refine (key_Of.calls k (Int.toNat a0) t187 _ A5.out).mono ?_); rintro e w36 ⟨rfl, hb⟩; refine ⟨_, rfl, ?_⟩; have n0_ := Aside0.mk (below_step (by repeat (first | (with_reducible first | exact HB.out | apply below_alloc | apply pw_below_drewN | apply below_drew1) | exact HB.out)) hb); clear HB; have HB := n0_; clear n0_; (try clear hb); (try clear hb2); (try clear hk); (try clear hi)) | ((with_reducible refine gate_callee (f := 12) rfl ?_); refine goesL_ (some 26) rfl rfl Try.func12 (by kernel_rfl) rfl #[.string t187] rfl (by (try simp only [List.map_toArray, List.map_cons, List.map_nil]); first | done | rfl | (simp only [List.length_drop, List.length_take]; rfl)) ?_; (with_reducible refine (key_Float.calls k t187 t188 true _ A6.out).mono ?_); rintro e w37 ⟨rfl, hb⟩; refine ⟨_, rfl, ?_⟩; have n0_ := Aside0.mk (below_step (by repeat (first | (with_reducible first | exact HB.out | apply below_alloc | apply pw_below_drewN | apply below_drew1) | exact HB.out)) hb); clear HB; have HB := n0_; clear n0_; (try clear hb); (try clear hb2); (try clear hk); (try clear hi)) | ((with_reducible refine gate_callee (f := 12) rfl ?_); refine goesL_ (some 32) rfl rfl Try.func12 (by kernel_rfl) rfl #[.string (t187 ++ (⟨#[120]⟩ : ByteArray))] rfl (by (try simp only [List.map_toArray, List.map_cons, List.map_nil]); first | done | rfl | (simp only [List.length_drop, List.length_take]; rfl)) ?_; (with_reducible refine (key_Float.calls k (t187 ++ (⟨#[120]⟩ : ByteArray)) t190 false _ A8.out).mono ?_); rintro e w38 ⟨rfl, hb⟩; refine ⟨_, rfl, ?_⟩; have n0_ := Aside0.mk (below_step (by repeat (first | (with_reducible first | exact HB.out | apply below_alloc | apply pw_below_drewN | apply below_drew1) | exact HB.out)) hb); clear HB; have HB := n0_; clear n0_; (try clear hb); (try clear hb2); (try clear hk); (try clear hi)) | ((with_reducible refine gate_callee (f := 12) rfl ?_); refine goesL_ (some 39) rfl rfl Try.func12 (by kernel_rfl) rfl #[.string ((⟨#[103]⟩ : ByteArray) ++ (t187.extract 1 t187.size))] rfl (by (try simp only [List.map_toArray, List.map_cons, List.map_nil]); first | done | rfl | (simp only [List.length_drop, List.length_take]; rfl)) ?_; (with_reducible refine (key_Float.calls k ((⟨#[103]⟩ : ByteArray) ++ (t187.extract 1 t187.size)) t192 false _ A11.out).mono ?_); rintro e w39 ⟨rfl, hb⟩; refine ⟨_, rfl, ?_⟩; have n0_ := Aside0.mk (below_step (by repeat (first | (with_reducible first | exact HB.out | apply below_alloc | apply pw_below_drewN | apply below_drew1) | exact HB.out)) hb); clear HB; have HB := n0_; clear n0_; (try clear hb); (try clear hb2); (try clear hk); (try clear hi); have p14 : 0 ≤ (0 : Int) := (by omega); have q14 : 0 < t187.size := (by have : (0 : Int) < (t187.size : Int) := of_decide_eq_true (by first | (with_reducible assumption) | assumption); omega); have hx14 : ∀ h : 0 < t187.size, ((t187[0]'h).toNat : Int) = bt t187 0 := bt_at t187 0; clear p14; have qi14 : (0 < (t187.size : Int)) = True := eq_true (of_decide_eq_true (by first | (with_reducible assumption) | assumption)); replace q14 := eq_true q14) | (go_at_call 22; (with_reducible refine (engrossref1_Clean.calls (Int.toNat a0) t194 _ A17.out).mono ?_); rintro e w' ⟨rfl, ⟨nd, rfl⟩⟩) | (go_at_call 14; (with_reducible refine (engrossref1_Bits.calls t188 t194 true _ A18.out).mono ?_); rintro e w' ⟨rfl, ⟨nd, rfl⟩⟩) | (go_at_call 20; (with_reducible refine (key_Of.calls k (Int.toNat a1) t196 _ A32.out).mono ?_); rintro e w40 ⟨rfl, hb⟩; have n0_ := Aside0.mk (below_step (by repeat (first | (with_reducible first | exact HB.out | apply below_alloc | apply pw_below_drewN | apply below_drew1) | exact HB.out)) hb); clear HB; have HB := n0_; clear n0_; (try clear hb); (try clear hb2); (try clear hk); (try clear hi)) | (go_at_call 21; (with_reducible refine (engrossref1_Place.calls (Int.toNat a0) t197 _ A33.out).mono ?_); rintro e w' ⟨rfl, ⟨nd, rfl⟩⟩) | (go_at_call 21; (with_reducible refine (engrossref1_Place.calls (Int.toNat a1) t198 _ A34.out).mono ?_); rintro e w' ⟨rfl, ⟨nd, rfl⟩⟩))
                        go_ret
                        exact ⟨by first | rfl | (simp [errW_none, errW_some] <;> rfl) | (simp [*, errW_none, errW_some] <;> rfl), by repeat (first | (with_reducible first | exact HB.out | apply below_alloc | apply pw_below_drewN | apply below_drew1) | exact HB.out)⟩
                  · replace c19 := Bool.eq_false_iff.mpr c19
                    subst c19
                    have H1 : (some false) = some r := by rw [if_neg (show ¬ (false = true) by decide)] at H; exact H
                    clear H
                    have H := H1
                    clear H1
                    obtain rfl := Option.some.inj H
                    go_enter Try.func6, Try.ntmps6
                    go_wp2_with (first | ((with_reducible refine gate_callee (f := 10) rfl ?_); refine goesL_ (some 15) rfl rfl Try.func10 (by kernel_rfl) rfl #[] rfl (by (try simp only [List.map_toArray, List.map_cons, List.map_nil]); first | done | rfl | (simp only [List.length_drop, List.length_take]; rfl)) ?_; (with_reducible refine (engrosslaw5_begun.calls k  true _ A3.out).mono ?_); rintro e w41 ⟨rfl, hb⟩; refine ⟨_, rfl, ?_⟩; have n0_ := Aside0.mk (below_step (by repeat (first | (with_reducible first | exact HB.out | apply below_alloc | apply pw_below_drewN | apply below_drew1) | exact HB.out)) hb); clear HB; have HB := n0_; clear n0_; (try clear hb); (try clear hb2); (try clear hk); (try clear hi)) | ((with_reducible refine gate_callee (f := 20) rfl ?_); refine goesL_ (some 23) rfl rfl Try.func20 (by kernel_rfl) rfl #[.float .f64 (Int.toNat a0)] rfl (by (try simp only [List.map_toArray, List.map_cons, List.map_nil]); first | done | rfl | (simp only [List.length_drop, List.length_take]; rfl)) ?_; (with_reducible refine (key_Of.calls k (Int.toNat a0) t187 _ A5.out).mono ?_); rintro e w42 ⟨rfl, hb⟩; refine ⟨_, rfl, ?_⟩; have n0_ := Aside0.mk (below_step (by repeat (first | (with_reducible first | exact HB.out | apply below_alloc | apply pw_below_drewN | apply below_drew1) | exact HB.out)) hb); clear HB; have HB := n0_; clear n0_; (try clear hb); (try clear hb2); (try clear hk); (try clear hi)) | ((with_reducible refine gate_callee (f := 12) rfl ?_); refine goesL_ (some 26) rfl rfl Try.func12 (by kernel_rfl) rfl #[.string t187] rfl (by (try simp only [List.map_toArray, List.map_cons, List.map_nil]); first | done | rfl | (simp only [List.length_drop, List.length_take]; rfl)) ?_; (with_reducible refine (key_Float.calls k t187 t188 true _ A6.out).mono ?_); rintro e w43 ⟨rfl, hb⟩; refine ⟨_, rfl, ?_⟩; have n0_ := Aside0.mk (below_step (by repeat (first | (with_reducible first | exact HB.out | apply below_alloc | apply pw_below_drewN | apply below_drew1) | exact HB.out)) hb); clear HB; have HB := n0_; clear n0_; (try clear hb); (try clear hb2); (try clear hk); (try clear hi)) | ((with_reducible refine gate_callee (f := 12) rfl ?_); refine goesL_ (some 32) rfl rfl Try.func12 (by kernel_rfl) rfl #[.string (t187 ++ (⟨#[120]⟩ : ByteArray))] rfl (by (try simp only [List.map_toArray, List.map_cons, List.map_nil]); first | done | rfl | (simp only [List.length_drop, List.length_take]; rfl)) ?_; (with_reducible refine (key_Float.calls k (t187 ++ (⟨#[120]⟩ : ByteArray)) t190 t191 _ A8.out).mono ?_); rintro e w44 ⟨rfl, hb⟩; refine ⟨_, rfl, ?_⟩; have n0_ := Aside0.mk (below_step (by repeat (first | (with_reducible first | exact HB.out | apply below_alloc | apply pw_below_drewN | apply below_drew1) | exact HB.out)) hb); clear HB; have HB := n0_; clear n0_; (try clear hb); (try clear hb2); (try clear hk); (try clear hi)) | ((with_reducible refine gate_callee (f := 12) rfl ?_); refine goesL_ (some 39) rfl rfl Try.func12 (by kernel_rfl) rfl #[.string ((⟨#[103]⟩ : ByteArray) ++ (t187.extract 1 t187.size))] rfl (by (try simp only [List.map_toArray, List.map_cons, List.map_nil]); first | done | rfl | (simp only [List.length_drop, List.length_take]; rfl)) ?_; (with_reducible refine (key_Float.calls k ((⟨#[103]⟩ : ByteArray) ++ (t187.extract 1 t187.size)) t192 t193 _ A11.out).mono ?_); rintro e w45 ⟨rfl, hb⟩; refine ⟨_, rfl, ?_⟩; have n0_ := Aside0.mk (below_step (by repeat (first | (with_reducible first | exact HB.out | apply below_alloc | apply pw_below_drewN | apply below_drew1) | exact HB.out)) hb); clear HB; have HB := n0_; clear n0_; (try clear hb); (try clear hb2); (try clear hk); (try clear hi); have p14 : 0 ≤ (0 : Int) := (by omega); have q14 : 0 < t187.size := (by have : (0 : Int) < (t187.size : Int) := of_decide_eq_true (by first | (with_reducible assumption) | assumption); omega); have hx14 : ∀ h : 0 < t187.size, ((t187[0]'h).toNat : Int) = bt t187 0 := bt_at t187 0; clear p14; have qi14 : (0 < (t187.size : Int)) = True := eq_true (of_decide_eq_true (by first | (with_reducible assumption) | assumption)); replace q14 := eq_true q14) | (go_at_call 22; (with_reducible refine (engrossref1_Clean.calls (Int.toNat a0) t194 _ A17.out).mono ?_); rintro e w' ⟨rfl, ⟨nd, rfl⟩⟩) | (go_at_call 14; (with_reducible refine (engrossref1_Bits.calls t188 t194 false _ A18.out).mono ?_); rintro e w' ⟨rfl, ⟨nd, rfl⟩⟩))
                    go_ret
                    exact ⟨by first | rfl | (simp [errW_none, errW_some] <;> rfl) | (simp [*, errW_none, errW_some] <;> rfl), by repeat (first | (with_reducible first | exact HB.out | apply below_alloc | apply pw_below_drewN | apply below_drew1) | exact HB.out)⟩
                · replace c16 := Bool.eq_false_iff.mpr c16
                  subst c16
                  have H1 : (some false) = some r := by rw [if_neg (show ¬ (false = true) by decide)] at H; exact H
                  clear H
                  have H := H1
                  clear H1
                  obtain rfl := Option.some.inj H
                  go_enter Try.func6, Try.ntmps6
                  go_wp2_with (first | ((with_reducible refine gate_callee (f := 10) rfl ?_); refine goesL_ (some 15) rfl rfl Try.func10 (by kernel_rfl) rfl #[] rfl (by (try simp only [List.map_toArray, List.map_cons, List.map_nil]); first | done | rfl | (simp only [List.length_drop, List.length_take]; rfl)) ?_; (with_reducible refine (engrosslaw5_begun.calls k  true _ A3.out).mono ?_); rintro e w46 ⟨rfl, hb⟩; refine ⟨_, rfl, ?_⟩; have n0_ := Aside0.mk (below_step (by repeat (first | (with_reducible first | exact HB.out | apply below_alloc | apply pw_below_drewN | apply below_drew1) | exact HB.out)) hb); clear HB; have HB := n0_; clear n0_; (try clear hb); (try clear hb2); (try clear hk); (try clear hi)) | ((with_reducible refine gate_callee (f := 20) rfl ?_); refine goesL_ (some 23) rfl rfl Try.func20 (by kernel_rfl) rfl #[.float .f64 (Int.toNat a0)] rfl (by (try simp only [List.map_toArray, List.map_cons, List.map_nil]); first | done | rfl | (simp only [List.length_drop, List.length_take]; rfl)) ?_; (with_reducible refine (key_Of.calls k (Int.toNat a0) t187 _ A5.out).mono ?_); rintro e w47 ⟨rfl, hb⟩; refine ⟨_, rfl, ?_⟩; have n0_ := Aside0.mk (below_step (by repeat (first | (with_reducible first | exact HB.out | apply below_alloc | apply pw_below_drewN | apply below_drew1) | exact HB.out)) hb); clear HB; have HB := n0_; clear n0_; (try clear hb); (try clear hb2); (try clear hk); (try clear hi)) | ((with_reducible refine gate_callee (f := 12) rfl ?_); refine goesL_ (some 26) rfl rfl Try.func12 (by kernel_rfl) rfl #[.string t187] rfl (by (try simp only [List.map_toArray, List.map_cons, List.map_nil]); first | done | rfl | (simp only [List.length_drop, List.length_take]; rfl)) ?_; (with_reducible refine (key_Float.calls k t187 t188 false _ A6.out).mono ?_); rintro e w48 ⟨rfl, hb⟩; refine ⟨_, rfl, ?_⟩; have n0_ := Aside0.mk (below_step (by repeat (first | (with_reducible first | exact HB.out | apply below_alloc | apply pw_below_drewN | apply below_drew1) | exact HB.out)) hb); clear HB; have HB := n0_; clear n0_; (try clear hb); (try clear hb2); (try clear hk); (try clear hi)) | ((with_reducible refine gate_callee (f := 12) rfl ?_); refine goesL_ (some 32) rfl rfl Try.func12 (by kernel_rfl) rfl #[.string (t187 ++ (⟨#[120]⟩ : ByteArray))] rfl (by (try simp only [List.map_toArray, List.map_cons, List.map_nil]); first | done | rfl | (simp only [List.length_drop, List.length_take]; rfl)) ?_; (with_reducible refine (key_Float.calls k (t187 ++ (⟨#[120]⟩ : ByteArray)) t190 t191 _ A8.out).mono ?_); rintro e w49 ⟨rfl, hb⟩; refine ⟨_, rfl, ?_⟩; have n0_ := Aside0.mk (below_step (by repeat (first | (with_reducible first | exact HB.out | apply below_alloc | apply pw_below_drewN | apply below_drew1) | exact HB.out)) hb); clear HB; have HB := n0_; clear n0_; (try clear hb); (try clear hb2); (try clear hk); (try clear hi)) | ((with_reducible refine gate_callee (f := 12) rfl ?_); refine goesL_ (some 39) rfl rfl Try.func12 (by kernel_rfl) rfl #[.string ((⟨#[103]⟩ : ByteArray) ++ (t187.extract 1 t187.size))] rfl (by (try simp only [List.map_toArray, List.map_cons, List.map_nil]); first | done | rfl | (simp only [List.length_drop, List.length_take]; rfl)) ?_; (with_reducible refine (key_Float.calls k ((⟨#[103]⟩ : ByteArray) ++ (t187.extract 1 t187.size)) t192 t193 _ A11.out).mono ?_); rintro e w50 ⟨rfl, hb⟩; refine ⟨_, rfl, ?_⟩; have n0_ := Aside0.mk (below_step (by repeat (first | (with_reducible first | exact HB.out | apply below_alloc | apply pw_below_drewN | apply below_drew1) | exact HB.out)) hb); clear HB; have HB := n0_; clear n0_; (try clear hb); (try clear hb2); (try clear hk); (try clear hi); have p14 : 0 ≤ (0 : Int) := (by omega); have q14 : 0 < t187.size := (by have : (0 : Int) < (t187.size : Int) := of_decide_eq_true (by first | (with_reducible assumption) | assumption); omega); have hx14 : ∀ h : 0 < t187.size, ((t187[0]'h).toNat : Int) = bt t187 0 := bt_at t187 0; clear p14; have qi14 : (0 < (t187.size : Int)) = True := eq_true (of_decide_eq_true (by first | (with_reducible assumption) | assumption)); replace q14 := eq_true q14))
                  go_ret
                  exact ⟨by first | rfl | (simp [errW_none, errW_some] <;> rfl) | (simp [*, errW_none, errW_some] <;> rfl), by repeat (first | (with_reducible first | exact HB.out | apply below_alloc | apply pw_below_drewN | apply below_drew1) | exact HB.out)⟩
              · rw [if_neg c15] at H
                have c15b0 : ((bt t187 0) == 102) = false := beq_eq_false_iff_ne.mpr c15
                have c15b1 : ((bt t187 0) != 102) = true := bne_iff_ne.mpr c15
                obtain rfl := Option.some.inj H
                go_enter Try.func6, Try.ntmps6
                go_wp2_with (first | ((with_reducible refine gate_callee (f := 10) rfl ?_); refine goesL_ (some 15) rfl rfl Try.func10 (by kernel_rfl) rfl #[] rfl (by (try simp only [List.map_toArray, List.map_cons, List.map_nil]); first | done | rfl | (simp only [List.length_drop, List.length_take]; rfl)) ?_; (with_reducible refine (engrosslaw5_begun.calls k  true _ A3.out).mono ?_); rintro e w51 ⟨rfl, hb⟩; refine ⟨_, rfl, ?_⟩; have n0_ := Aside0.mk (below_step (by repeat (first | (with_reducible first | exact HB.out | apply below_alloc | apply pw_below_drewN | apply below_drew1) | exact HB.out)) hb); clear HB; have HB := n0_; clear n0_; (try clear hb); (try clear hb2); (try clear hk); (try clear hi)) | ((with_reducible refine gate_callee (f := 20) rfl ?_); refine goesL_ (some 23) rfl rfl Try.func20 (by kernel_rfl) rfl #[.float .f64 (Int.toNat a0)] rfl (by (try simp only [List.map_toArray, List.map_cons, List.map_nil]); first | done | rfl | (simp only [List.length_drop, List.length_take]; rfl)) ?_; (with_reducible refine (key_Of.calls k (Int.toNat a0) t187 _ A5.out).mono ?_); rintro e w52 ⟨rfl, hb⟩; refine ⟨_, rfl, ?_⟩; have n0_ := Aside0.mk (below_step (by repeat (first | (with_reducible first | exact HB.out | apply below_alloc | apply pw_below_drewN | apply below_drew1) | exact HB.out)) hb); clear HB; have HB := n0_; clear n0_; (try clear hb); (try clear hb2); (try clear hk); (try clear hi)) | ((with_reducible refine gate_callee (f := 12) rfl ?_); refine goesL_ (some 26) rfl rfl Try.func12 (by kernel_rfl) rfl #[.string t187] rfl (by (try simp only [List.map_toArray, List.map_cons, List.map_nil]); first | done | rfl | (simp only [List.length_drop, List.length_take]; rfl)) ?_; (with_reducible refine (key_Float.calls k t187 t188 t189 _ A6.out).mono ?_); rintro e w53 ⟨rfl, hb⟩; refine ⟨_, rfl, ?_⟩; have n0_ := Aside0.mk (below_step (by repeat (first | (with_reducible first | exact HB.out | apply below_alloc | apply pw_below_drewN | apply below_drew1) | exact HB.out)) hb); clear HB; have HB := n0_; clear n0_; (try clear hb); (try clear hb2); (try clear hk); (try clear hi)) | ((with_reducible refine gate_callee (f := 12) rfl ?_); refine goesL_ (some 32) rfl rfl Try.func12 (by kernel_rfl) rfl #[.string (t187 ++ (⟨#[120]⟩ : ByteArray))] rfl (by (try simp only [List.map_toArray, List.map_cons, List.map_nil]); first | done | rfl | (simp only [List.length_drop, List.length_take]; rfl)) ?_; (with_reducible refine (key_Float.calls k (t187 ++ (⟨#[120]⟩ : ByteArray)) t190 t191 _ A8.out).mono ?_); rintro e w54 ⟨rfl, hb⟩; refine ⟨_, rfl, ?_⟩; have n0_ := Aside0.mk (below_step (by repeat (first | (with_reducible first | exact HB.out | apply below_alloc | apply pw_below_drewN | apply below_drew1) | exact HB.out)) hb); clear HB; have HB := n0_; clear n0_; (try clear hb); (try clear hb2); (try clear hk); (try clear hi)) | ((with_reducible refine gate_callee (f := 12) rfl ?_); refine goesL_ (some 39) rfl rfl Try.func12 (by kernel_rfl) rfl #[.string ((⟨#[103]⟩ : ByteArray) ++ (t187.extract 1 t187.size))] rfl (by (try simp only [List.map_toArray, List.map_cons, List.map_nil]); first | done | rfl | (simp only [List.length_drop, List.length_take]; rfl)) ?_; (with_reducible refine (key_Float.calls k ((⟨#[103]⟩ : ByteArray) ++ (t187.extract 1 t187.size)) t192 t193 _ A11.out).mono ?_); rintro e w55 ⟨rfl, hb⟩; refine ⟨_, rfl, ?_⟩; have n0_ := Aside0.mk (below_step (by repeat (first | (with_reducible first | exact HB.out | apply below_alloc | apply pw_below_drewN | apply below_drew1) | exact HB.out)) hb); clear HB; have HB := n0_; clear n0_; (try clear hb); (try clear hb2); (try clear hk); (try clear hi); have p14 : 0 ≤ (0 : Int) := (by omega); have q14 : 0 < t187.size := (by have : (0 : Int) < (t187.size : Int) := of_decide_eq_true (by first | (with_reducible assumption) | assumption); omega); have hx14 : ∀ h : 0 < t187.size, ((t187[0]'h).toNat : Int) = bt t187 0 := bt_at t187 0; clear p14; have qi14 : (0 < (t187.size : Int)) = True := eq_true (of_decide_eq_true (by first | (with_reducible assumption) | assumption)); replace q14 := eq_true q14))
                go_ret
                exact ⟨by first | rfl | (simp [errW_none, errW_some] <;> rfl) | (simp [*, errW_none, errW_some] <;> rfl), by repeat (first | (with_reducible first | exact HB.out | apply below_alloc | apply pw_below_drewN | apply below_drew1) | exact HB.out)⟩
            · rw [if_neg c13] at H
              exact absurd H (by simp)
          · rw [if_neg c12] at H
            have c12b0 : ((t187.size : Int) == 9) = false := beq_eq_false_iff_ne.mpr c12
            have c12b1 : ((t187.size : Int) != 9) = true := bne_iff_ne.mpr c12
            obtain rfl := Option.some.inj H
            go_enter Try.func6, Try.ntmps6
            go_wp2_with (first | ((with_reducible refine gate_callee (f := 10) rfl ?_); refine goesL_ (some 15) rfl rfl Try.func10 (by kernel_rfl) rfl #[] rfl (by (try simp only [List.map_toArray, List.map_cons, List.map_nil]); first | done | rfl | (simp only [List.length_drop, List.length_take]; rfl)) ?_; (with_reducible refine (engrosslaw5_begun.calls k  true _ A3.out).mono ?_); rintro e w56 ⟨rfl, hb⟩; refine ⟨_, rfl, ?_⟩; have n0_ := Aside0.mk (below_step (by repeat (first | (with_reducible first | exact HB.out | apply below_alloc | apply pw_below_drewN | apply below_drew1) | exact HB.out)) hb); clear HB; have HB := n0_; clear n0_; (try clear hb); (try clear hb2); (try clear hk); (try clear hi)) | ((with_reducible refine gate_callee (f := 20) rfl ?_); refine goesL_ (some 23) rfl rfl Try.func20 (by kernel_rfl) rfl #[.float .f64 (Int.toNat a0)] rfl (by (try simp only [List.map_toArray, List.map_cons, List.map_nil]); first | done | rfl | (simp only [List.length_drop, List.length_take]; rfl)) ?_; (with_reducible refine (key_Of.calls k (Int.toNat a0) t187 _ A5.out).mono ?_); rintro e w57 ⟨rfl, hb⟩; refine ⟨_, rfl, ?_⟩; have n0_ := Aside0.mk (below_step (by repeat (first | (with_reducible first | exact HB.out | apply below_alloc | apply pw_below_drewN | apply below_drew1) | exact HB.out)) hb); clear HB; have HB := n0_; clear n0_; (try clear hb); (try clear hb2); (try clear hk); (try clear hi)) | ((with_reducible refine gate_callee (f := 12) rfl ?_); refine goesL_ (some 26) rfl rfl Try.func12 (by kernel_rfl) rfl #[.string t187] rfl (by (try simp only [List.map_toArray, List.map_cons, List.map_nil]); first | done | rfl | (simp only [List.length_drop, List.length_take]; rfl)) ?_; (with_reducible refine (key_Float.calls k t187 t188 t189 _ A6.out).mono ?_); rintro e w58 ⟨rfl, hb⟩; refine ⟨_, rfl, ?_⟩; have n0_ := Aside0.mk (below_step (by repeat (first | (with_reducible first | exact HB.out | apply below_alloc | apply pw_below_drewN | apply below_drew1) | exact HB.out)) hb); clear HB; have HB := n0_; clear n0_; (try clear hb); (try clear hb2); (try clear hk); (try clear hi)) | ((with_reducible refine gate_callee (f := 12) rfl ?_); refine goesL_ (some 32) rfl rfl Try.func12 (by kernel_rfl) rfl #[.string (t187 ++ (⟨#[120]⟩ : ByteArray))] rfl (by (try simp only [List.map_toArray, List.map_cons, List.map_nil]); first | done | rfl | (simp only [List.length_drop, List.length_take]; rfl)) ?_; (with_reducible refine (key_Float.calls k (t187 ++ (⟨#[120]⟩ : ByteArray)) t190 t191 _ A8.out).mono ?_); rintro e w59 ⟨rfl, hb⟩; refine ⟨_, rfl, ?_⟩; have n0_ := Aside0.mk (below_step (by repeat (first | (with_reducible first | exact HB.out | apply below_alloc | apply pw_below_drewN | apply below_drew1) | exact HB.out)) hb); clear HB; have HB := n0_; clear n0_; (try clear hb); (try clear hb2); (try clear hk); (try clear hi)) | ((with_reducible refine gate_callee (f := 12) rfl ?_); refine goesL_ (some 39) rfl rfl Try.func12 (by kernel_rfl) rfl #[.string ((⟨#[103]⟩ : ByteArray) ++ (t187.extract 1 t187.size))] rfl (by (try simp only [List.map_toArray, List.map_cons, List.map_nil]); first | done | rfl | (simp only [List.length_drop, List.length_take]; rfl)) ?_; (with_reducible refine (key_Float.calls k ((⟨#[103]⟩ : ByteArray) ++ (t187.extract 1 t187.size)) t192 t193 _ A11.out).mono ?_); rintro e w60 ⟨rfl, hb⟩; refine ⟨_, rfl, ?_⟩; have n0_ := Aside0.mk (below_step (by repeat (first | (with_reducible first | exact HB.out | apply below_alloc | apply pw_below_drewN | apply below_drew1) | exact HB.out)) hb); clear HB; have HB := n0_; clear n0_; (try clear hb); (try clear hb2); (try clear hk); (try clear hi)))
            go_ret
            exact ⟨by first | rfl | (simp [errW_none, errW_some] <;> rfl) | (simp [*, errW_none, errW_some] <;> rfl), by repeat (first | (with_reducible first | exact HB.out | apply below_alloc | apply pw_below_drewN | apply below_drew1) | exact HB.out)⟩
        · rw [if_neg c10] at H
          exact absurd H (by simp)
      · rw [if_neg c9] at H
        exact absurd H (by simp)
    · rw [if_neg c7] at H
      exact absurd H (by simp)
  · replace c4 := Bool.eq_false_iff.mpr c4
    subst c4
    have H1 : (some false) = some r := by rw [if_neg (show ¬ (false = true) by decide)] at H; exact H
    clear H
    have H := H1
    clear H1
    obtain rfl := Option.some.inj H
    go_enter Try.func6, Try.ntmps6
    go_wp2_with (first | ((with_reducible refine gate_callee (f := 10) rfl ?_); refine goesL_ (some 15) rfl rfl Try.func10 (by kernel_rfl) rfl #[] rfl (by (try simp only [List.map_toArray, List.map_cons, List.map_nil]); first | done | rfl | (simp only [List.length_drop, List.length_take]; rfl)) ?_; (with_reducible refine (engrosslaw5_begun.calls k  false _ A3.out).mono ?_); rintro e w61 ⟨rfl, hb⟩; refine ⟨_, rfl, ?_⟩; have n0_ := Aside0.mk (below_step (by repeat (first | (with_reducible first | exact HB.out | apply below_alloc | apply pw_below_drewN | apply below_drew1) | exact HB.out)) hb); clear HB; have HB := n0_; clear n0_; (try clear hb); (try clear hb2); (try clear hk); (try clear hi)))
    go_ret
    exact ⟨by first | rfl | (simp [errW_none, errW_some] <;> rfl) | (simp [*, errW_none, errW_some] <;> rfl), by repeat (first | (with_reducible first | exact HB.out | apply below_alloc | apply pw_below_drewN | apply below_drew1) | exact HB.out)⟩

/-- THE ONE PURE STATEMENT of engrosslaw5_KeyOfs: yours. -/
def engrosslaw5_KeyOfs.Pure : Prop := ∀ (a0 : Int) (a1 : Int), (Lit.int .u64 a0).wf = true → (Lit.int .u64 a1).wf = true → ∃ k, engrosslaw5_KeyOfs.f k a0 a1 = some true
theorem engrosslaw5_KeyOfs.walk (P : engrosslaw5_KeyOfs.Pure) (a0 : Int) (a1 : Int) (w : World) (w0 : (Lit.int .u64 a0).wf = true) (w1 : (Lit.int .u64 a1).wf = true) :
    Calls Try.prog 6 #[.int .u64 a0, .int .u64 a1] w fun e w' => e = .returned (.bool true) ∧ Below w.heap.size w w' := by
  obtain ⟨k, h⟩ := P a0 a1 w0 w1
  refine (engrosslaw5_KeyOfs.calls k a0 a1 true w h).mono ?_
  rintro e w' ⟨rfl, hd⟩
  exact ⟨rfl, hd⟩

/-! ### engrosslaw5_KeySpan: function 7 -/
def engrosslaw5_KeySpan.j0 : Nat → ByteArray → ByteArray → ByteArray → ByteArray → Bool → Option (Bool)
  | 0, _, _, _, _, _ => none
  | k + 1, x0, x1, x2, x3, x38 => if x38 = true then (some true) else ((key_In.f x0 x1 x2).bind fun t204 => ((key_In.f x0 x2 x3).bind fun t205 => (if t204 = true then (if t205 = true then (some false) else ((key_In.f x0 x1 x3).bind fun t206 => (some (t206 == true)))) else ((key_In.f x0 x1 x3).bind fun t207 => (some (t207 == t205))))))
def engrosslaw5_KeySpan.f (k : Nat) (a0 : ByteArray) (a1 : ByteArray) (a2 : ByteArray) (a3 : ByteArray) : Option (Bool) := (engrosslaw5_begun.f k).bind fun t199 => (if t199 = true then ((engrosslaw1_Cut.f a0 20).bind fun t200 => ((engrosslaw1_Cut.f a1 20).bind fun t201 => ((engrosslaw1_Cut.f a2 20).bind fun t202 => ((engrosslaw1_Cut.f a3 20).bind fun t203 => (if t202.toList = ([] : List UInt8) then (engrosslaw5_KeySpan.j0 k t200 t201 t202 t203 true) else (if (Op.bytesLess t202.toList t201.toList) = true then (engrosslaw5_KeySpan.j0 k t200 t201 t202 t203 true) else (if t203.toList = ([] : List UInt8) then (engrosslaw5_KeySpan.j0 k t200 t201 t202 t203 false) else (engrosslaw5_KeySpan.j0 k t200 t201 t202 t203 (Op.bytesLess t203.toList t202.toList))))))))) else (some false))
theorem engrosslaw5_KeySpan.mono_l : ∀ k, (∀ y0 y1 y2 y3 y4, LeO (engrosslaw5_KeySpan.j0 k y0 y1 y2 y3 y4) (engrosslaw5_KeySpan.j0 (k + 1) y0 y1 y2 y3 y4))
  | 0 => fun _ _ _ _ _ r h => by simp [engrosslaw5_KeySpan.j0] at h
  | k + 1 => by
    have ih0 := engrosslaw5_KeySpan.mono_l k
    · intro y0 y1 y2 y3 y4
      unfold engrosslaw5_KeySpan.j0
      repeat' first
      | (with_reducible exact ih0 _ _ _ _ _)
      | (with_reducible exact engrosslaw5_begun.mono _)
      | (with_reducible exact LeO.refl _)
      | (with_reducible exact LeO.none _)
      | (with_reducible refine LeO.ite ?_ ?_)
      | (with_reducible refine LeO.bind ?_ (fun _ => ?_))
      | exact ih0 _ _ _ _ _
      | exact engrosslaw5_begun.mono _
      | exact LeO.none _
      | refine LeO.ite ?_ ?_
      | refine LeO.bind ?_ (fun _ => ?_)
theorem engrosslaw5_KeySpan.mono : ∀ a0 a1 a2 a3 k, LeO (engrosslaw5_KeySpan.f k a0 a1 a2 a3) (engrosslaw5_KeySpan.f (k + 1) a0 a1 a2 a3) := by
  intro a0 a1 a2 a3 k
  have ih0 := engrosslaw5_KeySpan.mono_l k
  unfold engrosslaw5_KeySpan.f
  repeat' first
      | (with_reducible exact ih0 _ _ _ _ _)
      | (with_reducible exact engrosslaw5_begun.mono _)
      | (with_reducible exact LeO.refl _)
      | (with_reducible exact LeO.none _)
      | (with_reducible refine LeO.ite ?_ ?_)
      | (with_reducible refine LeO.bind ?_ (fun _ => ?_))
      | exact ih0 _ _ _ _ _
      | exact engrosslaw5_begun.mono _
      | exact LeO.none _
      | refine LeO.ite ?_ ?_
      | refine LeO.bind ?_ (fun _ => ?_)
set_option maxHeartbeats 8000000 in
set_option maxRecDepth 100000 in
theorem engrosslaw5_KeySpan.calls (k : Nat) (a0 : ByteArray) (a1 : ByteArray) (a2 : ByteArray) (a3 : ByteArray) (r : Bool) (w : World) (h : engrosslaw5_KeySpan.f k a0 a1 a2 a3 = some r) :
    Calls Try.prog 7 #[.string a0, .string a1, .string a2, .string a3] w fun e w' => e = .returned (.bool r) ∧ Below w.heap.size w w' := by
  have HB := Aside0.mk (Below.refl w.heap.size w)
  have H : ((engrosslaw5_begun.f k).bind fun t199 => (if t199 = true then ((engrosslaw1_Cut.f a0 20).bind fun t200 => ((engrosslaw1_Cut.f a1 20).bind fun t201 => ((engrosslaw1_Cut.f a2 20).bind fun t202 => ((engrosslaw1_Cut.f a3 20).bind fun t203 => (if t202.toList = ([] : List UInt8) then (engrosslaw5_KeySpan.j0 k t200 t201 t202 t203 true) else (if (Op.bytesLess t202.toList t201.toList) = true then (engrosslaw5_KeySpan.j0 k t200 t201 t202 t203 true) else (if t203.toList = ([] : List UInt8) then (engrosslaw5_KeySpan.j0 k t200 t201 t202 t203 false) else (engrosslaw5_KeySpan.j0 k t200 t201 t202 t203 (Op.bytesLess t203.toList t202.toList))))))))) else (some false))) = some r := h
  clear h
  replace H := Option.bind_eq_some_iff.mp H
  obtain ⟨t199, A50, H⟩ := H
  replace H : (if t199 = true then ((engrosslaw1_Cut.f a0 20).bind fun t200 => ((engrosslaw1_Cut.f a1 20).bind fun t201 => ((engrosslaw1_Cut.f a2 20).bind fun t202 => ((engrosslaw1_Cut.f a3 20).bind fun t203 => (if t202.toList = ([] : List UInt8) then (engrosslaw5_KeySpan.j0 k t200 t201 t202 t203 true) else (if (Op.bytesLess t202.toList t201.toList) = true then (engrosslaw5_KeySpan.j0 k t200 t201 t202 t203 true) else (if t203.toList = ([] : List UInt8) then (engrosslaw5_KeySpan.j0 k t200 t201 t202 t203 false) else (engrosslaw5_KeySpan.j0 k t200 t201 t202 t203 (Op.bytesLess t203.toList t202.toList))))))))) else (some false)) = some r := H
  have A5 := Aside0.mk A50
  clear A50
  by_cases c6 : t199 = true
  · subst c6
    have H1 : ((engrosslaw1_Cut.f a0 20).bind fun t200 => ((engrosslaw1_Cut.f a1 20).bind fun t201 => ((engrosslaw1_Cut.f a2 20).bind fun t202 => ((engrosslaw1_Cut.f a3 20).bind fun t203 => (if t202.toList = ([] : List UInt8) then (engrosslaw5_KeySpan.j0 k t200 t201 t202 t203 true) else (if (Op.bytesLess t202.toList t201.toList) = true then (engrosslaw5_KeySpan.j0 k t200 t201 t202 t203 true) else (if t203.toList = ([] : List UInt8) then (engrosslaw5_KeySpan.j0 k t200 t201 t202 t203 false) else (engrosslaw5_KeySpan.j0 k t200 t201 t202 t203 (Op.bytesLess t203.toList t202.toList))))))))) = some r := by rw [if_pos rfl] at H; exact H
    clear H
    have H := H1
    clear H1
    replace H := Option.bind_eq_some_iff.mp H
    obtain ⟨t200, A70, H⟩ := H
    replace H : ((engrosslaw1_Cut.f a1 20).bind fun t201 => ((engrosslaw1_Cut.f a2 20).bind fun t202 => ((engrosslaw1_Cut.f a3 20).bind fun t203 => (if t202.toList = ([] : List UInt8) then (engrosslaw5_KeySpan.j0 k t200 t201 t202 t203 true) else (if (Op.bytesLess t202.toList t201.toList) = true then (engrosslaw5_KeySpan.j0 k t200 t201 t202 t203 true) else (if t203.toList = ([] : List UInt8) then (engrosslaw5_KeySpan.j0 k t200 t201 t202 t203 false) else (engrosslaw5_KeySpan.j0 k t200 t201 t202 t203 (Op.bytesLess t203.toList t202.toList)))))))) = some r := H
    have A7 := Aside0.mk A70
    clear A70
    replace H := Option.bind_eq_some_iff.mp H
    obtain ⟨t201, A80, H⟩ := H
    replace H : ((engrosslaw1_Cut.f a2 20).bind fun t202 => ((engrosslaw1_Cut.f a3 20).bind fun t203 => (if t202.toList = ([] : List UInt8) then (engrosslaw5_KeySpan.j0 k t200 t201 t202 t203 true) else (if (Op.bytesLess t202.toList t201.toList) = true then (engrosslaw5_KeySpan.j0 k t200 t201 t202 t203 true) else (if t203.toList = ([] : List UInt8) then (engrosslaw5_KeySpan.j0 k t200 t201 t202 t203 false) else (engrosslaw5_KeySpan.j0 k t200 t201 t202 t203 (Op.bytesLess t203.toList t202.toList))))))) = some r := H
    have A8 := Aside0.mk A80
    clear A80
    replace H := Option.bind_eq_some_iff.mp H
    obtain ⟨t202, A90, H⟩ := H
    replace H : ((engrosslaw1_Cut.f a3 20).bind fun t203 => (if t202.toList = ([] : List UInt8) then (engrosslaw5_KeySpan.j0 k t200 t201 t202 t203 true) else (if (Op.bytesLess t202.toList t201.toList) = true then (engrosslaw5_KeySpan.j0 k t200 t201 t202 t203 true) else (if t203.toList = ([] : List UInt8) then (engrosslaw5_KeySpan.j0 k t200 t201 t202 t203 false) else (engrosslaw5_KeySpan.j0 k t200 t201 t202 t203 (Op.bytesLess t203.toList t202.toList)))))) = some r := H
    have A9 := Aside0.mk A90
    clear A90
    replace H := Option.bind_eq_some_iff.mp H
    obtain ⟨t203, A100, H⟩ := H
    replace H : (if t202.toList = ([] : List UInt8) then (engrosslaw5_KeySpan.j0 k t200 t201 t202 t203 true) else (if (Op.bytesLess t202.toList t201.toList) = true then (engrosslaw5_KeySpan.j0 k t200 t201 t202 t203 true) else (if t203.toList = ([] : List UInt8) then (engrosslaw5_KeySpan.j0 k t200 t201 t202 t203 false) else (engrosslaw5_KeySpan.j0 k t200 t201 t202 t203 (Op.bytesLess t203.toList t202.toList))))) = some r := H
    have A10 := Aside0.mk A100
    clear A100
    have HC11 := Aside0.mk H
    clear H
    go_enter Try.func7, Try.ntmps7
    go_upto_region 5 with (first | ((with_reducible refine gate_callee (f := 10) rfl ?_); refine goesL_ (some 12) rfl rfl Try.func10 (by kernel_rfl) rfl #[] rfl (by (try simp only [List.map_toArray, List.map_cons, List.map_nil]); first | done | rfl | (simp only [List.length_drop, List.length_take]; rfl)) ?_; (with_reducible refine (engrosslaw5_begun.calls k  true _ A5.out).mono ?_); rintro e w12 ⟨rfl, hb⟩; refine ⟨_, rfl, ?_⟩; have n0_ := Aside0.mk (below_step (by repeat (first | (with_reducible first | exact HB.out | apply below_alloc | apply pw_below_drewN | apply below_drew1) | exact HB.out)) hb); clear HB; have HB := n0_; clear n0_; (try clear hb); (try clear hb2); (try clear hk); (try clear hi)) | ((with_reducible refine gate_callee (f := 11) rfl ?_); refine goesL_ (some 16) rfl rfl Try.func11 (by kernel_rfl) rfl #[.string a0, .int .i64 20] rfl (by (try simp only [List.map_toArray, List.map_cons, List.map_nil]); first | done | rfl | (simp only [List.length_drop, List.length_take]; rfl)) ?_; (with_reducible refine (engrosslaw1_Cut.calls a0 20 t200 _ A7.out).mono ?_); rintro e w' ⟨rfl, ⟨nd, rfl⟩⟩; refine ⟨_, rfl, ?_⟩) | ((with_reducible refine gate_callee (f := 11) rfl ?_); refine goesL_ (some 18) rfl rfl Try.func11 (by kernel_rfl) rfl #[.string a1, .int .i64 20] rfl (by (try simp only [List.map_toArray, List.map_cons, List.map_nil]); first | done | rfl | (simp only [List.length_drop, List.length_take]; rfl)) ?_; (with_reducible refine (engrosslaw1_Cut.calls a1 20 t201 _ A8.out).mono ?_); rintro e w' ⟨rfl, ⟨nd, rfl⟩⟩; refine ⟨_, rfl, ?_⟩) | ((with_reducible refine gate_callee (f := 11) rfl ?_); refine goesL_ (some 20) rfl rfl Try.func11 (by kernel_rfl) rfl #[.string a2, .int .i64 20] rfl (by (try simp only [List.map_toArray, List.map_cons, List.map_nil]); first | done | rfl | (simp only [List.length_drop, List.length_take]; rfl)) ?_; (with_reducible refine (engrosslaw1_Cut.calls a2 20 t202 _ A9.out).mono ?_); rintro e w' ⟨rfl, ⟨nd, rfl⟩⟩; refine ⟨_, rfl, ?_⟩) | ((with_reducible refine gate_callee (f := 11) rfl ?_); refine goesL_ (some 22) rfl rfl Try.func11 (by kernel_rfl) rfl #[.string a3, .int .i64 20] rfl (by (try simp only [List.map_toArray, List.map_cons, List.map_nil]); first | done | rfl | (simp only [List.length_drop, List.length_take]; rfl)) ?_; (with_reducible refine (engrosslaw1_Cut.calls a3 20 t203 _ A10.out).mono ?_); rintro e w' ⟨rfl, ⟨nd, rfl⟩⟩; refine ⟨_, rfl, ?_⟩))
    (try simp only [Act.put, List.setIfInBounds_toArray, List.set_cons_zero, List.set_cons_succ])
    go_cut [38] (fun v38 wc => ∃ (kq : Nat) (x38_10 : Bool), v38 = .bool x38_10 ∧ Aside0 (engrosslaw5_KeySpan.j0 kq t200 t201 t202 t203 x38_10 = some r) ∧ Aside0 (kq ≤ k) ∧ Aside0 (Below w.heap.size w wc))
    case first =>
      have H := HC11.out
      clear HC11
      by_cases c13 : t202.toList = ([] : List UInt8)
      · rw [if_pos c13] at H
        have c13b0 : (t202.toList == ([] : List UInt8)) = true := beq_iff_eq.mpr c13
        have c13b1 : (t202.toList != ([] : List UInt8)) = false := bne_eq_false_iff_eq.mpr c13
        clear c13
        (first | rw [c13b0] | (simp only [i64_w, i32_w]; rw [c13b0]) | skip)
        have H' := Aside0.mk H
        clear H
        go_wp2
        go_meet
        case rel => exact ⟨_, (true), (by first | rfl | (simp; done) | (simp [*]; done)), H', ⟨by first | omega | exact Nat.le_refl _⟩, ⟨by repeat (first | (with_reducible first | exact HB.out | apply below_alloc | apply pw_below_drewN | apply below_drew1) | exact HB.out)⟩⟩
      · rw [if_neg c13] at H
        have c13b0 : (t202.toList == ([] : List UInt8)) = false := beq_eq_false_iff_ne.mpr c13
        have c13b1 : (t202.toList != ([] : List UInt8)) = true := bne_iff_ne.mpr c13
        (first | rw [c13b0] | (simp only [i64_w, i32_w]; rw [c13b0]) | skip)
        by_cases c14 : (Op.bytesLess t202.toList t201.toList) = true
        · rw [if_pos c14] at H
          have c14b0 : (Op.bytesLess t202.toList t201.toList) = true := c14
          clear c14
          have H' := Aside0.mk H
          clear H
          go_wp2
          go_meet
          case rel => exact ⟨_, (true), (by first | rfl | (simp; done) | (simp [*]; done)), H', ⟨by first | omega | exact Nat.le_refl _⟩, ⟨by repeat (first | (with_reducible first | exact HB.out | apply below_alloc | apply pw_below_drewN | apply below_drew1) | exact HB.out)⟩⟩
        · rw [if_neg c14] at H
          have c14b0 : (Op.bytesLess t202.toList t201.toList) = false := by simpa using c14
          clear c14
          by_cases c15 : t203.toList = ([] : List UInt8)
          · rw [if_pos c15] at H
            have c15b0 : (t203.toList == ([] : List UInt8)) = true := beq_iff_eq.mpr c15
            have c15b1 : (t203.toList != ([] : List UInt8)) = false := bne_eq_false_iff_eq.mpr c15
            clear c15
            have H' := Aside0.mk H
            clear H
            go_wp2
            go_meet
            case rel => exact ⟨_, (false), (by first | rfl | (simp; done) | (simp [*]; done)), H', ⟨by first | omega | exact Nat.le_refl _⟩, ⟨by repeat (first | (with_reducible first | exact HB.out | apply below_alloc | apply pw_below_drewN | apply below_drew1) | exact HB.out)⟩⟩
          · rw [if_neg c15] at H
            have c15b0 : (t203.toList == ([] : List UInt8)) = false := beq_eq_false_iff_ne.mpr c15
            have c15b1 : (t203.toList != ([] : List UInt8)) = true := bne_iff_ne.mpr c15
            have H' := Aside0.mk H
            clear H
            go_wp2
            go_meet
            case rel => exact ⟨_, ((Op.bytesLess t203.toList t202.toList)), (by first | rfl | (simp; done) | (simp [*]; done)), H', ⟨by first | omega | exact Nat.le_refl _⟩, ⟨by repeat (first | (with_reducible first | exact HB.out | apply below_alloc | apply pw_below_drewN | apply below_drew1) | exact HB.out)⟩⟩
    case rest =>
      clear HC11
      try clear c1
      try clear p2
      try clear c6
      try clear c7
      try clear c10
      try clear c11
      try clear c13
      try clear c13b0
      try clear c13b1
      try clear c14
      try clear c14b0
      try clear c15
      try clear c15b0
      try clear c15b1
      obtain ⟨kq, x38_10, rfl, HA, HJ10, HB⟩ := hcut
      cases kq with
      | zero => exact absurd HA.out (by simp [engrosslaw5_KeySpan.j0])
      | succ kj10 =>
        have H := HA.out
        clear HA
        simp only [engrosslaw5_KeySpan.j0] at H
        by_cases c16 : x38_10 = true
        · subst c16
          have H1 : (some true) = some r := by rw [if_pos rfl] at H; exact H
          clear H
          have H := H1
          clear H1
          obtain rfl := Option.some.inj H
          go_wp2
          go_ret
          exact ⟨by first | rfl | (simp [errW_none, errW_some] <;> rfl) | (simp [*, errW_none, errW_some] <;> rfl), by repeat (first | (with_reducible first | exact HB.out | apply below_alloc | apply pw_below_drewN | apply below_drew1) | exact HB.out)⟩
        · replace c16 := Bool.eq_false_iff.mpr c16
          subst c16
          have H1 : ((key_In.f t200 t201 t202).bind fun t204 => ((key_In.f t200 t202 t203).bind fun t205 => (if t204 = true then (if t205 = true then (some false) else ((key_In.f t200 t201 t203).bind fun t206 => (some (t206 == true)))) else ((key_In.f t200 t201 t203).bind fun t207 => (some (t207 == t205)))))) = some r := by rw [if_neg (show ¬ (false = true) by decide)] at H; exact H
          clear H
          have H := H1
          clear H1
          replace H := Option.bind_eq_some_iff.mp H
          obtain ⟨t204, A170, H⟩ := H
          replace H : ((key_In.f t200 t202 t203).bind fun t205 => (if t204 = true then (if t205 = true then (some false) else ((key_In.f t200 t201 t203).bind fun t206 => (some (t206 == true)))) else ((key_In.f t200 t201 t203).bind fun t207 => (some (t207 == t205))))) = some r := H
          have A17 := Aside0.mk A170
          clear A170
          replace H := Option.bind_eq_some_iff.mp H
          obtain ⟨t205, A180, H⟩ := H
          replace H : (if t204 = true then (if t205 = true then (some false) else ((key_In.f t200 t201 t203).bind fun t206 => (some (t206 == true)))) else ((key_In.f t200 t201 t203).bind fun t207 => (some (t207 == t205)))) = some r := H
          have A18 := Aside0.mk A180
          clear A180
          by_cases c19 : t204 = true
          · subst c19
            have H1 : (if t205 = true then (some false) else ((key_In.f t200 t201 t203).bind fun t206 => (some (t206 == true)))) = some r := by rw [if_pos rfl] at H; exact H
            clear H
            have H := H1
            clear H1
            by_cases c20 : t205 = true
            · subst c20
              have H1 : (some false) = some r := by rw [if_pos rfl] at H; exact H
              clear H
              have H := H1
              clear H1
              obtain rfl := Option.some.inj H
              go_wp2_with (first | ((with_reducible refine gate_callee (f := 17) rfl ?_); refine goesL_ (some 42) rfl rfl Try.func17 (by kernel_rfl) rfl #[.string t200, .string t201, .string t202] rfl (by (try simp only [List.map_toArray, List.map_cons, List.map_nil]); first | done | rfl | (simp only [List.length_drop, List.length_take]; rfl)) ?_; (with_reducible refine (key_In.calls t200 t201 t202 true _ A17.out).mono ?_); rintro e w' ⟨rfl, ⟨nd, rfl⟩⟩; refine ⟨_, rfl, ?_⟩) | ((with_reducible refine gate_callee (f := 17) rfl ?_); refine goesL_ (some 46) rfl rfl Try.func17 (by kernel_rfl) rfl #[.string t200, .string t202, .string t203] rfl (by (try simp only [List.map_toArray, List.map_cons, List.map_nil]); first | done | rfl | (simp only [List.length_drop, List.length_take]; rfl)) ?_; (with_reducible refine (key_In.calls t200 t202 t203 true _ A18.out).mono ?_); rintro e w' ⟨rfl, ⟨nd, rfl⟩⟩; refine ⟨_, rfl, ?_⟩))
              go_ret
              exact ⟨by first | rfl | (simp [errW_none, errW_some] <;> rfl) | (simp [*, errW_none, errW_some] <;> rfl), by repeat (first | (with_reducible first | exact HB.out | apply below_alloc | apply pw_below_drewN | apply below_drew1) | exact HB.out)⟩
            · replace c20 := Bool.eq_false_iff.mpr c20
              subst c20
              have H1 : ((key_In.f t200 t201 t203).bind fun t206 => (some (t206 == true))) = some r := by rw [if_neg (show ¬ (false = true) by decide)] at H; exact H
              clear H
              have H := H1
              clear H1
              replace H := Option.bind_eq_some_iff.mp H
              obtain ⟨t206, A210, H⟩ := H
              replace H : (some (t206 == true)) = some r := H
              have A21 := Aside0.mk A210
              clear A210
              obtain rfl := Option.some.inj H
              go_wp2_with (first | ((with_reducible refine gate_callee (f := 17) rfl ?_); refine goesL_ (some 42) rfl rfl Try.func17 (by kernel_rfl) rfl #[.string t200, .string t201, .string t202] rfl (by (try simp only [List.map_toArray, List.map_cons, List.map_nil]); first | done | rfl | (simp only [List.length_drop, List.length_take]; rfl)) ?_; (with_reducible refine (key_In.calls t200 t201 t202 true _ A17.out).mono ?_); rintro e w' ⟨rfl, ⟨nd, rfl⟩⟩; refine ⟨_, rfl, ?_⟩) | ((with_reducible refine gate_callee (f := 17) rfl ?_); refine goesL_ (some 46) rfl rfl Try.func17 (by kernel_rfl) rfl #[.string t200, .string t202, .string t203] rfl (by (try simp only [List.map_toArray, List.map_cons, List.map_nil]); first | done | rfl | (simp only [List.length_drop, List.length_take]; rfl)) ?_; (with_reducible refine (key_In.calls t200 t202 t203 false _ A18.out).mono ?_); rintro e w' ⟨rfl, ⟨nd, rfl⟩⟩; refine ⟨_, rfl, ?_⟩) | (go_at_call 17; (with_reducible refine (key_In.calls t200 t201 t203 t206 _ A21.out).mono ?_); rintro e w' ⟨rfl, ⟨nd, rfl⟩⟩))
              go_ret
              exact ⟨by first | rfl | (simp [errW_none, errW_some] <;> rfl) | (simp [*, errW_none, errW_some] <;> rfl), by repeat (first | (with_reducible first | exact HB.out | apply below_alloc | apply pw_below_drewN | apply below_drew1) | exact HB.out)⟩
          · replace c19 := Bool.eq_false_iff.mpr c19
            subst c19
            have H1 : ((key_In.f t200 t201 t203).bind fun t207 => (some (t207 == t205))) = some r := by rw [if_neg (show ¬ (false = true) by decide)] at H; exact H
            clear H
            have H := H1
            clear H1
            replace H := Option.bind_eq_some_iff.mp H
            obtain ⟨t207, A220, H⟩ := H
            replace H : (some (t207 == t205)) = some r := H
            have A22 := Aside0.mk A220
            clear A220
            obtain rfl := Option.some.inj H
            go_wp2_with (first | ((with_reducible refine gate_callee (f := 17) rfl ?_); refine goesL_ (some 42) rfl rfl Try.func17 (by kernel_rfl) rfl #[.string t200, .string t201, .string t202] rfl (by (try simp only [List.map_toArray, List.map_cons, List.map_nil]); first | done | rfl | (simp only [List.length_drop, List.length_take]; rfl)) ?_; (with_reducible refine (key_In.calls t200 t201 t202 false _ A17.out).mono ?_); rintro e w' ⟨rfl, ⟨nd, rfl⟩⟩; refine ⟨_, rfl, ?_⟩) | ((with_reducible refine gate_callee (f := 17) rfl ?_); refine goesL_ (some 46) rfl rfl Try.func17 (by kernel_rfl) rfl #[.string t200, .string t202, .string t203] rfl (by (try simp only [List.map_toArray, List.map_cons, List.map_nil]); first | done | rfl | (simp only [List.length_drop, List.length_take]; rfl)) ?_; (with_reducible refine (key_In.calls t200 t202 t203 t205 _ A18.out).mono ?_); rintro e w' ⟨rfl, ⟨nd, rfl⟩⟩; refine ⟨_, rfl, ?_⟩) | (go_at_call 17; (with_reducible refine (key_In.calls t200 t201 t203 t207 _ A22.out).mono ?_); rintro e w' ⟨rfl, ⟨nd, rfl⟩⟩))
            go_ret
            exact ⟨by first | rfl | (simp [errW_none, errW_some] <;> rfl) | (simp [*, errW_none, errW_some] <;> rfl), by repeat (first | (with_reducible first | exact HB.out | apply below_alloc | apply pw_below_drewN | apply below_drew1) | exact HB.out)⟩
  · replace c6 := Bool.eq_false_iff.mpr c6
    subst c6
    have H1 : (some false) = some r := by rw [if_neg (show ¬ (false = true) by decide)] at H; exact H
    clear H
    have H := H1
    clear H1
    obtain rfl := Option.some.inj H
    go_enter Try.func7, Try.ntmps7
    go_wp2_with (first | ((with_reducible refine gate_callee (f := 10) rfl ?_); refine goesL_ (some 12) rfl rfl Try.func10 (by kernel_rfl) rfl #[] rfl (by (try simp only [List.map_toArray, List.map_cons, List.map_nil]); first | done | rfl | (simp only [List.length_drop, List.length_take]; rfl)) ?_; (with_reducible refine (engrosslaw5_begun.calls k  false _ A5.out).mono ?_); rintro e w23 ⟨rfl, hb⟩; refine ⟨_, rfl, ?_⟩; have n0_ := Aside0.mk (below_step (by repeat (first | (with_reducible first | exact HB.out | apply below_alloc | apply pw_below_drewN | apply below_drew1) | exact HB.out)) hb); clear HB; have HB := n0_; clear n0_; (try clear hb); (try clear hb2); (try clear hk); (try clear hi)))
    go_ret
    exact ⟨by first | rfl | (simp [errW_none, errW_some] <;> rfl) | (simp [*, errW_none, errW_some] <;> rfl), by repeat (first | (with_reducible first | exact HB.out | apply below_alloc | apply pw_below_drewN | apply below_drew1) | exact HB.out)⟩

/-- THE ONE PURE STATEMENT of engrosslaw5_KeySpan: yours. -/
def engrosslaw5_KeySpan.Pure : Prop := ∀ (a0 : ByteArray) (a1 : ByteArray) (a2 : ByteArray) (a3 : ByteArray), a0.size ≤ 140737488351232 → a1.size ≤ 140737488351232 → a2.size ≤ 140737488351232 → a3.size ≤ 140737488351232 → ∃ k, engrosslaw5_KeySpan.f k a0 a1 a2 a3 = some true
theorem engrosslaw5_KeySpan.walk (P : engrosslaw5_KeySpan.Pure) (a0 : ByteArray) (a1 : ByteArray) (a2 : ByteArray) (a3 : ByteArray) (w : World) (w0 : a0.size ≤ 140737488351232) (w1 : a1.size ≤ 140737488351232) (w2 : a2.size ≤ 140737488351232) (w3 : a3.size ≤ 140737488351232) :
    Calls Try.prog 7 #[.string a0, .string a1, .string a2, .string a3] w fun e w' => e = .returned (.bool true) ∧ Below w.heap.size w w' := by
  obtain ⟨k, h⟩ := P a0 a1 a2 a3 w0 w1 w2 w3
  refine (engrosslaw5_KeySpan.calls k a0 a1 a2 a3 true w h).mono ?_
  rintro e w' ⟨rfl, hd⟩
  exact ⟨rfl, hd⟩

/-! ### engrosslaw5_KeyLens: function 8 -/
mutual
def engrosslaw5_KeyLens.j0 : Nat → Int → Int → Bool → Option (Bool)
  | 0, _, _, _ => none
  | k + 1, x0, x1, x16 => if x16 = true then (some true) else (if 0 ≤ x0 then (if (x0 : Int).toNat ≤ 281474976710656 then ((some (List.replicate (x0 : Int).toNat 0 : List Int)).bind fun y209 => (engrosslaw5_KeyLens.l0 k x0 x1 y209 (y209.length : Int) 0)) else (none)) else (none))
def engrosslaw5_KeyLens.l0 : Nat → Int → Int → List Int → Int → Int → Option (Bool)
  | 0, _, _, _, _, _ => none
  | k + 1, x0, x1, x6, x20, x21 => if x21 < x20 then (if 0 ≤ x21 then (if x21 < (x6.length : Int) then (engrosslaw5_KeyLens.l0 k x0 x1 (x6.set (x21 : Int).toNat x1) x20 (wrap64 (x21 + 1))) else (none)) else (none)) else ((key_May.f (strOfNums x6)).bind fun t213 => (if x0 ≥ 1 then (some (t213 == (decide (x0 ≤ 16)))) else (some (t213 == false))))
end
def engrosslaw5_KeyLens.f (k : Nat) (a0 : Int) (a1 : Int) : Option (Bool) := (engrosslaw5_begun.f k).bind fun t208 => (if t208 = true then (if a0 < 0 then (engrosslaw5_KeyLens.j0 k a0 a1 true) else (engrosslaw5_KeyLens.j0 k a0 a1 (decide (a0 > 40)))) else (some false))
theorem engrosslaw5_KeyLens.mono_l : ∀ k, (∀ y0 y1 y2, LeO (engrosslaw5_KeyLens.j0 k y0 y1 y2) (engrosslaw5_KeyLens.j0 (k + 1) y0 y1 y2)) ∧ (∀ y0 y1 y2 y3 y4, LeO (engrosslaw5_KeyLens.l0 k y0 y1 y2 y3 y4) (engrosslaw5_KeyLens.l0 (k + 1) y0 y1 y2 y3 y4))
  | 0 => ⟨fun _ _ _ r h => by simp [engrosslaw5_KeyLens.j0] at h, fun _ _ _ _ _ r h => by simp [engrosslaw5_KeyLens.l0] at h⟩
  | k + 1 => by
    obtain ⟨ih0, ih1⟩ := engrosslaw5_KeyLens.mono_l k
    refine ⟨?_, ?_⟩
    · intro y0 y1 y2
      unfold engrosslaw5_KeyLens.j0
      repeat' first
      | (with_reducible exact ih0 _ _ _)
      | (with_reducible exact ih1 _ _ _ _ _)
      | (with_reducible exact engrosslaw5_begun.mono _)
      | (with_reducible exact LeO.refl _)
      | (with_reducible exact LeO.none _)
      | (with_reducible refine LeO.ite ?_ ?_)
      | (with_reducible refine LeO.bind ?_ (fun _ => ?_))
      | exact ih0 _ _ _
      | exact ih1 _ _ _ _ _
      | exact engrosslaw5_begun.mono _
      | exact LeO.none _
      | refine LeO.ite ?_ ?_
      | refine LeO.bind ?_ (fun _ => ?_)
    · intro y0 y1 y2 y3 y4
      unfold engrosslaw5_KeyLens.l0
      repeat' first
      | (with_reducible exact ih0 _ _ _)
      | (with_reducible exact ih1 _ _ _ _ _)
      | (with_reducible exact engrosslaw5_begun.mono _)
      | (with_reducible exact LeO.refl _)
      | (with_reducible exact LeO.none _)
      | (with_reducible refine LeO.ite ?_ ?_)
      | (with_reducible refine LeO.bind ?_ (fun _ => ?_))
      | exact ih0 _ _ _
      | exact ih1 _ _ _ _ _
      | exact engrosslaw5_begun.mono _
      | exact LeO.none _
      | refine LeO.ite ?_ ?_
      | refine LeO.bind ?_ (fun _ => ?_)
theorem engrosslaw5_KeyLens.mono : ∀ a0 a1 k, LeO (engrosslaw5_KeyLens.f k a0 a1) (engrosslaw5_KeyLens.f (k + 1) a0 a1) := by
  intro a0 a1 k
  obtain ⟨ih0, ih1⟩ := engrosslaw5_KeyLens.mono_l k
  unfold engrosslaw5_KeyLens.f
  repeat' first
      | (with_reducible exact ih0 _ _ _)
      | (with_reducible exact ih1 _ _ _ _ _)
      | (with_reducible exact engrosslaw5_begun.mono _)
      | (with_reducible exact LeO.refl _)
      | (with_reducible exact LeO.none _)
      | (with_reducible refine LeO.ite ?_ ?_)
      | (with_reducible refine LeO.bind ?_ (fun _ => ?_))
      | exact ih0 _ _ _
      | exact ih1 _ _ _ _ _
      | exact engrosslaw5_begun.mono _
      | exact LeO.none _
      | refine LeO.ite ?_ ?_
      | refine LeO.bind ?_ (fun _ => ?_)
set_option maxHeartbeats 8000000 in
set_option maxRecDepth 100000 in
theorem engrosslaw5_KeyLens.calls (k : Nat) (a0 : Int) (a1 : Int) (r : Bool) (w : World) (h : engrosslaw5_KeyLens.f k a0 a1 = some r) :
    Calls Try.prog 8 #[.int .i64 a0, .int .u8 a1] w fun e w' => e = .returned (.bool r) ∧ Below w.heap.size w w' := by
  have HB := Aside0.mk (Below.refl w.heap.size w)
  have H : ((engrosslaw5_begun.f k).bind fun t208 => (if t208 = true then (if a0 < 0 then (engrosslaw5_KeyLens.j0 k a0 a1 true) else (engrosslaw5_KeyLens.j0 k a0 a1 (decide (a0 > 40)))) else (some false))) = some r := h
  clear h
  replace H := Option.bind_eq_some_iff.mp H
  obtain ⟨t208, A30, H⟩ := H
  replace H : (if t208 = true then (if a0 < 0 then (engrosslaw5_KeyLens.j0 k a0 a1 true) else (engrosslaw5_KeyLens.j0 k a0 a1 (decide (a0 > 40)))) else (some false)) = some r := H
  have A3 := Aside0.mk A30
  clear A30
  by_cases c4 : t208 = true
  · subst c4
    have H1 : (if a0 < 0 then (engrosslaw5_KeyLens.j0 k a0 a1 true) else (engrosslaw5_KeyLens.j0 k a0 a1 (decide (a0 > 40)))) = some r := by rw [if_pos rfl] at H; exact H
    clear H
    have H := H1
    clear H1
    have HC5 := Aside0.mk H
    clear H
    go_enter Try.func8, Try.ntmps8
    go_upto_region 4 with (first | ((with_reducible refine gate_callee (f := 10) rfl ?_); refine goesL_ (some 8) rfl rfl Try.func10 (by kernel_rfl) rfl #[] rfl (by (try simp only [List.map_toArray, List.map_cons, List.map_nil]); first | done | rfl | (simp only [List.length_drop, List.length_take]; rfl)) ?_; (with_reducible refine (engrosslaw5_begun.calls k  true _ A3.out).mono ?_); rintro e w6 ⟨rfl, hb⟩; refine ⟨_, rfl, ?_⟩; have n0_ := Aside0.mk (below_step (by repeat (first | (with_reducible first | exact HB.out | apply below_alloc | apply pw_below_drewN | apply below_drew1) | exact HB.out)) hb); clear HB; have HB := n0_; clear n0_; (try clear hb); (try clear hb2); (try clear hk); (try clear hi)))
    (try simp only [Act.put, List.setIfInBounds_toArray, List.set_cons_zero, List.set_cons_succ])
    go_cut [16] (fun v16 wc => ∃ (kq : Nat) (x16_4 : Bool), v16 = .bool x16_4 ∧ Aside0 (engrosslaw5_KeyLens.j0 kq a0 a1 x16_4 = some r) ∧ Aside0 (kq ≤ k) ∧ Aside0 (Below w.heap.size w wc))
    case first =>
      have H := HC5.out
      clear HC5
      by_cases c7 : a0 < 0
      · rw [if_pos c7] at H
        have c7b0 : decide (a0 < 0) = true := decide_eq_true c7
        clear c7
        (first | rw [c7b0] | (simp only [i64_w, i32_w]; rw [c7b0]) | skip)
        have H' := Aside0.mk H
        clear H
        go_wp2
        go_meet
        case rel => exact ⟨_, (true), (by first | rfl | (simp; done) | (simp [*]; done)), H', ⟨by first | omega | exact Nat.le_refl _⟩, ⟨by repeat (first | (with_reducible first | exact HB.out | apply below_alloc | apply pw_below_drewN | apply below_drew1) | exact HB.out)⟩⟩
      · rw [if_neg c7] at H
        have c7b0 : decide (a0 < 0) = false := decide_eq_false c7
        clear c7
        (first | rw [c7b0] | (simp only [i64_w, i32_w]; rw [c7b0]) | skip)
        have H' := Aside0.mk H
        clear H
        go_wp2
        go_meet
        case rel => exact ⟨_, (decide (a0 > 40)), (by first | rfl | (simp; done) | (simp [*]; done)), H', ⟨by first | omega | exact Nat.le_refl _⟩, ⟨by repeat (first | (with_reducible first | exact HB.out | apply below_alloc | apply pw_below_drewN | apply below_drew1) | exact HB.out)⟩⟩
    case rest =>
      clear HC5
      try clear c1
      try clear p2
      try clear c4
      try clear c7
      try clear c7b0
      obtain ⟨kq, x16_4, rfl, HA, HJ4, HB⟩ := hcut
      cases kq with
      | zero => exact absurd HA.out (by simp [engrosslaw5_KeyLens.j0])
      | succ kj4 =>
        have H := HA.out
        clear HA
        simp only [engrosslaw5_KeyLens.j0] at H
        by_cases c8 : x16_4 = true
        · subst c8
          have H1 : (some true) = some r := by rw [if_pos rfl] at H; exact H
          clear H
          have H := H1
          clear H1
          obtain rfl := Option.some.inj H
          go_wp2
          go_ret
          exact ⟨by first | rfl | (simp [errW_none, errW_some] <;> rfl) | (simp [*, errW_none, errW_some] <;> rfl), by repeat (first | (with_reducible first | exact HB.out | apply below_alloc | apply pw_below_drewN | apply below_drew1) | exact HB.out)⟩
        · replace c8 := Bool.eq_false_iff.mpr c8
          subst c8
          have H1 : (if 0 ≤ a0 then (if (a0 : Int).toNat ≤ 281474976710656 then ((some (List.replicate (a0 : Int).toNat 0 : List Int)).bind fun y209 => (engrosslaw5_KeyLens.l0 kj4 a0 a1 y209 (y209.length : Int) 0)) else (none)) else (none)) = some r := by rw [if_neg (show ¬ (false = true) by decide)] at H; exact H
          clear H
          have H := H1
          clear H1
          by_cases c9 : 0 ≤ a0
          · rw [if_pos c9] at H
            have c9b0 := eq_true c9
            have c9b1 : decide (0 ≤ a0) = true := decide_eq_true c9
            clear c9
            by_cases c10 : (a0 : Int).toNat ≤ 281474976710656
            · rw [if_pos c10] at H
              have c10b0 := eq_true c10
              have c10b1 : decide ((a0 : Int).toNat ≤ 281474976710656) = true := decide_eq_true c10
              clear c10
              obtain ⟨y209, hy209⟩ : ∃ y_ : List Int, y_ = (List.replicate (a0 : Int).toNat 0) := ⟨_, rfl⟩
              replace H : (engrosslaw5_KeyLens.l0 kj4 a0 a1 y209 (y209.length : Int) 0) = some r := by first | (rw [hy209]; with_reducible exact H) | (have H2_ := (Option.bind_some _ _).symm.trans H; rw [hy209]; with_reducible exact H2_) | (have H2_ := (Option.bind_some _ _).symm.trans H; with_reducible exact H2_) | with_reducible exact H | (rw [hy209]; exact H) | exact H
              have Ny209 := Aside0.mk hy209
              clear hy209
              have H' := Aside0.mk H
              clear H
              go_wp2_with (first | ((with_reducible refine gate_dst (N := 18) rfl ?_); refine Kd.R_make (Kd.int .u8) _ 5 rfl (N := 18) rfl 28 _ _ rfl a0 rfl rfl Try.underlying28 (.int .u8 0) 1 info5 rfl (by decide) (by omega) 0 (ok := fun _ => True) (okp := fun _ => True) rfl (fun _ hk => hk) trivial (of_decide_eq_true (by first | (with_reducible assumption) | assumption)) (Nat.le_trans (Nat.mul_le_mul_right _ (of_decide_eq_true (by first | (with_reducible assumption) | assumption) : a0.toNat ≤ 281474976710656)) (by omega)) (Below.refl _ _) (Nat.le_refl _) ?_; intro v210 w11 ho12 hb hg_ hnew_; clear hg_ hnew_; (first | rw [← Ny209.out] at ho12 | (simp only [Int.reduceToNat] at ho12; rw [← Ny209.out] at ho12)); have n0_ := Aside0.mk (Kd.R_lower ho12 (below_size (by repeat (first | (with_reducible first | exact HB.out | apply below_alloc | apply pw_below_drewN | apply below_drew1) | exact HB.out)))); have n1_ := Aside0.mk (below_step (by repeat (first | (with_reducible first | exact HB.out | apply below_alloc | apply pw_below_drewN | apply below_drew1) | exact HB.out)) hb); clear HB; have HO211 := n0_; have HB := n1_; clear n0_ n1_; clear hb ho12; obtain ⟨Ao13, co13, eo13⟩ := Kd.R_slice HO211.out; subst eo13))
              go_loopg [21] kj4 (fun kq v21 w' => ∃ (x6_2 : List Int) (x21_2 : Int), v21 = .int .i64 x21_2 ∧ Aside0 (engrosslaw5_KeyLens.l0 kq a0 a1 x6_2 (y209.length : Int) x21_2 = some r) ∧ Aside0 (kq ≤ kj4) ∧ Aside0 (Kd.R (Kd.int .u8) 5 w' w.heap.size (fun _ => True) (.slice Ao13 y209.length co13) x6_2) ∧ Aside0 (Below w.heap.size w w'))
              case atStart => exact ⟨(y209), (0), (by first | rfl | (simp; done) | (simp [*]; done)), H', ⟨Nat.le_refl _⟩, ⟨by (with_reducible repeat (first | apply Kd.R_alloc | apply Kd.R_drewN | apply Kd.R_drew)); exact HO211.out⟩, ⟨by repeat (first | (with_reducible first | exact HB.out | apply below_alloc | apply pw_below_drewN | apply below_drew1) | exact HB.out)⟩⟩
              case round =>
                clear H'
                try clear c1
                try clear p2
                try clear c4
                try clear c7
                try clear c7b0
                try clear c8
                try clear c9
                try clear c9b0
                try clear c9b1
                try clear c10
                try clear c10b0
                try clear c10b1
                try clear p2
                obtain ⟨x6_2, x21_2, rfl, HA, HK2, HO_6, HB⟩ := hrel
                have hl6_2 := (Kd.R_reads' HO_6.out).1
                rw [hl6_2] at HO_6
                (try simp only [hl6_2])
                cases gk with
                | zero => exact absurd HA.out (by simp [engrosslaw5_KeyLens.l0])
                | succ k2 =>
                  have H := HA.out
                  clear HA
                  simp only [engrosslaw5_KeyLens.l0] at H
                  by_cases c14 : x21_2 < (y209.length : Int)
                  · rw [if_pos c14] at H
                    have c14b0 : decide (x21_2 < (y209.length : Int)) = true := decide_eq_true c14
                    clear c14
                    (try (have c14x0 := c14b0; simp only [hl6_2] at c14x0))
                    by_cases c15 : 0 ≤ x21_2
                    · rw [if_pos c15] at H
                      have c15b0 : decide (0 ≤ x21_2) = true := decide_eq_true c15
                      clear c15
                      by_cases c16 : x21_2 < (x6_2.length : Int)
                      · rw [if_pos c16] at H
                        have c16b0 : decide (x21_2 < (x6_2.length : Int)) = true := decide_eq_true c16
                        clear c16
                        (try (have c16x0 := c16b0; simp only [hl6_2] at c16x0))
                        obtain ⟨y212, hy212⟩ : ∃ y_ : List Int, y_ = (x6_2.set (x21_2 : Int).toNat a1) := ⟨_, rfl⟩
                        replace H : (engrosslaw5_KeyLens.l0 k2 a0 a1 y212 (y209.length : Int) (wrap64 (x21_2 + 1))) = some r := by first | (rw [hy212]; with_reducible exact H) | (have H2_ := (Option.bind_some _ _).symm.trans H; rw [hy212]; with_reducible exact H2_) | (have H2_ := (Option.bind_some _ _).symm.trans H; with_reducible exact H2_) | with_reducible exact H | (rw [hy212]; exact H) | exact H
                        have Ny212 := Aside0.mk hy212
                        clear hy212
                        have H' := Aside0.mk H
                        clear H
                        have p17 : 0 ≤ (x21_2 : Int) := of_decide_eq_true (by first | (with_reducible assumption) | assumption)
                        have q17 : (x21_2 : Int) < ((x6_2.length : Int) : Int) := of_decide_eq_true (by first | (with_reducible assumption) | assumption)
                        obtain ⟨go17, co17, eo17, gb17, gl17, cl17, HG17⟩ := Kd.R_form HO_6.out (by omega)
                        (first | cases eo17 | (injection eo17 with ea_ en_ ec_; (first | subst ea_ | (injection ea_ with ea_; subst ea_)); subst ec_; clear en_))
                        have GB17 := Aside0.mk gb17
                        have GG17 := Aside0.mk HG17
                        clear gb17 gl17 HG17
                        obtain ⟨hx17_0, hf17_0⟩ := Kd.R_celln 0 HO_6.out (x21_2 : Int) p17 q17
                        replace p17 := eq_true p17
                        replace q17 := eq_true q17
                        have HP18 := Kd.R_putg HO_6.out (x21_2 : Int) a1
                        go_wp2_with (first | ((with_reducible refine gate_store (t := 5) (p := 27) rfl ?_); refine store_event (t := 5) (p := 27) (v := ?vo_w19) (w1 := (wr.setCell ⟨go17, (x21_2 : Int).toNat, none⟩ (.int .u8 a1))) ?hg ?ho ?hn ?hr ?_; (case ho => rfl); (case hg => rfl); (case hn => rfl); (case hr => first | (go_simp; done) | (go_simp; rfl)); intro w19 hw; have hg : wr.grownBy w19 (some go17) := (by rw [hw]; exact HP18.2); have hp_ : Kd.R (Kd.int .u8) 5 w19 w.heap.size (fun _ => True) (.slice (some ⟨go17, 0, none⟩) x6_2.length co13) y212 := (by rw [hw, Ny212.out]; exact HP18.1); clear HP18; have n0_ := Aside0.mk (hp_); have n1_ := Aside0.mk ((by rw [hw]; exact below_set (HB.out) GB17.out : Below w.heap.size w w19)); clear HO_6; clear HB; have HO_6 := n0_; have HB := n1_; clear n0_ n1_; clear hg hw hp_))
                        (try simp only [← hl6_2])
                        go_roundg k2
                        case measure => have := HJ4.out; have := HK2.out; omega
                        case rel => exact ⟨(y212), (wrap64 (x21_2 + 1)), (by first | rfl | (simp; done) | (simp [*]; done)), H', ⟨by have := HJ4.out; have := HK2.out; omega⟩, ⟨by (try simp only [hl6_2]); (with_reducible repeat (first | apply Kd.R_alloc | apply Kd.R_drewN | apply Kd.R_drew)); exact HO_6.out⟩, ⟨by repeat (first | (with_reducible first | exact HB.out | apply below_alloc | apply pw_below_drewN | apply below_drew1) | exact HB.out)⟩⟩
                      · rw [if_neg c16] at H
                        exact absurd H (by simp)
                    · rw [if_neg c15] at H
                      exact absurd H (by simp)
                  · rw [if_neg c14] at H
                    have c14b0 : decide (x21_2 < (y209.length : Int)) = false := decide_eq_false c14
                    clear c14
                    (try (have c14x0 := c14b0; simp only [hl6_2] at c14x0))
                    replace H := Option.bind_eq_some_iff.mp H
                    obtain ⟨t213, A200, H⟩ := H
                    replace H : (if a0 ≥ 1 then (some (t213 == (decide (a0 ≤ 16)))) else (some (t213 == false))) = some r := H
                    have A20 := Aside0.mk A200
                    clear A200
                    by_cases c21 : a0 ≥ 1
                    · rw [if_pos c21] at H
                      have c21b0 : decide (1 ≤ a0) = true := decide_eq_true c21
                      clear c21
                      obtain rfl := Option.some.inj H
                      have hcv22 := Kd.x_R_string (P := Try.prog) Try.underlying28 Try.underlying5 Try.underlying9 (HO_6.out)
                      go_wp2_with (first | ((with_reducible refine gate_callee (f := 15) rfl ?_); refine goesL_ (some 31) rfl rfl Try.func15 (by kernel_rfl) rfl #[.string (strOfNums x6_2)] rfl (by (try simp only [List.map_toArray, List.map_cons, List.map_nil]); first | done | rfl | (simp only [List.length_drop, List.length_take]; rfl)) ?_; (with_reducible refine (key_May.calls (strOfNums x6_2) t213 _ A20.out).mono ?_); rintro e w' ⟨rfl, ⟨nd, rfl⟩⟩; refine ⟨_, rfl, ?_⟩))
                      go_ret
                      exact ⟨by first | rfl | (simp [errW_none, errW_some] <;> rfl) | (simp [*, errW_none, errW_some] <;> rfl), by repeat (first | (with_reducible first | exact HB.out | apply below_alloc | apply pw_below_drewN | apply below_drew1) | exact HB.out)⟩
                    · rw [if_neg c21] at H
                      have c21b0 : decide (1 ≤ a0) = false := decide_eq_false c21
                      clear c21
                      obtain rfl := Option.some.inj H
                      have hcv23 := Kd.x_R_string (P := Try.prog) Try.underlying28 Try.underlying5 Try.underlying9 (HO_6.out)
                      go_wp2_with (first | ((with_reducible refine gate_callee (f := 15) rfl ?_); refine goesL_ (some 31) rfl rfl Try.func15 (by kernel_rfl) rfl #[.string (strOfNums x6_2)] rfl (by (try simp only [List.map_toArray, List.map_cons, List.map_nil]); first | done | rfl | (simp only [List.length_drop, List.length_take]; rfl)) ?_; (with_reducible refine (key_May.calls (strOfNums x6_2) t213 _ A20.out).mono ?_); rintro e w' ⟨rfl, ⟨nd, rfl⟩⟩; refine ⟨_, rfl, ?_⟩))
                      go_ret
                      exact ⟨by first | rfl | (simp [errW_none, errW_some] <;> rfl) | (simp [*, errW_none, errW_some] <;> rfl), by repeat (first | (with_reducible first | exact HB.out | apply below_alloc | apply pw_below_drewN | apply below_drew1) | exact HB.out)⟩
            · rw [if_neg c10] at H
              exact absurd H (by simp)
          · rw [if_neg c9] at H
            exact absurd H (by simp)
  · replace c4 := Bool.eq_false_iff.mpr c4
    subst c4
    have H1 : (some false) = some r := by rw [if_neg (show ¬ (false = true) by decide)] at H; exact H
    clear H
    have H := H1
    clear H1
    obtain rfl := Option.some.inj H
    go_enter Try.func8, Try.ntmps8
    go_wp2_with (first | ((with_reducible refine gate_callee (f := 10) rfl ?_); refine goesL_ (some 8) rfl rfl Try.func10 (by kernel_rfl) rfl #[] rfl (by (try simp only [List.map_toArray, List.map_cons, List.map_nil]); first | done | rfl | (simp only [List.length_drop, List.length_take]; rfl)) ?_; (with_reducible refine (engrosslaw5_begun.calls k  false _ A3.out).mono ?_); rintro e w24 ⟨rfl, hb⟩; refine ⟨_, rfl, ?_⟩; have n0_ := Aside0.mk (below_step (by repeat (first | (with_reducible first | exact HB.out | apply below_alloc | apply pw_below_drewN | apply below_drew1) | exact HB.out)) hb); clear HB; have HB := n0_; clear n0_; (try clear hb); (try clear hb2); (try clear hk); (try clear hi)))
    go_ret
    exact ⟨by first | rfl | (simp [errW_none, errW_some] <;> rfl) | (simp [*, errW_none, errW_some] <;> rfl), by repeat (first | (with_reducible first | exact HB.out | apply below_alloc | apply pw_below_drewN | apply below_drew1) | exact HB.out)⟩

/-- THE ONE PURE STATEMENT of engrosslaw5_KeyLens: yours. -/
def engrosslaw5_KeyLens.Pure : Prop := ∀ (a0 : Int) (a1 : Int), (Lit.int .i64 a0).wf = true → (Lit.int .u8 a1).wf = true → ∃ k, engrosslaw5_KeyLens.f k a0 a1 = some true
theorem engrosslaw5_KeyLens.walk (P : engrosslaw5_KeyLens.Pure) (a0 : Int) (a1 : Int) (w : World) (w0 : (Lit.int .i64 a0).wf = true) (w1 : (Lit.int .u8 a1).wf = true) :
    Calls Try.prog 8 #[.int .i64 a0, .int .u8 a1] w fun e w' => e = .returned (.bool true) ∧ Below w.heap.size w w' := by
  obtain ⟨k, h⟩ := P a0 a1 w0 w1
  refine (engrosslaw5_KeyLens.calls k a0 a1 true w h).mono ?_
  rintro e w' ⟨rfl, hd⟩
  exact ⟨rfl, hd⟩

end Go.Proofs.Ytoeiogailnfbkaa.P
