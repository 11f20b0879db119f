/- Functions of the program as Lean functions, and that each call answers as its function does. No condition. (Lines written by a generator of this session.) -/
import Derived.Test.YtoeiogailnfbkaaPx0
import Derived.Test.YtoeiogailnfbkaaPx1
namespace Go.Proofs.Ytoeiogailnfbkaa.P
open Go.RowKit Go.Proofs.YtoeiogailnfbkaaW.PrintWords Go.Proofs.YtoeiogailnfbkaaW.PrintLast Go.Proofs.YtoeiogailnfbkaaW.PrintMore
attribute [local go_sem] max2_int min2_int max_two min_two max_three min_three max_four min_four   -- for this text's walks alone
attribute [local go_sem] x_str_gtr x_str_leq x_str_geq ext_bits ext_frombits ext_neg
set_option linter.unusedVariables false
set_option linter.unusedSimpArgs false

/-! ### engrosslaw5_begun: function 10 -/
def engrosslaw5_begun.f (k : Nat)  : Option (Bool) := (key_Of.f k 4609434218613702656).bind fun t120 => ((key_Float.f k t120).bind fun bt121 => ((key_Float.f k (⟨#[102]⟩ : ByteArray)).bind fun bt123 => ((key_May.f (⟨#[97]⟩ : ByteArray)).bind fun t125 => (if t125 = true then ((key_May.f (⟨#[]⟩ : ByteArray)).bind fun t126 => (if t126 = true then (some false) else (if bt121.2 = true then (if (FloatKind.f64.format.order bt121.1 4609434218613702656 == some .eq) = true then (if bt123.2 = true then (some false) else ((key_Of.f k 0).bind fun t127 => (if (t127.size : Int) = 9 then ((key_In.f (⟨#[98]⟩ : ByteArray) (⟨#[97]⟩ : ByteArray) (⟨#[99]⟩ : ByteArray)).bind fun t128 => (if t128 = true then ((key_In.f (⟨#[99]⟩ : ByteArray) (⟨#[97]⟩ : ByteArray) (⟨#[99]⟩ : ByteArray)).bind fun t129 => (if t129 = true then (some false) else ((key_In.f (⟨#[122]⟩ : ByteArray) (⟨#[]⟩ : ByteArray) (⟨#[]⟩ : ByteArray)).bind fun t130 => (if t130 = true then ((key_Mid.f k (⟨#[97, 98, 99]⟩ : ByteArray) (⟨#[97, 98, 101]⟩ : ByteArray)).bind fun t131 => (if t131.toList = ([97, 98, 101] : List UInt8) then ((key_Mid.f k (⟨#[97]⟩ : ByteArray) (⟨#[99, 122]⟩ : ByteArray)).bind fun t132 => (some (t132.toList == ([99] : List UInt8)))) else (some false))) else (some false))))) else (some false))) else (some false)))) else (some false)) else (some false)))) else (some false)))))
theorem engrosslaw5_begun.mono : ∀ k, LeO (engrosslaw5_begun.f k ) (engrosslaw5_begun.f (k + 1) ) := by
  intro  k
  unfold engrosslaw5_begun.f
  repeat' first
      | (with_reducible exact key_Float.mono _ _)
      | (with_reducible exact key_Mid.mono _ _ _)
      | (with_reducible exact key_Of.mono _ _)
      | (with_reducible exact LeO.refl _)
      | (with_reducible exact LeO.none _)
      | (with_reducible refine LeO.ite ?_ ?_)
      | (with_reducible refine LeO.bind ?_ (fun _ => ?_))
      | exact key_Float.mono _ _
      | exact key_Mid.mono _ _ _
      | exact key_Of.mono _ _
      | exact LeO.none _
      | refine LeO.ite ?_ ?_
      | refine LeO.bind ?_ (fun _ => ?_)
set_option maxHeartbeats 8000000 in
set_option maxRecDepth 100000 in
theorem engrosslaw5_begun.calls (k : Nat)  (r : Bool) (w : World) (h : engrosslaw5_begun.f k  = some r) :
    Calls Try.prog 10 #[] w fun e w' => e = .returned (.bool r) ∧ Below w.heap.size w w' := by
  have HB := Aside0.mk (Below.refl w.heap.size w)
  have H : ((key_Of.f k 4609434218613702656).bind fun t120 => ((key_Float.f k t120).bind fun bt121 => ((key_Float.f k (⟨#[102]⟩ : ByteArray)).bind fun bt123 => ((key_May.f (⟨#[97]⟩ : ByteArray)).bind fun t125 => (if t125 = true then ((key_May.f (⟨#[]⟩ : ByteArray)).bind fun t126 => (if t126 = true then (some false) else (if bt121.2 = true then (if (FloatKind.f64.format.order bt121.1 4609434218613702656 == some .eq) = true then (if bt123.2 = true then (some false) else ((key_Of.f k 0).bind fun t127 => (if (t127.size : Int) = 9 then ((key_In.f (⟨#[98]⟩ : ByteArray) (⟨#[97]⟩ : ByteArray) (⟨#[99]⟩ : ByteArray)).bind fun t128 => (if t128 = true then ((key_In.f (⟨#[99]⟩ : ByteArray) (⟨#[97]⟩ : ByteArray) (⟨#[99]⟩ : ByteArray)).bind fun t129 => (if t129 = true then (some false) else ((key_In.f (⟨#[122]⟩ : ByteArray) (⟨#[]⟩ : ByteArray) (⟨#[]⟩ : ByteArray)).bind fun t130 => (if t130 = true then ((key_Mid.f k (⟨#[97, 98, 99]⟩ : ByteArray) (⟨#[97, 98, 101]⟩ : ByteArray)).bind fun t131 => (if t131.toList = ([97, 98, 101] : List UInt8) then ((key_Mid.f k (⟨#[97]⟩ : ByteArray) (⟨#[99, 122]⟩ : ByteArray)).bind fun t132 => (some (t132.toList == ([99] : List UInt8)))) else (some false))) else (some false))))) else (some false))) else (some false)))) else (some false)) else (some false)))) else (some false)))))) = some r := h
  clear h
  replace H := Option.bind_eq_some_iff.mp H
  obtain ⟨t120, A10, H⟩ := H
  replace H : ((key_Float.f k t120).bind fun bt121 => ((key_Float.f k (⟨#[102]⟩ : ByteArray)).bind fun bt123 => ((key_May.f (⟨#[97]⟩ : ByteArray)).bind fun t125 => (if t125 = true then ((key_May.f (⟨#[]⟩ : ByteArray)).bind fun t126 => (if t126 = true then (some false) else (if bt121.2 = true then (if (FloatKind.f64.format.order bt121.1 4609434218613702656 == some .eq) = true then (if bt123.2 = true then (some false) else ((key_Of.f k 0).bind fun t127 => (if (t127.size : Int) = 9 then ((key_In.f (⟨#[98]⟩ : ByteArray) (⟨#[97]⟩ : ByteArray) (⟨#[99]⟩ : ByteArray)).bind fun t128 => (if t128 = true then ((key_In.f (⟨#[99]⟩ : ByteArray) (⟨#[97]⟩ : ByteArray) (⟨#[99]⟩ : ByteArray)).bind fun t129 => (if t129 = true then (some false) else ((key_In.f (⟨#[122]⟩ : ByteArray) (⟨#[]⟩ : ByteArray) (⟨#[]⟩ : ByteArray)).bind fun t130 => (if t130 = true then ((key_Mid.f k (⟨#[97, 98, 99]⟩ : ByteArray) (⟨#[97, 98, 101]⟩ : ByteArray)).bind fun t131 => (if t131.toList = ([97, 98, 101] : List UInt8) then ((key_Mid.f k (⟨#[97]⟩ : ByteArray) (⟨#[99, 122]⟩ : ByteArray)).bind fun t132 => (some (t132.toList == ([99] : List UInt8)))) else (some false))) else (some false))))) else (some false))) else (some false)))) else (some false)) else (some false)))) else (some false))))) = some r := H
  have A1 := Aside0.mk A10
  clear A10
  replace H := Option.bind_eq_some_iff.mp H
  obtain ⟨⟨t121, t122⟩, A20, H⟩ := H
  replace H : ((key_Float.f k (⟨#[102]⟩ : ByteArray)).bind fun bt123 => ((key_May.f (⟨#[97]⟩ : ByteArray)).bind fun t125 => (if t125 = true then ((key_May.f (⟨#[]⟩ : ByteArray)).bind fun t126 => (if t126 = true then (some false) else (if t122 = true then (if (FloatKind.f64.format.order t121 4609434218613702656 == some .eq) = true then (if bt123.2 = true then (some false) else ((key_Of.f k 0).bind fun t127 => (if (t127.size : Int) = 9 then ((key_In.f (⟨#[98]⟩ : ByteArray) (⟨#[97]⟩ : ByteArray) (⟨#[99]⟩ : ByteArray)).bind fun t128 => (if t128 = true then ((key_In.f (⟨#[99]⟩ : ByteArray) (⟨#[97]⟩ : ByteArray) (⟨#[99]⟩ : ByteArray)).bind fun t129 => (if t129 = true then (some false) else ((key_In.f (⟨#[122]⟩ : ByteArray) (⟨#[]⟩ : ByteArray) (⟨#[]⟩ : ByteArray)).bind fun t130 => (if t130 = true then ((key_Mid.f k (⟨#[97, 98, 99]⟩ : ByteArray) (⟨#[97, 98, 101]⟩ : ByteArray)).bind fun t131 => (if t131.toList = ([97, 98, 101] : List UInt8) then ((key_Mid.f k (⟨#[97]⟩ : ByteArray) (⟨#[99, 122]⟩ : ByteArray)).bind fun t132 => (some (t132.toList == ([99] : List UInt8)))) else (some false))) else (some false))))) else (some false))) else (some false)))) else (some false)) else (some false)))) else (some false)))) = some r := H
  have A2 := Aside0.mk A20
  clear A20
  replace H := Option.bind_eq_some_iff.mp H
  obtain ⟨⟨t123, t124⟩, A30, H⟩ := H
  replace H : ((key_May.f (⟨#[97]⟩ : ByteArray)).bind fun t125 => (if t125 = true then ((key_May.f (⟨#[]⟩ : ByteArray)).bind fun t126 => (if t126 = true then (some false) else (if t122 = true then (if (FloatKind.f64.format.order t121 4609434218613702656 == some .eq) = true then (if t124 = true then (some false) else ((key_Of.f k 0).bind fun t127 => (if (t127.size : Int) = 9 then ((key_In.f (⟨#[98]⟩ : ByteArray) (⟨#[97]⟩ : ByteArray) (⟨#[99]⟩ : ByteArray)).bind fun t128 => (if t128 = true then ((key_In.f (⟨#[99]⟩ : ByteArray) (⟨#[97]⟩ : ByteArray) (⟨#[99]⟩ : ByteArray)).bind fun t129 => (if t129 = true then (some false) else ((key_In.f (⟨#[122]⟩ : ByteArray) (⟨#[]⟩ : ByteArray) (⟨#[]⟩ : ByteArray)).bind fun t130 => (if t130 = true then ((key_Mid.f k (⟨#[97, 98, 99]⟩ : ByteArray) (⟨#[97, 98, 101]⟩ : ByteArray)).bind fun t131 => (if t131.toList = ([97, 98, 101] : List UInt8) then ((key_Mid.f k (⟨#[97]⟩ : ByteArray) (⟨#[99, 122]⟩ : ByteArray)).bind fun t132 => (some (t132.toList == ([99] : List UInt8)))) else (some false))) else (some false))))) else (some false))) else (some false)))) else (some false)) else (some false)))) else (some false))) = some r := H
  have A3 := Aside0.mk A30
  clear A30
  replace H := Option.bind_eq_some_iff.mp H
  obtain ⟨t125, A40, H⟩ := H
  replace H : (if t125 = true then ((key_May.f (⟨#[]⟩ : ByteArray)).bind fun t126 => (if t126 = true then (some false) else (if t122 = true then (if (FloatKind.f64.format.order t121 4609434218613702656 == some .eq) = true then (if t124 = true then (some false) else ((key_Of.f k 0).bind fun t127 => (if (t127.size : Int) = 9 then ((key_In.f (⟨#[98]⟩ : ByteArray) (⟨#[97]⟩ : ByteArray) (⟨#[99]⟩ : ByteArray)).bind fun t128 => (if t128 = true then ((key_In.f (⟨#[99]⟩ : ByteArray) (⟨#[97]⟩ : ByteArray) (⟨#[99]⟩ : ByteArray)).bind fun t129 => (if t129 = true then (some false) else ((key_In.f (⟨#[122]⟩ : ByteArray) (⟨#[]⟩ : ByteArray) (⟨#[]⟩ : ByteArray)).bind fun t130 => (if t130 = true then ((key_Mid.f k (⟨#[97, 98, 99]⟩ : ByteArray) (⟨#[97, 98, 101]⟩ : ByteArray)).bind fun t131 => (if t131.toList = ([97, 98, 101] : List UInt8) then ((key_Mid.f k (⟨#[97]⟩ : ByteArray) (⟨#[99, 122]⟩ : ByteArray)).bind fun t132 => (some (t132.toList == ([99] : List UInt8)))) else (some false))) else (some false))))) else (some false))) else (some false)))) else (some false)) else (some false)))) else (some false)) = some r := H
  have A4 := Aside0.mk A40
  clear A40
  by_cases c5 : t125 = true
  · subst c5
    have H1 : ((key_May.f (⟨#[]⟩ : ByteArray)).bind fun t126 => (if t126 = true then (some false) else (if t122 = true then (if (FloatKind.f64.format.order t121 4609434218613702656 == some .eq) = true then (if t124 = true then (some false) else ((key_Of.f k 0).bind fun t127 => (if (t127.size : Int) = 9 then ((key_In.f (⟨#[98]⟩ : ByteArray) (⟨#[97]⟩ : ByteArray) (⟨#[99]⟩ : ByteArray)).bind fun t128 => (if t128 = true then ((key_In.f (⟨#[99]⟩ : ByteArray) (⟨#[97]⟩ : ByteArray) (⟨#[99]⟩ : ByteArray)).bind fun t129 => (if t129 = true then (some false) else ((key_In.f (⟨#[122]⟩ : ByteArray) (⟨#[]⟩ : ByteArray) (⟨#[]⟩ : ByteArray)).bind fun t130 => (if t130 = true then ((key_Mid.f k (⟨#[97, 98, 99]⟩ : ByteArray) (⟨#[97, 98, 101]⟩ : ByteArray)).bind fun t131 => (if t131.toList = ([97, 98, 101] : List UInt8) then ((key_Mid.f k (⟨#[97]⟩ : ByteArray) (⟨#[99, 122]⟩ : ByteArray)).bind fun t132 => (some (t132.toList == ([99] : List UInt8)))) else (some false))) else (some false))))) else (some false))) else (some false)))) else (some false)) else (some false)))) = some r := by rw [if_pos rfl] at H; exact H
    clear H
    have H := H1
    clear H1
    replace H := Option.bind_eq_some_iff.mp H
    obtain ⟨t126, A60, H⟩ := H
    replace H : (if t126 = true then (some false) else (if t122 = true then (if (FloatKind.f64.format.order t121 4609434218613702656 == some .eq) = true then (if t124 = true then (some false) else ((key_Of.f k 0).bind fun t127 => (if (t127.size : Int) = 9 then ((key_In.f (⟨#[98]⟩ : ByteArray) (⟨#[97]⟩ : ByteArray) (⟨#[99]⟩ : ByteArray)).bind fun t128 => (if t128 = true then ((key_In.f (⟨#[99]⟩ : ByteArray) (⟨#[97]⟩ : ByteArray) (⟨#[99]⟩ : ByteArray)).bind fun t129 => (if t129 = true then (some false) else ((key_In.f (⟨#[122]⟩ : ByteArray) (⟨#[]⟩ : ByteArray) (⟨#[]⟩ : ByteArray)).bind fun t130 => (if t130 = true then ((key_Mid.f k (⟨#[97, 98, 99]⟩ : ByteArray) (⟨#[97, 98, 101]⟩ : ByteArray)).bind fun t131 => (if t131.toList = ([97, 98, 101] : List UInt8) then ((key_Mid.f k (⟨#[97]⟩ : ByteArray) (⟨#[99, 122]⟩ : ByteArray)).bind fun t132 => (some (t132.toList == ([99] : List UInt8)))) else (some false))) else (some false))))) else (some false))) else (some false)))) else (some false)) else (some false))) = some r := H
    have A6 := Aside0.mk A60
    clear A60
    by_cases c7 : t126 = true
    · subst c7
      have H1 : (some false) = some r := by rw [if_pos rfl] at H; exact H
      clear H
      have H := H1
      clear H1
      obtain rfl := Option.some.inj H
      go_enter Try.func10, Try.ntmps10
      go_wp2_with (first | ((with_reducible refine gate_callee (f := 20) rfl ?_); refine goesL_ (some 6) rfl rfl Try.func20 (by kernel_rfl) rfl #[.float .f64 4609434218613702656] rfl (by (try simp only [List.map_toArray, List.map_cons, List.map_nil]); first | done | rfl | (simp only [List.length_drop, List.length_take]; rfl)) ?_; (with_reducible refine (key_Of.calls k 4609434218613702656 t120 _ A1.out).mono ?_); rintro e w8 ⟨rfl, hb⟩; refine ⟨_, rfl, ?_⟩; have n0_ := Aside0.mk (below_step (by repeat (first | (with_reducible first | exact HB.out | apply below_alloc | apply pw_below_drewN | apply below_drew1) | exact HB.out)) hb); clear HB; have HB := n0_; clear n0_; (try clear hb); (try clear hb2); (try clear hk); (try clear hi)) | ((with_reducible refine gate_callee (f := 12) rfl ?_); refine goesL_ (some 7) rfl rfl Try.func12 (by kernel_rfl) rfl #[.string t120] rfl (by (try simp only [List.map_toArray, List.map_cons, List.map_nil]); first | done | rfl | (simp only [List.length_drop, List.length_take]; rfl)) ?_; (with_reducible refine (key_Float.calls k t120 t121 t122 _ A2.out).mono ?_); rintro e w9 ⟨rfl, hb⟩; refine ⟨_, rfl, ?_⟩; have n0_ := Aside0.mk (below_step (by repeat (first | (with_reducible first | exact HB.out | apply below_alloc | apply pw_below_drewN | apply below_drew1) | exact HB.out)) hb); clear HB; have HB := n0_; clear n0_; (try clear hb); (try clear hb2); (try clear hk); (try clear hi)) | ((with_reducible refine gate_callee (f := 12) rfl ?_); refine goesL_ (some 11) rfl rfl Try.func12 (by kernel_rfl) rfl #[.string (⟨#[102]⟩ : ByteArray)] rfl (by (try simp only [List.map_toArray, List.map_cons, List.map_nil]); first | done | rfl | (simp only [List.length_drop, List.length_take]; rfl)) ?_; (with_reducible refine (key_Float.calls k (⟨#[102]⟩ : ByteArray) t123 t124 _ A3.out).mono ?_); rintro e w10 ⟨rfl, hb⟩; refine ⟨_, rfl, ?_⟩; have n0_ := Aside0.mk (below_step (by repeat (first | (with_reducible first | exact HB.out | apply below_alloc | apply pw_below_drewN | apply below_drew1) | exact HB.out)) hb); clear HB; have HB := n0_; clear n0_; (try clear hb); (try clear hb2); (try clear hk); (try clear hi)) | ((with_reducible refine gate_callee (f := 15) rfl ?_); refine goesL_ (some 14) rfl rfl Try.func15 (by kernel_rfl) rfl #[.string (⟨#[97]⟩ : ByteArray)] rfl (by (try simp only [List.map_toArray, List.map_cons, List.map_nil]); first | done | rfl | (simp only [List.length_drop, List.length_take]; rfl)) ?_; (with_reducible refine (key_May.calls (⟨#[97]⟩ : ByteArray) true _ A4.out).mono ?_); rintro e w' ⟨rfl, ⟨nd, rfl⟩⟩; refine ⟨_, rfl, ?_⟩) | (go_at_call 15; (with_reducible refine (key_May.calls (⟨#[]⟩ : ByteArray) true _ A6.out).mono ?_); rintro e w' ⟨rfl, ⟨nd, rfl⟩⟩))
      go_ret
      exact ⟨by first | rfl | (simp [errW_none, errW_some] <;> rfl) | (simp [*, errW_none, errW_some] <;> rfl), by repeat (first | (with_reducible first | exact HB.out | apply below_alloc | apply pw_below_drewN | apply below_drew1) | exact HB.out)⟩
    · replace c7 := Bool.eq_false_iff.mpr c7
      subst c7
      have H1 : (if t122 = true then (if (FloatKind.f64.format.order t121 4609434218613702656 == some .eq) = true then (if t124 = true then (some false) else ((key_Of.f k 0).bind fun t127 => (if (t127.size : Int) = 9 then ((key_In.f (⟨#[98]⟩ : ByteArray) (⟨#[97]⟩ : ByteArray) (⟨#[99]⟩ : ByteArray)).bind fun t128 => (if t128 = true then ((key_In.f (⟨#[99]⟩ : ByteArray) (⟨#[97]⟩ : ByteArray) (⟨#[99]⟩ : ByteArray)).bind fun t129 => (if t129 = true then (some false) else ((key_In.f (⟨#[122]⟩ : ByteArray) (⟨#[]⟩ : ByteArray) (⟨#[]⟩ : ByteArray)).bind fun t130 => (if t130 = true then ((key_Mid.f k (⟨#[97, 98, 99]⟩ : ByteArray) (⟨#[97, 98, 101]⟩ : ByteArray)).bind fun t131 => (if t131.toList = ([97, 98, 101] : List UInt8) then ((key_Mid.f k (⟨#[97]⟩ : ByteArray) (⟨#[99, 122]⟩ : ByteArray)).bind fun t132 => (some (t132.toList == ([99] : List UInt8)))) else (some false))) else (some false))))) else (some false))) else (some false)))) else (some false)) else (some false)) = some r := by rw [if_neg (show ¬ (false = true) by decide)] at H; exact H
      clear H
      have H := H1
      clear H1
      by_cases c11 : t122 = true
      · subst c11
        have H1 : (if (FloatKind.f64.format.order t121 4609434218613702656 == some .eq) = true then (if t124 = true then (some false) else ((key_Of.f k 0).bind fun t127 => (if (t127.size : Int) = 9 then ((key_In.f (⟨#[98]⟩ : ByteArray) (⟨#[97]⟩ : ByteArray) (⟨#[99]⟩ : ByteArray)).bind fun t128 => (if t128 = true then ((key_In.f (⟨#[99]⟩ : ByteArray) (⟨#[97]⟩ : ByteArray) (⟨#[99]⟩ : ByteArray)).bind fun t129 => (if t129 = true then (some false) else ((key_In.f (⟨#[122]⟩ : ByteArray) (⟨#[]⟩ : ByteArray) (⟨#[]⟩ : ByteArray)).bind fun t130 => (if t130 = true then ((key_Mid.f k (⟨#[97, 98, 99]⟩ : ByteArray) (⟨#[97, 98, 101]⟩ : ByteArray)).bind fun t131 => (if t131.toList = ([97, 98, 101] : List UInt8) then ((key_Mid.f k (⟨#[97]⟩ : ByteArray) (⟨#[99, 122]⟩ : ByteArray)).bind fun t132 => (some (t132.toList == ([99] : List UInt8)))) else (some false))) else (some false))))) else (some false))) else (some false)))) else (some false)) = some r := by rw [if_pos rfl] at H; exact H
        clear H
        have H := H1
        clear H1
        by_cases c12 : (FloatKind.f64.format.order t121 4609434218613702656 == some .eq) = true
        · rw [if_pos c12] at H
          have c12b0 : (FloatKind.f64.format.order t121 4609434218613702656 == some .eq) = true := c12
          (try (have c12b1 : decide (FloatKind.f64.format.order t121 4609434218613702656 = some .eq) = true := by simpa using c12))
          (try (have c12b2 : (FloatKind.f64.format.order t121 4609434218613702656 == some .eq) = true := by simpa using c12))
          clear c12
          by_cases c13 : t124 = true
          · subst c13
            have H1 : (some false) = some r := by rw [if_pos rfl] at H; exact H
            clear H
            have H := H1
            clear H1
            obtain rfl := Option.some.inj H
            go_enter Try.func10, Try.ntmps10
            go_wp2_with (first | ((with_reducible refine gate_callee (f := 20) rfl ?_); refine goesL_ (some 6) rfl rfl Try.func20 (by kernel_rfl) rfl #[.float .f64 4609434218613702656] rfl (by (try simp only [List.map_toArray, List.map_cons, List.map_nil]); first | done | rfl | (simp only [List.length_drop, List.length_take]; rfl)) ?_; (with_reducible refine (key_Of.calls k 4609434218613702656 t120 _ A1.out).mono ?_); rintro e w14 ⟨rfl, hb⟩; refine ⟨_, rfl, ?_⟩; have n0_ := Aside0.mk (below_step (by repeat (first | (with_reducible first | exact HB.out | apply below_alloc | apply pw_below_drewN | apply below_drew1) | exact HB.out)) hb); clear HB; have HB := n0_; clear n0_; (try clear hb); (try clear hb2); (try clear hk); (try clear hi)) | ((with_reducible refine gate_callee (f := 12) rfl ?_); refine goesL_ (some 7) rfl rfl Try.func12 (by kernel_rfl) rfl #[.string t120] rfl (by (try simp only [List.map_toArray, List.map_cons, List.map_nil]); first | done | rfl | (simp only [List.length_drop, List.length_take]; rfl)) ?_; (with_reducible refine (key_Float.calls k t120 t121 true _ A2.out).mono ?_); rintro e w15 ⟨rfl, hb⟩; refine ⟨_, rfl, ?_⟩; have n0_ := Aside0.mk (below_step (by repeat (first | (with_reducible first | exact HB.out | apply below_alloc | apply pw_below_drewN | apply below_drew1) | exact HB.out)) hb); clear HB; have HB := n0_; clear n0_; (try clear hb); (try clear hb2); (try clear hk); (try clear hi)) | ((with_reducible refine gate_callee (f := 12) rfl ?_); refine goesL_ (some 11) rfl rfl Try.func12 (by kernel_rfl) rfl #[.string (⟨#[102]⟩ : ByteArray)] rfl (by (try simp only [List.map_toArray, List.map_cons, List.map_nil]); first | done | rfl | (simp only [List.length_drop, List.length_take]; rfl)) ?_; (with_reducible refine (key_Float.calls k (⟨#[102]⟩ : ByteArray) t123 true _ A3.out).mono ?_); rintro e w16 ⟨rfl, hb⟩; refine ⟨_, rfl, ?_⟩; have n0_ := Aside0.mk (below_step (by repeat (first | (with_reducible first | exact HB.out | apply below_alloc | apply pw_below_drewN | apply below_drew1) | exact HB.out)) hb); clear HB; have HB := n0_; clear n0_; (try clear hb); (try clear hb2); (try clear hk); (try clear hi)) | ((with_reducible refine gate_callee (f := 15) rfl ?_); refine goesL_ (some 14) rfl rfl Try.func15 (by kernel_rfl) rfl #[.string (⟨#[97]⟩ : ByteArray)] rfl (by (try simp only [List.map_toArray, List.map_cons, List.map_nil]); first | done | rfl | (simp only [List.length_drop, List.length_take]; rfl)) ?_; (with_reducible refine (key_May.calls (⟨#[97]⟩ : ByteArray) true _ A4.out).mono ?_); rintro e w' ⟨rfl, ⟨nd, rfl⟩⟩; refine ⟨_, rfl, ?_⟩) | (go_at_call 15; (with_reducible refine (key_May.calls (⟨#[]⟩ : ByteArray) false _ A6.out).mono ?_); rintro e w' ⟨rfl, ⟨nd, rfl⟩⟩))
            go_ret
            exact ⟨by first | rfl | (simp [errW_none, errW_some] <;> rfl) | (simp [*, errW_none, errW_some] <;> rfl), by repeat (first | (with_reducible first | exact HB.out | apply below_alloc | apply pw_below_drewN | apply below_drew1) | exact HB.out)⟩
          · replace c13 := Bool.eq_false_iff.mpr c13
            subst c13
            have H1 : ((key_Of.f k 0).bind fun t127 => (if (t127.size : Int) = 9 then ((key_In.f (⟨#[98]⟩ : ByteArray) (⟨#[97]⟩ : ByteArray) (⟨#[99]⟩ : ByteArray)).bind fun t128 => (if t128 = true then ((key_In.f (⟨#[99]⟩ : ByteArray) (⟨#[97]⟩ : ByteArray) (⟨#[99]⟩ : ByteArray)).bind fun t129 => (if t129 = true then (some false) else ((key_In.f (⟨#[122]⟩ : ByteArray) (⟨#[]⟩ : ByteArray) (⟨#[]⟩ : ByteArray)).bind fun t130 => (if t130 = true then ((key_Mid.f k (⟨#[97, 98, 99]⟩ : ByteArray) (⟨#[97, 98, 101]⟩ : ByteArray)).bind fun t131 => (if t131.toList = ([97, 98, 101] : List UInt8) then ((key_Mid.f k (⟨#[97]⟩ : ByteArray) (⟨#[99, 122]⟩ : ByteArray)).bind fun t132 => (some (t132.toList == ([99] : List UInt8)))) else (some false))) else (some false))))) else (some false))) else (some false))) = some r := by rw [if_neg (show ¬ (false = true) by decide)] at H; exact H
            clear H
            have H := H1
            clear H1
            replace H := Option.bind_eq_some_iff.mp H
            obtain ⟨t127, A170, H⟩ := H
            replace H : (if (t127.size : Int) = 9 then ((key_In.f (⟨#[98]⟩ : ByteArray) (⟨#[97]⟩ : ByteArray) (⟨#[99]⟩ : ByteArray)).bind fun t128 => (if t128 = true then ((key_In.f (⟨#[99]⟩ : ByteArray) (⟨#[97]⟩ : ByteArray) (⟨#[99]⟩ : ByteArray)).bind fun t129 => (if t129 = true then (some false) else ((key_In.f (⟨#[122]⟩ : ByteArray) (⟨#[]⟩ : ByteArray) (⟨#[]⟩ : ByteArray)).bind fun t130 => (if t130 = true then ((key_Mid.f k (⟨#[97, 98, 99]⟩ : ByteArray) (⟨#[97, 98, 101]⟩ : ByteArray)).bind fun t131 => (if t131.toList = ([97, 98, 101] : List UInt8) then ((key_Mid.f k (⟨#[97]⟩ : ByteArray) (⟨#[99, 122]⟩ : ByteArray)).bind fun t132 => (some (t132.toList == ([99] : List UInt8)))) else (some false))) else (some false))))) else (some false))) else (some false)) = some r := H
            have A17 := Aside0.mk A170
            clear A170
            by_cases c18 : (t127.size : Int) = 9
            · rw [if_pos c18] at H
              have c18b0 : ((t127.size : Int) == 9) = true := beq_iff_eq.mpr c18
              have c18b1 : ((t127.size : Int) != 9) = false := bne_eq_false_iff_eq.mpr c18
              clear c18
              replace H := Option.bind_eq_some_iff.mp H
              obtain ⟨t128, A190, H⟩ := H
              replace H : (if t128 = true then ((key_In.f (⟨#[99]⟩ : ByteArray) (⟨#[97]⟩ : ByteArray) (⟨#[99]⟩ : ByteArray)).bind fun t129 => (if t129 = true then (some false) else ((key_In.f (⟨#[122]⟩ : ByteArray) (⟨#[]⟩ : ByteArray) (⟨#[]⟩ : ByteArray)).bind fun t130 => (if t130 = true then ((key_Mid.f k (⟨#[97, 98, 99]⟩ : ByteArray) (⟨#[97, 98, 101]⟩ : ByteArray)).bind fun t131 => (if t131.toList = ([97, 98, 101] : List UInt8) then ((key_Mid.f k (⟨#[97]⟩ : ByteArray) (⟨#[99, 122]⟩ : ByteArray)).bind fun t132 => (some (t132.toList == ([99] : List UInt8)))) else (some false))) else (some false))))) else (some false)) = some r := H
              have A19 := Aside0.mk A190
              clear A190
              by_cases c20 : t128 = true
              · subst c20
                have H1 : ((key_In.f (⟨#[99]⟩ : ByteArray) (⟨#[97]⟩ : ByteArray) (⟨#[99]⟩ : ByteArray)).bind fun t129 => (if t129 = true then (some false) else ((key_In.f (⟨#[122]⟩ : ByteArray) (⟨#[]⟩ : ByteArray) (⟨#[]⟩ : ByteArray)).bind fun t130 => (if t130 = true then ((key_Mid.f k (⟨#[97, 98, 99]⟩ : ByteArray) (⟨#[97, 98, 101]⟩ : ByteArray)).bind fun t131 => (if t131.toList = ([97, 98, 101] : List UInt8) then ((key_Mid.f k (⟨#[97]⟩ : ByteArray) (⟨#[99, 122]⟩ : ByteArray)).bind fun t132 => (some (t132.toList == ([99] : List UInt8)))) else (some false))) else (some false))))) = some r := by rw [if_pos rfl] at H; exact H
                clear H
                have H := H1
                clear H1
                replace H := Option.bind_eq_some_iff.mp H
                obtain ⟨t129, A210, H⟩ := H
                replace H : (if t129 = true then (some false) else ((key_In.f (⟨#[122]⟩ : ByteArray) (⟨#[]⟩ : ByteArray) (⟨#[]⟩ : ByteArray)).bind fun t130 => (if t130 = true then ((key_Mid.f k (⟨#[97, 98, 99]⟩ : ByteArray) (⟨#[97, 98, 101]⟩ : ByteArray)).bind fun t131 => (if t131.toList = ([97, 98, 101] : List UInt8) then ((key_Mid.f k (⟨#[97]⟩ : ByteArray) (⟨#[99, 122]⟩ : ByteArray)).bind fun t132 => (some (t132.toList == ([99] : List UInt8)))) else (some false))) else (some false)))) = some r := H
                have A21 := Aside0.mk A210
                clear A210
                by_cases c22 : t129 = true
                · subst c22
                  have H1 : (some false) = some r := by rw [if_pos rfl] at H; exact H
                  clear H
                  have H := H1
                  clear H1
                  obtain rfl := Option.some.inj H
                  go_enter Try.func10, Try.ntmps10
                  go_wp2_with (first | ((with_reducible refine gate_callee (f := 20) rfl ?_); refine goesL_ (some 6) rfl rfl Try.func20 (by kernel_rfl) rfl #[.float .f64 4609434218613702656] rfl (by (try simp only [List.map_toArray, List.map_cons, List.map_nil]); first | done | rfl | (simp only [List.length_drop, List.length_take]; rfl)) ?_; (with_reducible refine (key_Of.calls k 4609434218613702656 t120 _ A1.out).mono ?_); rintro e w23 ⟨rfl, hb⟩; refine ⟨_, rfl, ?_⟩; have n0_ := Aside0.mk (below_step (by repeat (first | (with_reducible first | exact HB.out | apply below_alloc | apply pw_below_drewN | apply below_drew1) | exact HB.out)) hb); clear HB; have HB := n0_; clear n0_; (try clear hb); (try clear hb2); (try clear hk); (try clear hi)) | ((with_reducible refine gate_callee (f := 12) rfl ?_); refine goesL_ (some 7) rfl rfl Try.func12 (by kernel_rfl) rfl #[.string t120] rfl (by (try simp only [List.map_toArray, List.map_cons, List.map_nil]); first | done | rfl | (simp only [List.length_drop, List.length_take]; rfl)) ?_; (with_reducible refine (key_Float.calls k t120 t121 true _ A2.out).mono ?_); rintro e w24 ⟨rfl, hb⟩; refine ⟨_, rfl, ?_⟩; have n0_ := Aside0.mk (below_step (by repeat (first | (with_reducible first | exact HB.out | apply below_alloc | apply pw_below_drewN | apply below_drew1) | exact HB.out)) hb); clear HB; have HB := n0_; clear n0_; (try clear hb); (try clear hb2); (try clear hk); (try clear hi)) | ((with_reducible refine gate_callee (f := 12) rfl ?_); refine goesL_ (some 11) rfl rfl Try.func12 (by kernel_rfl) rfl #[.string (⟨#[102]⟩ : ByteArray)] rfl (by (try simp only [List.map_toArray, List.map_cons, List.map_nil]); first | done | rfl | (simp only [List.length_drop, List.length_take]; rfl)) ?_; (with_reducible refine (key_Float.calls k (⟨#[102]⟩ : ByteArray) t123 false _ A3.out).mono ?_); rintro e w25 ⟨rfl, hb⟩; refine ⟨_, rfl, ?_⟩; have n0_ := Aside0.mk (below_step (by repeat (first | (with_reducible first | exact HB.out | apply below_alloc | apply pw_below_drewN | apply below_drew1) | exact HB.out)) hb); clear HB; have HB := n0_; clear n0_; (try clear hb); (try clear hb2); (try clear hk); (try clear hi)) | ((with_reducible refine gate_callee (f := 15) rfl ?_); refine goesL_ (some 14) rfl rfl Try.func15 (by kernel_rfl) rfl #[.string (⟨#[97]⟩ : ByteArray)] rfl (by (try simp only [List.map_toArray, List.map_cons, List.map_nil]); first | done | rfl | (simp only [List.length_drop, List.length_take]; rfl)) ?_; (with_reducible refine (key_May.calls (⟨#[97]⟩ : ByteArray) true _ A4.out).mono ?_); rintro e w' ⟨rfl, ⟨nd, rfl⟩⟩; refine ⟨_, rfl, ?_⟩) | (go_at_call 15; (with_reducible refine (key_May.calls (⟨#[]⟩ : ByteArray) false _ A6.out).mono ?_); rintro e w' ⟨rfl, ⟨nd, rfl⟩⟩) | (go_at_call 20; (with_reducible refine (key_Of.calls k 0 t127 _ A17.out).mono ?_); rintro e w26 ⟨rfl, hb⟩; have n0_ := Aside0.mk (below_step (by repeat (first | (with_reducible first | exact HB.out | apply below_alloc | apply pw_below_drewN | apply below_drew1) | exact HB.out)) hb); clear HB; have HB := n0_; clear n0_; (try clear hb); (try clear hb2); (try clear hk); (try clear hi)) | (go_at_call 17; (with_reducible refine (key_In.calls (⟨#[98]⟩ : ByteArray) (⟨#[97]⟩ : ByteArray) (⟨#[99]⟩ : ByteArray) true _ A19.out).mono ?_); rintro e w' ⟨rfl, ⟨nd, rfl⟩⟩) | (go_at_call 17; (with_reducible refine (key_In.calls (⟨#[99]⟩ : ByteArray) (⟨#[97]⟩ : ByteArray) (⟨#[99]⟩ : ByteArray) true _ A21.out).mono ?_); rintro e w' ⟨rfl, ⟨nd, rfl⟩⟩))
                  go_ret
                  exact ⟨by first | rfl | (simp [errW_none, errW_some] <;> rfl) | (simp [*, errW_none, errW_some] <;> rfl), by repeat (first | (with_reducible first | exact HB.out | apply below_alloc | apply pw_below_drewN | apply below_drew1) | exact HB.out)⟩
                · replace c22 := Bool.eq_false_iff.mpr c22
                  subst c22
                  have H1 : ((key_In.f (⟨#[122]⟩ : ByteArray) (⟨#[]⟩ : ByteArray) (⟨#[]⟩ : ByteArray)).bind fun t130 => (if t130 = true then ((key_Mid.f k (⟨#[97, 98, 99]⟩ : ByteArray) (⟨#[97, 98, 101]⟩ : ByteArray)).bind fun t131 => (if t131.toList = ([97, 98, 101] : List UInt8) then ((key_Mid.f k (⟨#[97]⟩ : ByteArray) (⟨#[99, 122]⟩ : ByteArray)).bind fun t132 => (some (t132.toList == ([99] : List UInt8)))) else (some false))) else (some false))) = some r := by rw [if_neg (show ¬ (false = true) by decide)] at H; exact H
                  clear H
                  have H := H1
                  clear H1
                  replace H := Option.bind_eq_some_iff.mp H
                  obtain ⟨t130, A270, H⟩ := H
                  replace H : (if t130 = true then ((key_Mid.f k (⟨#[97, 98, 99]⟩ : ByteArray) (⟨#[97, 98, 101]⟩ : ByteArray)).bind fun t131 => (if t131.toList = ([97, 98, 101] : List UInt8) then ((key_Mid.f k (⟨#[97]⟩ : ByteArray) (⟨#[99, 122]⟩ : ByteArray)).bind fun t132 => (some (t132.toList == ([99] : List UInt8)))) else (some false))) else (some false)) = some r := H
                  have A27 := Aside0.mk A270
                  clear A270
                  by_cases c28 : t130 = true
                  · subst c28
                    have H1 : ((key_Mid.f k (⟨#[97, 98, 99]⟩ : ByteArray) (⟨#[97, 98, 101]⟩ : ByteArray)).bind fun t131 => (if t131.toList = ([97, 98, 101] : List UInt8) then ((key_Mid.f k (⟨#[97]⟩ : ByteArray) (⟨#[99, 122]⟩ : ByteArray)).bind fun t132 => (some (t132.toList == ([99] : List UInt8)))) else (some false))) = some r := by rw [if_pos rfl] at H; exact H
                    clear H
                    have H := H1
                    clear H1
                    replace H := Option.bind_eq_some_iff.mp H
                    obtain ⟨t131, A290, H⟩ := H
                    replace H : (if t131.toList = ([97, 98, 101] : List UInt8) then ((key_Mid.f k (⟨#[97]⟩ : ByteArray) (⟨#[99, 122]⟩ : ByteArray)).bind fun t132 => (some (t132.toList == ([99] : List UInt8)))) else (some false)) = some r := H
                    have A29 := Aside0.mk A290
                    clear A290
                    by_cases c30 : t131.toList = ([97, 98, 101] : List UInt8)
                    · rw [if_pos c30] at H
                      have c30b0 : (t131.toList == ([97, 98, 101] : List UInt8)) = true := beq_iff_eq.mpr c30
                      have c30b1 : (t131.toList != ([97, 98, 101] : List UInt8)) = false := bne_eq_false_iff_eq.mpr c30
                      clear c30
                      replace H := Option.bind_eq_some_iff.mp H
                      obtain ⟨t132, A310, H⟩ := H
                      replace H : (some (t132.toList == ([99] : List UInt8))) = some r := H
                      have A31 := Aside0.mk A310
                      clear A310
                      obtain rfl := Option.some.inj H
                      go_enter Try.func10, Try.ntmps10
                      go_wp2_with (first | ((with_reducible refine gate_callee (f := 20) rfl ?_); refine goesL_ (some 6) rfl rfl Try.func20 (by kernel_rfl) rfl #[.float .f64 4609434218613702656] rfl (by (try simp only [List.map_toArray, List.map_cons, List.map_nil]); first | done | rfl | (simp only [List.length_drop, List.length_take]; rfl)) ?_; (with_reducible refine (key_Of.calls k 4609434218613702656 t120 _ A1.out).mono ?_); rintro e w32 ⟨rfl, hb⟩; refine ⟨_, rfl, ?_⟩; have n0_ := Aside0.mk (below_step (by repeat (first | (with_reducible first | exact HB.out | apply below_alloc | apply pw_below_drewN | apply below_drew1) | exact HB.out)) hb); clear HB; have HB := n0_; clear n0_; (try clear hb); (try clear hb2); (try clear hk); (try clear hi)) | ((with_reducible refine gate_callee (f := 12) rfl ?_); refine goesL_ (some 7) rfl rfl Try.func12 (by kernel_rfl) rfl #[.string t120] rfl (by (try simp only [List.map_toArray, List.map_cons, List.map_nil]); first | done | rfl | (simp only [List.length_drop, List.length_take]; rfl)) ?_; (with_reducible refine (key_Float.calls k t120 t121 true _ A2.out).mono ?_); rintro e w33 ⟨rfl, hb⟩; refine ⟨_, rfl, ?_⟩; have n0_ := Aside0.mk (below_step (by repeat (first | (with_reducible first | exact HB.out | apply below_alloc | apply pw_below_drewN | apply below_drew1) | exact HB.out)) hb); clear HB; have HB := n0_; clear n0_; (try clear hb); (try clear hb2); (try clear hk); (try clear hi)) | ((with_reducible refine gate_callee (f := 12) rfl ?_); refine goesL_ (some 11) rfl rfl Try.func12 (by kernel_rfl) rfl #[.string (⟨#[102]⟩ : ByteArray)] rfl (by (try simp only [List.map_toArray, List.map_cons, List.map_nil]); first | done | rfl | (simp only [List.length_drop, List.length_take]; rfl)) ?_; (with_reducible refine (key_Float.calls k (⟨#[102]⟩ : ByteArray) t123 false _ A3.out).mono ?_); rintro e w34 ⟨rfl, hb⟩; refine ⟨_, rfl, ?_⟩; have n0_ := Aside0.mk (below_step (by repeat (first | (with_reducible first | exact HB.out | apply below_alloc | apply pw_below_drewN | apply below_drew1) | exact HB.out)) hb); clear HB; have HB := n0_; clear n0_; (try clear hb); (try clear hb2); (try clear hk); (try clear hi)) | ((with_reducible refine gate_callee (f := 15) rfl ?_); refine goesL_ (some 14) rfl rfl Try.func15 (by kernel_rfl) rfl #[.string (⟨#[97]⟩ : ByteArray)] rfl (by (try simp only [List.map_toArray, List.map_cons, List.map_nil]); first | done | rfl | (simp only [List.length_drop, List.length_take]; rfl)) ?_; (with_reducible refine (key_May.calls (⟨#[97]⟩ : ByteArray) true _ A4.out).mono ?_); rintro e w' ⟨rfl, ⟨nd, rfl⟩⟩; refine ⟨_, rfl, ?_⟩) | (go_at_call 15; (with_reducible refine (key_May.calls (⟨#[]⟩ : ByteArray) false _ A6.out).mono ?_); rintro e w' ⟨rfl, ⟨nd, rfl⟩⟩) | (go_at_call 20; (with_reducible refine (key_Of.calls k 0 t127 _ A17.out).mono ?_); rintro e w35 ⟨rfl, hb⟩; have n0_ := Aside0.mk (below_step (by repeat (first | (with_reducible first | exact HB.out | apply below_alloc | apply pw_below_drewN | apply below_drew1) | exact HB.out)) hb); clear HB; have HB := n0_; clear n0_; (try clear hb); (try clear hb2); (try clear hk); (try clear hi)) | (go_at_call 17; (with_reducible refine (key_In.calls (⟨#[98]⟩ : ByteArray) (⟨#[97]⟩ : ByteArray) (⟨#[99]⟩ : ByteArray) true _ A19.out).mono ?_); rintro e w' ⟨rfl, ⟨nd, rfl⟩⟩) | (go_at_call 17; (with_reducible refine (key_In.calls (⟨#[99]⟩ : ByteArray) (⟨#[97]⟩ : ByteArray) (⟨#[99]⟩ : ByteArray) false _ A21.out).mono ?_); rintro e w' ⟨rfl, ⟨nd, rfl⟩⟩) | (go_at_call 17; (with_reducible refine (key_In.calls (⟨#[122]⟩ : ByteArray) (⟨#[]⟩ : ByteArray) (⟨#[]⟩ : ByteArray) true _ A27.out).mono ?_); rintro e w' ⟨rfl, ⟨nd, rfl⟩⟩) | (go_at_call 23; (with_reducible refine (key_Mid.calls k (⟨#[97, 98, 99]⟩ : ByteArray) (⟨#[97, 98, 101]⟩ : ByteArray) t131 _ A29.out).mono ?_); rintro e w' ⟨rfl, ⟨nd, rfl⟩⟩) | (go_at_call 23; (with_reducible refine (key_Mid.calls k (⟨#[97]⟩ : ByteArray) (⟨#[99, 122]⟩ : ByteArray) t132 _ A31.out).mono ?_); rintro e w' ⟨rfl, ⟨nd, rfl⟩⟩))
                      go_ret
                      exact ⟨by first | rfl | (simp [errW_none, errW_some] <;> rfl) | (simp [*, errW_none, errW_some] <;> rfl), by repeat (first | (with_reducible first | exact HB.out | apply below_alloc | apply pw_below_drewN | apply below_drew1) | exact HB.out)⟩
                    · rw [if_neg c30] at H
                      have c30b0 : (t131.toList == ([97, 98, 101] : List UInt8)) = false := beq_eq_false_iff_ne.mpr c30
                      have c30b1 : (t131.toList != ([97, 98, 101] : List UInt8)) = true := bne_iff_ne.mpr c30
                      obtain rfl := Option.some.inj H
                      go_enter Try.func10, Try.ntmps10
                      go_wp2_with (first | ((with_reducible refine gate_callee (f := 20) rfl ?_); refine goesL_ (some 6) rfl rfl Try.func20 (by kernel_rfl) rfl #[.float .f64 4609434218613702656] rfl (by (try simp only [List.map_toArray, List.map_cons, List.map_nil]); first | done | rfl | (simp only [List.length_drop, List.length_take]; rfl)) ?_; (with_reducible refine (key_Of.calls k 4609434218613702656 t120 _ A1.out).mono ?_); rintro e w36 ⟨rfl, hb⟩; refine ⟨_, rfl, ?_⟩; have n0_ := Aside0.mk (below_step (by repeat (first | (with_reducible first | exact HB.out | apply below_alloc | apply pw_below_drewN | apply below_drew1) | exact HB.out)) hb); clear HB; have HB := n0_; clear n0_; (try clear hb); (try clear hb2); (try clear hk); (try clear hi)) | ((with_reducible refine gate_callee (f := 12) rfl ?_); refine goesL_ (some 7) rfl rfl Try.func12 (by kernel_rfl) rfl #[.string t120] rfl (by (try simp only [List.map_toArray, List.map_cons, List.map_nil]); first | done | rfl | (simp only [List.length_drop, List.length_take]; rfl)) ?_; (with_reducible refine (key_Float.calls k t120 t121 true _ A2.out).mono ?_); rintro e w37 ⟨rfl, hb⟩; refine ⟨_, rfl, ?_⟩; have n0_ := Aside0.mk (below_step (by repeat (first | (with_reducible first | exact HB.out | apply below_alloc | apply pw_below_drewN | apply below_drew1) | exact HB.out)) hb); clear HB; have HB := n0_; clear n0_; (try clear hb); (try clear hb2); (try clear hk); (try clear hi)) | ((with_reducible refine gate_callee (f := 12) rfl ?_); refine goesL_ (some 11) rfl rfl Try.func12 (by kernel_rfl) rfl #[.string (⟨#[102]⟩ : ByteArray)] rfl (by (try simp only [List.map_toArray, List.map_cons, List.map_nil]); first | done | rfl | (simp only [List.length_drop, List.length_take]; rfl)) ?_; (with_reducible refine (key_Float.calls k (⟨#[102]⟩ : ByteArray) t123 false _ A3.out).mono ?_); rintro e w38 ⟨rfl, hb⟩; refine ⟨_, rfl, ?_⟩; have n0_ := Aside0.mk (below_step (by repeat (first | (with_reducible first | exact HB.out | apply below_alloc | apply pw_below_drewN | apply below_drew1) | exact HB.out)) hb); clear HB; have HB := n0_; clear n0_; (try clear hb); (try clear hb2); (try clear hk); (try clear hi)) | ((with_reducible refine gate_callee (f := 15) rfl ?_); refine goesL_ (some 14) rfl rfl Try.func15 (by kernel_rfl) rfl #[.string (⟨#[97]⟩ : ByteArray)] rfl (by (try simp only [List.map_toArray, List.map_cons, List.map_nil]); first | done | rfl | (simp only [List.length_drop, List.length_take]; rfl)) ?_; (with_reducible refine (key_May.calls (⟨#[97]⟩ : ByteArray) true _ A4.out).mono ?_); rintro e w' ⟨rfl, ⟨nd, rfl⟩⟩; refine ⟨_, rfl, ?_⟩) | (go_at_call 15; (with_reducible refine (key_May.calls (⟨#[]⟩ : ByteArray) false _ A6.out).mono ?_); rintro e w' ⟨rfl, ⟨nd, rfl⟩⟩) | (go_at_call 20; (with_reducible refine (key_Of.calls k 0 t127 _ A17.out).mono ?_); rintro e w39 ⟨rfl, hb⟩; have n0_ := Aside0.mk (below_step (by repeat (first | (with_reducible first | exact HB.out | apply below_alloc | apply pw_below_drewN | apply below_drew1) | exact HB.out)) hb); clear HB; have HB := n0_; clear n0_; (try clear hb); (try clear hb2); (try clear hk); (try clear hi)) | (go_at_call 17; (with_reducible refine (key_In.calls (⟨#[98]⟩ : ByteArray) (⟨#[97]⟩ : ByteArray) (⟨#[99]⟩ : ByteArray) true _ A19.out).mono ?_); rintro e w' ⟨rfl, ⟨nd, rfl⟩⟩) | (go_at_call 17; (with_reducible refine (key_In.calls (⟨#[99]⟩ : ByteArray) (⟨#[97]⟩ : ByteArray) (⟨#[99]⟩ : ByteArray) false _ A21.out).mono ?_); rintro e w' ⟨rfl, ⟨nd, rfl⟩⟩) | (go_at_call 17; (with_reducible refine (key_In.calls (⟨#[122]⟩ : ByteArray) (⟨#[]⟩ : ByteArray) (⟨#[]⟩ : ByteArray) true _ A27.out).mono ?_); rintro e w' ⟨rfl, ⟨nd, rfl⟩⟩) | (go_at_call 23; (with_reducible refine (key_Mid.calls k (⟨#[97, 98, 99]⟩ : ByteArray) (⟨#[97, 98, 101]⟩ : ByteArray) t131 _ A29.out).mono ?_); rintro e w' ⟨rfl, ⟨nd, rfl⟩⟩))
                      go_ret
                      exact ⟨by first | rfl | (simp [errW_none, errW_some] <;> rfl) | (simp [*, errW_none, errW_some] <;> rfl), by repeat (first | (with_reducible first | exact HB.out | apply below_alloc | apply pw_below_drewN | apply below_drew1) | exact HB.out)⟩
                  · replace c28 := Bool.eq_false_iff.mpr c28
                    subst c28
                    have H1 : (some false) = some r := by rw [if_neg (show ¬ (false = true) by decide)] at H; exact H
                    clear H
                    have H := H1
                    clear H1
                    obtain rfl := Option.some.inj H
                    go_enter Try.func10, Try.ntmps10
                    go_wp2_with (first | ((with_reducible refine gate_callee (f := 20) rfl ?_); refine goesL_ (some 6) rfl rfl Try.func20 (by kernel_rfl) rfl #[.float .f64 4609434218613702656] rfl (by (try simp only [List.map_toArray, List.map_cons, List.map_nil]); first | done | rfl | (simp only [List.length_drop, List.length_take]; rfl)) ?_; (with_reducible refine (key_Of.calls k 4609434218613702656 t120 _ A1.out).mono ?_); rintro e w40 ⟨rfl, hb⟩; refine ⟨_, rfl, ?_⟩; have n0_ := Aside0.mk (below_step (by repeat (first | (with_reducible first | exact HB.out | apply below_alloc | apply pw_below_drewN | apply below_drew1) | exact HB.out)) hb); clear HB; have HB := n0_; clear n0_; (try clear hb); (try clear hb2); (try clear hk); (try clear hi)) | ((with_reducible refine gate_callee (f := 12) rfl ?_); refine goesL_ (some 7) rfl rfl Try.func12 (by kernel_rfl) rfl #[.string t120] rfl (by (try simp only [List.map_toArray, List.map_cons, List.map_nil]); first | done | rfl | (simp only [List.length_drop, List.length_take]; rfl)) ?_; (with_reducible refine (key_Float.calls k t120 t121 true _ A2.out).mono ?_); rintro e w41 ⟨rfl, hb⟩; refine ⟨_, rfl, ?_⟩; have n0_ := Aside0.mk (below_step (by repeat (first | (with_reducible first | exact HB.out | apply below_alloc | apply pw_below_drewN | apply below_drew1) | exact HB.out)) hb); clear HB; have HB := n0_; clear n0_; (try clear hb); (try clear hb2); (try clear hk); (try clear hi)) | ((with_reducible refine gate_callee (f := 12) rfl ?_); refine goesL_ (some 11) rfl rfl Try.func12 (by kernel_rfl) rfl #[.string (⟨#[102]⟩ : ByteArray)] rfl (by (try simp only [List.map_toArray, List.map_cons, List.map_nil]); first | done | rfl | (simp only [List.length_drop, List.length_take]; rfl)) ?_; (with_reducible refine (key_Float.calls k (⟨#[102]⟩ : ByteArray) t123 false _ A3.out).mono ?_); rintro e w42 ⟨rfl, hb⟩; refine ⟨_, rfl, ?_⟩; have n0_ := Aside0.mk (below_step (by repeat (first | (with_reducible first | exact HB.out | apply below_alloc | apply pw_below_drewN | apply below_drew1) | exact HB.out)) hb); clear HB; have HB := n0_; clear n0_; (try clear hb); (try clear hb2); (try clear hk); (try clear hi)) | ((with_reducible refine gate_callee (f := 15) rfl ?_); refine goesL_ (some 14) rfl rfl Try.func15 (by kernel_rfl) rfl #[.string (⟨#[97]⟩ : ByteArray)] rfl (by (try simp only [List.map_toArray, List.map_cons, List.map_nil]); first | done | rfl | (simp only [List.length_drop, List.length_take]; rfl)) ?_; (with_reducible refine (key_May.calls (⟨#[97]⟩ : ByteArray) true _ A4.out).mono ?_); rintro e w' ⟨rfl, ⟨nd, rfl⟩⟩; refine ⟨_, rfl, ?_⟩) | (go_at_call 15; (with_reducible refine (key_May.calls (⟨#[]⟩ : ByteArray) false _ A6.out).mono ?_); rintro e w' ⟨rfl, ⟨nd, rfl⟩⟩) | (go_at_call 20; (with_reducible refine (key_Of.calls k 0 t127 _ A17.out).mono ?_); rintro e w43 ⟨rfl, hb⟩; have n0_ := Aside0.mk (below_step (by repeat (first | (with_reducible first | exact HB.out | apply below_alloc | apply pw_below_drewN | apply below_drew1) | exact HB.out)) hb); clear HB; have HB := n0_; clear n0_; (try clear hb); (try clear hb2); (try clear hk); (try clear hi)) | (go_at_call 17; (with_reducible refine (key_In.calls (⟨#[98]⟩ : ByteArray) (⟨#[97]⟩ : ByteArray) (⟨#[99]⟩ : ByteArray) true _ A19.out).mono ?_); rintro e w' ⟨rfl, ⟨nd, rfl⟩⟩) | (go_at_call 17; (with_reducible refine (key_In.calls (⟨#[99]⟩ : ByteArray) (⟨#[97]⟩ : ByteArray) (⟨#[99]⟩ : ByteArray) false _ A21.out).mono ?_); rintro e w' ⟨rfl, ⟨nd, rfl⟩⟩) | (go_at_call 17; (with_reducible refine (key_In.calls (⟨#[122]⟩ : ByteArray) (⟨#[]⟩ : ByteArray) (⟨#[]⟩ : ByteArray) false _ A27.out).mono ?_); rintro e w' ⟨rfl, ⟨nd, rfl⟩⟩))
                    go_ret
                    exact ⟨by first | rfl | (simp [errW_none, errW_some] <;> rfl) | (simp [*, errW_none, errW_some] <;> rfl), by repeat (first | (with_reducible first | exact HB.out | apply below_alloc | apply pw_below_drewN | apply below_drew1) | exact HB.out)⟩
              · replace c20 := Bool.eq_false_iff.mpr c20
                subst c20
                have H1 : (some false) = some r := by rw [if_neg (show ¬ (false = true) by decide)] at H; exact H
                clear H
                have H := H1
                clear H1
                obtain rfl := Option.some.inj H
                go_enter Try.func10, Try.ntmps10
                go_wp2_with (first | ((with_reducible refine gate_callee (f := 20) rfl ?_); refine goesL_ (some 6) rfl rfl Try.func20 (by kernel_rfl) rfl #[.float .f64 4609434218613702656] rfl (by (try simp only [List.map_toArray, List.map_cons, List.map_nil]); first | done | rfl | (simp only [List.length_drop, List.length_take]; rfl)) ?_; (with_reducible refine (key_Of.calls k 4609434218613702656 t120 _ A1.out).mono ?_); rintro e w44 ⟨rfl, hb⟩; refine ⟨_, rfl, ?_⟩; have n0_ := Aside0.mk (below_step (by repeat (first | (with_reducible first | exact HB.out | apply below_alloc | apply pw_below_drewN | apply below_drew1) | exact HB.out)) hb); clear HB; have HB := n0_; clear n0_; (try clear hb); (try clear hb2); (try clear hk); (try clear hi)) | ((with_reducible refine gate_callee (f := 12) rfl ?_); refine goesL_ (some 7) rfl rfl Try.func12 (by kernel_rfl) rfl #[.string t120] rfl (by (try simp only [List.map_toArray, List.map_cons, List.map_nil]); first | done | rfl | (simp only [List.length_drop, List.length_take]; rfl)) ?_; (with_reducible refine (key_Float.calls k t120 t121 true _ A2.out).mono ?_); rintro e w45 ⟨rfl, hb⟩; refine ⟨_, rfl, ?_⟩; have n0_ := Aside0.mk (below_step (by repeat (first | (with_reducible first | exact HB.out | apply below_alloc | apply pw_below_drewN | apply below_drew1) | exact HB.out)) hb); clear HB; have HB := n0_; clear n0_; (try clear hb); (try clear hb2); (try clear hk); (try clear hi)) | ((with_reducible refine gate_callee (f := 12) rfl ?_); refine goesL_ (some 11) rfl rfl Try.func12 (by kernel_rfl) rfl #[.string (⟨#[102]⟩ : ByteArray)] rfl (by (try simp only [List.map_toArray, List.map_cons, List.map_nil]); first | done | rfl | (simp only [List.length_drop, List.length_take]; rfl)) ?_; (with_reducible refine (key_Float.calls k (⟨#[102]⟩ : ByteArray) t123 false _ A3.out).mono ?_); rintro e w46 ⟨rfl, hb⟩; refine ⟨_, rfl, ?_⟩; have n0_ := Aside0.mk (below_step (by repeat (first | (with_reducible first | exact HB.out | apply below_alloc | apply pw_below_drewN | apply below_drew1) | exact HB.out)) hb); clear HB; have HB := n0_; clear n0_; (try clear hb); (try clear hb2); (try clear hk); (try clear hi)) | ((with_reducible refine gate_callee (f := 15) rfl ?_); refine goesL_ (some 14) rfl rfl Try.func15 (by kernel_rfl) rfl #[.string (⟨#[97]⟩ : ByteArray)] rfl (by (try simp only [List.map_toArray, List.map_cons, List.map_nil]); first | done | rfl | (simp only [List.length_drop, List.length_take]; rfl)) ?_; (with_reducible refine (key_May.calls (⟨#[97]⟩ : ByteArray) true _ A4.out).mono ?_); rintro e w' ⟨rfl, ⟨nd, rfl⟩⟩; refine ⟨_, rfl, ?_⟩) | (go_at_call 15; (with_reducible refine (key_May.calls (⟨#[]⟩ : ByteArray) false _ A6.out).mono ?_); rintro e w' ⟨rfl, ⟨nd, rfl⟩⟩) | (go_at_call 20; (with_reducible refine (key_Of.calls k 0 t127 _ A17.out).mono ?_); rintro e w47 ⟨rfl, hb⟩; have n0_ := Aside0.mk (below_step (by repeat (first | (with_reducible first | exact HB.out | apply below_alloc | apply pw_below_drewN | apply below_drew1) | exact HB.out)) hb); clear HB; have HB := n0_; clear n0_; (try clear hb); (try clear hb2); (try clear hk); (try clear hi)) | (go_at_call 17; (with_reducible refine (key_In.calls (⟨#[98]⟩ : ByteArray) (⟨#[97]⟩ : ByteArray) (⟨#[99]⟩ : ByteArray) false _ A19.out).mono ?_); rintro e w' ⟨rfl, ⟨nd, rfl⟩⟩))
                go_ret
                exact ⟨by first | rfl | (simp [errW_none, errW_some] <;> rfl) | (simp [*, errW_none, errW_some] <;> rfl), by repeat (first | (with_reducible first | exact HB.out | apply below_alloc | apply pw_below_drewN | apply below_drew1) | exact HB.out)⟩
            · rw [if_neg c18] at H
              have c18b0 : ((t127.size : Int) == 9) = false := beq_eq_false_iff_ne.mpr c18
              have c18b1 : ((t127.size : Int) != 9) = true := bne_iff_ne.mpr c18
              obtain rfl := Option.some.inj H
              go_enter Try.func10, Try.ntmps10
              go_wp2_with (first | ((with_reducible refine gate_callee (f := 20) rfl ?_); refine goesL_ (some 6) rfl rfl Try.func20 (by kernel_rfl) rfl #[.float .f64 4609434218613702656] rfl (by (try simp only [List.map_toArray, List.map_cons, List.map_nil]); first | done | rfl | (simp only [List.length_drop, List.length_take]; rfl)) ?_; (with_reducible refine (key_Of.calls k 4609434218613702656 t120 _ A1.out).mono ?_); rintro e w48 ⟨rfl, hb⟩; refine ⟨_, rfl, ?_⟩; have n0_ := Aside0.mk (below_step (by repeat (first | (with_reducible first | exact HB.out | apply below_alloc | apply pw_below_drewN | apply below_drew1) | exact HB.out)) hb); clear HB; have HB := n0_; clear n0_; (try clear hb); (try clear hb2); (try clear hk); (try clear hi)) | ((with_reducible refine gate_callee (f := 12) rfl ?_); refine goesL_ (some 7) rfl rfl Try.func12 (by kernel_rfl) rfl #[.string t120] rfl (by (try simp only [List.map_toArray, List.map_cons, List.map_nil]); first | done | rfl | (simp only [List.length_drop, List.length_take]; rfl)) ?_; (with_reducible refine (key_Float.calls k t120 t121 true _ A2.out).mono ?_); rintro e w49 ⟨rfl, hb⟩; refine ⟨_, rfl, ?_⟩; have n0_ := Aside0.mk (below_step (by repeat (first | (with_reducible first | exact HB.out | apply below_alloc | apply pw_below_drewN | apply below_drew1) | exact HB.out)) hb); clear HB; have HB := n0_; clear n0_; (try clear hb); (try clear hb2); (try clear hk); (try clear hi)) | ((with_reducible refine gate_callee (f := 12) rfl ?_); refine goesL_ (some 11) rfl rfl Try.func12 (by kernel_rfl) rfl #[.string (⟨#[102]⟩ : ByteArray)] rfl (by (try simp only [List.map_toArray, List.map_cons, List.map_nil]); first | done | rfl | (simp only [List.length_drop, List.length_take]; rfl)) ?_; (with_reducible refine (key_Float.calls k (⟨#[102]⟩ : ByteArray) t123 false _ A3.out).mono ?_); rintro e w50 ⟨rfl, hb⟩; refine ⟨_, rfl, ?_⟩; have n0_ := Aside0.mk (below_step (by repeat (first | (with_reducible first | exact HB.out | apply below_alloc | apply pw_below_drewN | apply below_drew1) | exact HB.out)) hb); clear HB; have HB := n0_; clear n0_; (try clear hb); (try clear hb2); (try clear hk); (try clear hi)) | ((with_reducible refine gate_callee (f := 15) rfl ?_); refine goesL_ (some 14) rfl rfl Try.func15 (by kernel_rfl) rfl #[.string (⟨#[97]⟩ : ByteArray)] rfl (by (try simp only [List.map_toArray, List.map_cons, List.map_nil]); first | done | rfl | (simp only [List.length_drop, List.length_take]; rfl)) ?_; (with_reducible refine (key_May.calls (⟨#[97]⟩ : ByteArray) true _ A4.out).mono ?_); rintro e w' ⟨rfl, ⟨nd, rfl⟩⟩; refine ⟨_, rfl, ?_⟩) | (go_at_call 15; (with_reducible refine (key_May.calls (⟨#[]⟩ : ByteArray) false _ A6.out).mono ?_); rintro e w' ⟨rfl, ⟨nd, rfl⟩⟩) | (go_at_call 20; (with_reducible refine (key_Of.calls k 0 t127 _ A17.out).mono ?_); rintro e w51 ⟨rfl, hb⟩; have n0_ := Aside0.mk (below_step (by repeat (first | (with_reducible first | exact HB.out | apply below_alloc | apply pw_below_drewN | apply below_drew1) | exact HB.out)) hb); clear HB; have HB := n0_; clear n0_; (try clear hb); (try clear hb2); (try clear hk); (try clear hi)))
              go_ret
              exact ⟨by first | rfl | (simp [errW_none, errW_some] <;> rfl) | (simp [*, errW_none, errW_some] <;> rfl), by repeat (first | (with_reducible first | exact HB.out | apply below_alloc | apply pw_below_drewN | apply below_drew1) | exact HB.out)⟩
        · rw [if_neg c12] at H
          have c12b0 : (FloatKind.f64.format.order t121 4609434218613702656 == some .eq) = false := by simpa using c12
          (try (have c12b1 : decide (FloatKind.f64.format.order t121 4609434218613702656 = some .eq) = false := by simpa using c12))
          (try (have c12b2 : (FloatKind.f64.format.order t121 4609434218613702656 == some .eq) = false := by simpa using c12))
          (try (have c12b3 : ¬ (FloatKind.f64.format.order t121 4609434218613702656 = some .eq) := by simpa using c12))
          clear c12
          obtain rfl := Option.some.inj H
          go_enter Try.func10, Try.ntmps10
          go_wp2_with (first | ((with_reducible refine gate_callee (f := 20) rfl ?_); refine goesL_ (some 6) rfl rfl Try.func20 (by kernel_rfl) rfl #[.float .f64 4609434218613702656] rfl (by (try simp only [List.map_toArray, List.map_cons, List.map_nil]); first | done | rfl | (simp only [List.length_drop, List.length_take]; rfl)) ?_; (with_reducible refine (key_Of.calls k 4609434218613702656 t120 _ A1.out).mono ?_); rintro e w52 ⟨rfl, hb⟩; refine ⟨_, rfl, ?_⟩; have n0_ := Aside0.mk (below_step (by repeat (first | (with_reducible first | exact HB.out | apply below_alloc | apply pw_below_drewN | apply below_drew1) | exact HB.out)) hb); clear HB; have HB := n0_; clear n0_; (try clear hb); (try clear hb2); (try clear hk); (try clear hi)) | ((with_reducible refine gate_callee (f := 12) rfl ?_); refine goesL_ (some 7) rfl rfl Try.func12 (by kernel_rfl) rfl #[.string t120] rfl (by (try simp only [List.map_toArray, List.map_cons, List.map_nil]); first | done | rfl | (simp only [List.length_drop, List.length_take]; rfl)) ?_; (with_reducible refine (key_Float.calls k t120 t121 true _ A2.out).mono ?_); rintro e w53 ⟨rfl, hb⟩; refine ⟨_, rfl, ?_⟩; have n0_ := Aside0.mk (below_step (by repeat (first | (with_reducible first | exact HB.out | apply below_alloc | apply pw_below_drewN | apply below_drew1) | exact HB.out)) hb); clear HB; have HB := n0_; clear n0_; (try clear hb); (try clear hb2); (try clear hk); (try clear hi)) | ((with_reducible refine gate_callee (f := 12) rfl ?_); refine goesL_ (some 11) rfl rfl Try.func12 (by kernel_rfl) rfl #[.string (⟨#[102]⟩ : ByteArray)] rfl (by (try simp only [List.map_toArray, List.map_cons, List.map_nil]); first | done | rfl | (simp only [List.length_drop, List.length_take]; rfl)) ?_; (with_reducible refine (key_Float.calls k (⟨#[102]⟩ : ByteArray) t123 t124 _ A3.out).mono ?_); rintro e w54 ⟨rfl, hb⟩; refine ⟨_, rfl, ?_⟩; have n0_ := Aside0.mk (below_step (by repeat (first | (with_reducible first | exact HB.out | apply below_alloc | apply pw_below_drewN | apply below_drew1) | exact HB.out)) hb); clear HB; have HB := n0_; clear n0_; (try clear hb); (try clear hb2); (try clear hk); (try clear hi)) | ((with_reducible refine gate_callee (f := 15) rfl ?_); refine goesL_ (some 14) rfl rfl Try.func15 (by kernel_rfl) rfl #[.string (⟨#[97]⟩ : ByteArray)] rfl (by (try simp only [List.map_toArray, List.map_cons, List.map_nil]); first | done | rfl | (simp only [List.length_drop, List.length_take]; rfl)) ?_; (with_reducible refine (key_May.calls (⟨#[97]⟩ : ByteArray) true _ A4.out).mono ?_); rintro e w' ⟨rfl, ⟨nd, rfl⟩⟩; refine ⟨_, rfl, ?_⟩) | (go_at_call 15; (with_reducible refine (key_May.calls (⟨#[]⟩ : ByteArray) false _ A6.out).mono ?_); rintro e w' ⟨rfl, ⟨nd, rfl⟩⟩))
          go_ret
          exact ⟨by first | rfl | (simp [errW_none, errW_some] <;> rfl) | (simp [*, errW_none, errW_some] <;> rfl), by repeat (first | (with_reducible first | exact HB.out | apply below_alloc | apply pw_below_drewN | apply below_drew1) | exact HB.out)⟩
      · replace c11 := Bool.eq_false_iff.mpr c11
        subst c11
        have H1 : (some false) = some r := by rw [if_neg (show ¬ (false = true) by decide)] at H; exact H
        clear H
        have H := H1
        clear H1
        obtain rfl := Option.some.inj H
        go_enter Try.func10, Try.ntmps10
        go_wp2_with (first | ((with_reducible refine gate_callee (f := 20) rfl ?_); refine goesL_ (some 6) rfl rfl Try.func20 (by kernel_rfl) rfl #[.float .f64 4609434218613702656] rfl (by (try simp only [List.map_toArray, List.map_cons, List.map_nil]); first | done | rfl | (simp only [List.length_drop, List.length_take]; rfl)) ?_; (with_reducible refine (key_Of.calls k 4609434218613702656 t120 _ A1.out).mono ?_); rintro e w55 ⟨rfl, hb⟩; refine ⟨_, rfl, ?_⟩; have n0_ := Aside0.mk (below_step (by repeat (first | (with_reducible first | exact HB.out | apply below_alloc | apply pw_below_drewN | apply below_drew1) | exact HB.out)) hb); clear HB; have HB := n0_; clear n0_; (try clear hb); (try clear hb2); (try clear hk); (try clear hi)) | ((with_reducible refine gate_callee (f := 12) rfl ?_); refine goesL_ (some 7) rfl rfl Try.func12 (by kernel_rfl) rfl #[.string t120] rfl (by (try simp only [List.map_toArray, List.map_cons, List.map_nil]); first | done | rfl | (simp only [List.length_drop, List.length_take]; rfl)) ?_; (with_reducible refine (key_Float.calls k t120 t121 false _ A2.out).mono ?_); rintro e w56 ⟨rfl, hb⟩; refine ⟨_, rfl, ?_⟩; have n0_ := Aside0.mk (below_step (by repeat (first | (with_reducible first | exact HB.out | apply below_alloc | apply pw_below_drewN | apply below_drew1) | exact HB.out)) hb); clear HB; have HB := n0_; clear n0_; (try clear hb); (try clear hb2); (try clear hk); (try clear hi)) | ((with_reducible refine gate_callee (f := 12) rfl ?_); refine goesL_ (some 11) rfl rfl Try.func12 (by kernel_rfl) rfl #[.string (⟨#[102]⟩ : ByteArray)] rfl (by (try simp only [List.map_toArray, List.map_cons, List.map_nil]); first | done | rfl | (simp only [List.length_drop, List.length_take]; rfl)) ?_; (with_reducible refine (key_Float.calls k (⟨#[102]⟩ : ByteArray) t123 t124 _ A3.out).mono ?_); rintro e w57 ⟨rfl, hb⟩; refine ⟨_, rfl, ?_⟩; have n0_ := Aside0.mk (below_step (by repeat (first | (with_reducible first | exact HB.out | apply below_alloc | apply pw_below_drewN | apply below_drew1) | exact HB.out)) hb); clear HB; have HB := n0_; clear n0_; (try clear hb); (try clear hb2); (try clear hk); (try clear hi)) | ((with_reducible refine gate_callee (f := 15) rfl ?_); refine goesL_ (some 14) rfl rfl Try.func15 (by kernel_rfl) rfl #[.string (⟨#[97]⟩ : ByteArray)] rfl (by (try simp only [List.map_toArray, List.map_cons, List.map_nil]); first | done | rfl | (simp only [List.length_drop, List.length_take]; rfl)) ?_; (with_reducible refine (key_May.calls (⟨#[97]⟩ : ByteArray) true _ A4.out).mono ?_); rintro e w' ⟨rfl, ⟨nd, rfl⟩⟩; refine ⟨_, rfl, ?_⟩) | (go_at_call 15; (with_reducible refine (key_May.calls (⟨#[]⟩ : ByteArray) false _ A6.out).mono ?_); rintro e w' ⟨rfl, ⟨nd, rfl⟩⟩))
        go_ret
        exact ⟨by first | rfl | (simp [errW_none, errW_some] <;> rfl) | (simp [*, errW_none, errW_some] <;> rfl), by repeat (first | (with_reducible first | exact HB.out | apply below_alloc | apply pw_below_drewN | apply below_drew1) | exact HB.out)⟩
  · replace c5 := Bool.eq_false_iff.mpr c5
    subst c5
    have H1 : (some false) = some r := by rw [if_neg (show ¬ (false = true) by decide)] at H; exact H
    clear H
    have H := H1
    clear H1
    obtain rfl := Option.some.inj H
    go_enter Try.func10, Try.ntmps10
    go_wp2_with (first | ((with_reducible refine gate_callee (f := 20) rfl ?_); refine goesL_ (some 6) rfl rfl Try.func20 (by kernel_rfl) rfl #[.float .f64 4609434218613702656] rfl (by (try simp only [List.map_toArray, List.map_cons, List.map_nil]); first | done | rfl | (simp only [List.length_drop, List.length_take]; rfl)) ?_; (with_reducible refine (key_Of.calls k 4609434218613702656 t120 _ A1.out).mono ?_); rintro e w58 ⟨rfl, hb⟩; refine ⟨_, rfl, ?_⟩; have n0_ := Aside0.mk (below_step (by repeat (first | (with_reducible first | exact HB.out | apply below_alloc | apply pw_below_drewN | apply below_drew1) | exact HB.out)) hb); clear HB; have HB := n0_; clear n0_; (try clear hb); (try clear hb2); (try clear hk); (try clear hi)) | ((with_reducible refine gate_callee (f := 12) rfl ?_); refine goesL_ (some 7) rfl rfl Try.func12 (by kernel_rfl) rfl #[.string t120] rfl (by (try simp only [List.map_toArray, List.map_cons, List.map_nil]); first | done | rfl | (simp only [List.length_drop, List.length_take]; rfl)) ?_; (with_reducible refine (key_Float.calls k t120 t121 t122 _ A2.out).mono ?_); rintro e w59 ⟨rfl, hb⟩; refine ⟨_, rfl, ?_⟩; have n0_ := Aside0.mk (below_step (by repeat (first | (with_reducible first | exact HB.out | apply below_alloc | apply pw_below_drewN | apply below_drew1) | exact HB.out)) hb); clear HB; have HB := n0_; clear n0_; (try clear hb); (try clear hb2); (try clear hk); (try clear hi)) | ((with_reducible refine gate_callee (f := 12) rfl ?_); refine goesL_ (some 11) rfl rfl Try.func12 (by kernel_rfl) rfl #[.string (⟨#[102]⟩ : ByteArray)] rfl (by (try simp only [List.map_toArray, List.map_cons, List.map_nil]); first | done | rfl | (simp only [List.length_drop, List.length_take]; rfl)) ?_; (with_reducible refine (key_Float.calls k (⟨#[102]⟩ : ByteArray) t123 t124 _ A3.out).mono ?_); rintro e w60 ⟨rfl, hb⟩; refine ⟨_, rfl, ?_⟩; have n0_ := Aside0.mk (below_step (by repeat (first | (with_reducible first | exact HB.out | apply below_alloc | apply pw_below_drewN | apply below_drew1) | exact HB.out)) hb); clear HB; have HB := n0_; clear n0_; (try clear hb); (try clear hb2); (try clear hk); (try clear hi)) | ((with_reducible refine gate_callee (f := 15) rfl ?_); refine goesL_ (some 14) rfl rfl Try.func15 (by kernel_rfl) rfl #[.string (⟨#[97]⟩ : ByteArray)] rfl (by (try simp only [List.map_toArray, List.map_cons, List.map_nil]); first | done | rfl | (simp only [List.length_drop, List.length_take]; rfl)) ?_; (with_reducible refine (key_May.calls (⟨#[97]⟩ : ByteArray) false _ A4.out).mono ?_); rintro e w' ⟨rfl, ⟨nd, rfl⟩⟩; refine ⟨_, rfl, ?_⟩))
    go_ret
    exact ⟨by first | rfl | (simp [errW_none, errW_some] <;> rfl) | (simp [*, errW_none, errW_some] <;> rfl), by repeat (first | (with_reducible first | exact HB.out | apply below_alloc | apply pw_below_drewN | apply below_drew1) | exact HB.out)⟩

/-! ### engrosslaw1_Cut: function 11 -/
def engrosslaw1_Cut.f (a0 : ByteArray) (a1 : Int) : Option (ByteArray) := if (a0.size : Int) > a1 then (if 0 ≤ a1 then (if a1 ≤ (a0.size : Int) then (some (a0.extract 0 (a1 : Int).toNat)) else (none)) else (none)) else (some a0)
set_option maxHeartbeats 8000000 in
set_option maxRecDepth 100000 in
theorem engrosslaw1_Cut.calls (a0 : ByteArray) (a1 : Int) (r : ByteArray) (w : World) (h : engrosslaw1_Cut.f a0 a1 = some r) :
    Calls Try.prog 11 #[.string a0, .int .i64 a1] w fun e w' => e = .returned (.string r) ∧ Drawn0 w w' := by
  have H : (if (a0.size : Int) > a1 then (if 0 ≤ a1 then (if a1 ≤ (a0.size : Int) then (some (a0.extract 0 (a1 : Int).toNat)) else (none)) else (none)) else (some a0)) = some r := h
  clear h
  by_cases c3 : (a0.size : Int) > a1
  · rw [if_pos c3] at H
    have c3b0 : decide (a1 < (a0.size : Int)) = true := decide_eq_true c3
    clear c3
    by_cases c4 : 0 ≤ a1
    · rw [if_pos c4] at H
      have c4b0 := eq_true c4
      have c4b1 : decide (0 ≤ a1) = true := decide_eq_true c4
      clear c4
      by_cases c5 : a1 ≤ (a0.size : Int)
      · rw [if_pos c5] at H
        have c5b0 := eq_true c5
        have c5b1 : decide (a1 ≤ (a0.size : Int)) = true := decide_eq_true c5
        clear c5
        obtain rfl := Option.some.inj H
        go_enter Try.func11, Try.ntmps11
        go_wp2
        go_ret
        exact ⟨by first | rfl | (simp; done) | (simp [*]; done), by repeat (first | exact Drawn0.refl _ | apply Drawn0.step)⟩
      · rw [if_neg c5] at H
        exact absurd H (by simp)
    · rw [if_neg c4] at H
      exact absurd H (by simp)
  · rw [if_neg c3] at H
    have c3b0 : decide (a1 < (a0.size : Int)) = false := decide_eq_false c3
    clear c3
    obtain rfl := Option.some.inj H
    go_enter Try.func11, Try.ntmps11
    go_wp2
    go_ret
    exact ⟨by first | rfl | (simp; done) | (simp [*]; done), by repeat (first | exact Drawn0.refl _ | apply Drawn0.step)⟩

/-! ### engrossref1_NaN: function 29 -/
def engrossref1_NaN.f (a0 : Nat) : Option (Bool) := if (Go.bits .and .u64 ((a0 : Nat) : Int) 9218868437227405312) = 9218868437227405312 then (some ((Go.bits .and .u64 ((a0 : Nat) : Int) 4503599627370495) != 0)) else (some false)
set_option maxHeartbeats 8000000 in
set_option maxRecDepth 100000 in
theorem engrossref1_NaN.calls (a0 : Nat) (r : Bool) (w : World) (h : engrossref1_NaN.f a0 = some r) :
    Calls Try.prog 29 #[.float .f64 a0] w fun e w' => e = .returned (.bool r) ∧ Drawn0 w w' := by
  have H : (if (Go.bits .and .u64 ((a0 : Nat) : Int) 9218868437227405312) = 9218868437227405312 then (some ((Go.bits .and .u64 ((a0 : Nat) : Int) 4503599627370495) != 0)) else (some false)) = some r := h
  clear h
  by_cases c2 : (Go.bits .and .u64 ((a0 : Nat) : Int) 9218868437227405312) = 9218868437227405312
  · rw [if_pos c2] at H
    have c2b0 : ((Go.bits .and .u64 ((a0 : Nat) : Int) 9218868437227405312) == 9218868437227405312) = true := beq_iff_eq.mpr c2
    have c2b1 : ((Go.bits .and .u64 ((a0 : Nat) : Int) 9218868437227405312) != 9218868437227405312) = false := bne_eq_false_iff_eq.mpr c2
    clear c2
    obtain rfl := Option.some.inj H
    go_enter Try.func29, Try.ntmps29
    go_wp2
    go_ret
    exact ⟨by first | rfl | (simp; done) | (simp [*]; done), by repeat (first | exact Drawn0.refl _ | apply Drawn0.step)⟩
  · rw [if_neg c2] at H
    have c2b0 : ((Go.bits .and .u64 ((a0 : Nat) : Int) 9218868437227405312) == 9218868437227405312) = false := beq_eq_false_iff_ne.mpr c2
    have c2b1 : ((Go.bits .and .u64 ((a0 : Nat) : Int) 9218868437227405312) != 9218868437227405312) = true := bne_iff_ne.mpr c2
    obtain rfl := Option.some.inj H
    go_enter Try.func29, Try.ntmps29
    go_wp2
    go_ret
    exact ⟨by first | rfl | (simp; done) | (simp [*]; done), by repeat (first | exact Drawn0.refl _ | apply Drawn0.step)⟩

/-! ### engrossref1_Clean: function 22 -/
def engrossref1_Clean.f (a0 : Nat) : Option (Nat) := (engrossref1_NaN.f a0).bind fun t133 => (if t133 = true then (some 9221120237041090560) else (some a0))
set_option maxHeartbeats 8000000 in
set_option maxRecDepth 100000 in
theorem engrossref1_Clean.calls (a0 : Nat) (r : Nat) (w : World) (h : engrossref1_Clean.f a0 = some r) :
    Calls Try.prog 22 #[.float .f64 a0] w fun e w' => e = .returned (.float .f64 r) ∧ Drawn0 w w' := by
  have H : ((engrossref1_NaN.f a0).bind fun t133 => (if t133 = true then (some 9221120237041090560) else (some a0))) = some r := h
  clear h
  replace H := Option.bind_eq_some_iff.mp H
  obtain ⟨t133, A20, H⟩ := H
  replace H : (if t133 = true then (some 9221120237041090560) else (some a0)) = some r := H
  have A2 := Aside0.mk A20
  clear A20
  by_cases c3 : t133 = true
  · subst c3
    have H1 : (some 9221120237041090560) = some r := by rw [if_pos rfl] at H; exact H
    clear H
    have H := H1
    clear H1
    obtain rfl := Option.some.inj H
    go_enter Try.func22, Try.ntmps22
    go_wp2_with (first | ((with_reducible refine gate_callee (f := 29) rfl ?_); refine goesL_ (some 4) rfl rfl Try.func29 (by kernel_rfl) rfl #[.float .f64 a0] rfl (by (try simp only [List.map_toArray, List.map_cons, List.map_nil]); first | done | rfl | (simp only [List.length_drop, List.length_take]; rfl)) ?_; (with_reducible refine (engrossref1_NaN.calls a0 true _ A2.out).mono ?_); rintro e w' ⟨rfl, ⟨nd, rfl⟩⟩; refine ⟨_, rfl, ?_⟩))
    go_ret
    exact ⟨by first | rfl | (simp; done) | (simp [*]; done), by repeat (first | exact Drawn0.refl _ | apply Drawn0.step)⟩
  · replace c3 := Bool.eq_false_iff.mpr c3
    subst c3
    have H1 : (some a0) = some r := by rw [if_neg (show ¬ (false = true) by decide)] at H; exact H
    clear H
    have H := H1
    clear H1
    obtain rfl := Option.some.inj H
    go_enter Try.func22, Try.ntmps22
    go_wp2_with (first | ((with_reducible refine gate_callee (f := 29) rfl ?_); refine goesL_ (some 4) rfl rfl Try.func29 (by kernel_rfl) rfl #[.float .f64 a0] rfl (by (try simp only [List.map_toArray, List.map_cons, List.map_nil]); first | done | rfl | (simp only [List.length_drop, List.length_take]; rfl)) ?_; (with_reducible refine (engrossref1_NaN.calls a0 false _ A2.out).mono ?_); rintro e w' ⟨rfl, ⟨nd, rfl⟩⟩; refine ⟨_, rfl, ?_⟩))
    go_ret
    exact ⟨by first | rfl | (simp; done) | (simp [*]; done), by repeat (first | exact Drawn0.refl _ | apply Drawn0.step)⟩

/-! ### engrossref1_Place: function 21 -/
def engrossref1_Place.f (a0 : Nat) : Option (Int) := (engrossref1_NaN.f a0).bind fun t134 => (if t134 = true then (some (-9223372036854775808)) else (if (((a0 : Nat) : Int) / 9223372036854775808) = 1 then (some (wrap64 ((wrap64 (-(wrap64 (Go.bits .and .u64 ((a0 : Nat) : Int) 9223372036854775807)))) - 1))) else (some (wrap64 (((a0 : Nat) : Int))))))
set_option maxHeartbeats 8000000 in
set_option maxRecDepth 100000 in
theorem engrossref1_Place.calls (a0 : Nat) (r : Int) (w : World) (h : engrossref1_Place.f a0 = some r) :
    Calls Try.prog 21 #[.float .f64 a0] w fun e w' => e = .returned (.int .i64 r) ∧ Drawn0 w w' := by
  have H : ((engrossref1_NaN.f a0).bind fun t134 => (if t134 = true then (some (-9223372036854775808)) else (if (((a0 : Nat) : Int) / 9223372036854775808) = 1 then (some (wrap64 ((wrap64 (-(wrap64 (Go.bits .and .u64 ((a0 : Nat) : Int) 9223372036854775807)))) - 1))) else (some (wrap64 (((a0 : Nat) : Int))))))) = some r := h
  clear h
  replace H := Option.bind_eq_some_iff.mp H
  obtain ⟨t134, A20, H⟩ := H
  replace H : (if t134 = true then (some (-9223372036854775808)) else (if (((a0 : Nat) : Int) / 9223372036854775808) = 1 then (some (wrap64 ((wrap64 (-(wrap64 (Go.bits .and .u64 ((a0 : Nat) : Int) 9223372036854775807)))) - 1))) else (some (wrap64 (((a0 : Nat) : Int)))))) = some r := H
  have A2 := Aside0.mk A20
  clear A20
  by_cases c3 : t134 = true
  · subst c3
    have H1 : (some (-9223372036854775808)) = some r := by rw [if_pos rfl] at H; exact H
    clear H
    have H := H1
    clear H1
    obtain rfl := Option.some.inj H
    go_enter Try.func21, Try.ntmps21
    go_wp2_with (first | ((with_reducible refine gate_callee (f := 29) rfl ?_); refine goesL_ (some 5) rfl rfl Try.func29 (by kernel_rfl) rfl #[.float .f64 a0] rfl (by (try simp only [List.map_toArray, List.map_cons, List.map_nil]); first | done | rfl | (simp only [List.length_drop, List.length_take]; rfl)) ?_; (with_reducible refine (engrossref1_NaN.calls a0 true _ A2.out).mono ?_); rintro e w' ⟨rfl, ⟨nd, rfl⟩⟩; refine ⟨_, rfl, ?_⟩))
    go_ret
    exact ⟨by first | rfl | (simp; done) | (simp [*]; done), by repeat (first | exact Drawn0.refl _ | apply Drawn0.step)⟩
  · replace c3 := Bool.eq_false_iff.mpr c3
    subst c3
    have H1 : (if (((a0 : Nat) : Int) / 9223372036854775808) = 1 then (some (wrap64 ((wrap64 (-(wrap64 (Go.bits .and .u64 ((a0 : Nat) : Int) 9223372036854775807)))) - 1))) else (some (wrap64 (((a0 : Nat) : Int))))) = some r := by rw [if_neg (show ¬ (false = true) by decide)] at H; exact H
    clear H
    have H := H1
    clear H1
    by_cases c4 : (((a0 : Nat) : Int) / 9223372036854775808) = 1
    · rw [if_pos c4] at H
      have c4b0 : ((((a0 : Nat) : Int) / 9223372036854775808) == 1) = true := beq_iff_eq.mpr c4
      have c4b1 : ((((a0 : Nat) : Int) / 9223372036854775808) != 1) = false := bne_eq_false_iff_eq.mpr c4
      clear c4
      obtain rfl := Option.some.inj H
      go_enter Try.func21, Try.ntmps21
      go_wp2_with (first | ((with_reducible refine gate_callee (f := 29) rfl ?_); refine goesL_ (some 5) rfl rfl Try.func29 (by kernel_rfl) rfl #[.float .f64 a0] rfl (by (try simp only [List.map_toArray, List.map_cons, List.map_nil]); first | done | rfl | (simp only [List.length_drop, List.length_take]; rfl)) ?_; (with_reducible refine (engrossref1_NaN.calls a0 false _ A2.out).mono ?_); rintro e w' ⟨rfl, ⟨nd, rfl⟩⟩; refine ⟨_, rfl, ?_⟩))
      go_ret
      exact ⟨by first | rfl | (simp; done) | (simp [*]; done), by repeat (first | exact Drawn0.refl _ | apply Drawn0.step)⟩
    · rw [if_neg c4] at H
      have c4b0 : ((((a0 : Nat) : Int) / 9223372036854775808) == 1) = false := beq_eq_false_iff_ne.mpr c4
      have c4b1 : ((((a0 : Nat) : Int) / 9223372036854775808) != 1) = true := bne_iff_ne.mpr c4
      obtain rfl := Option.some.inj H
      go_enter Try.func21, Try.ntmps21
      go_wp2_with (first | ((with_reducible refine gate_callee (f := 29) rfl ?_); refine goesL_ (some 5) rfl rfl Try.func29 (by kernel_rfl) rfl #[.float .f64 a0] rfl (by (try simp only [List.map_toArray, List.map_cons, List.map_nil]); first | done | rfl | (simp only [List.length_drop, List.length_take]; rfl)) ?_; (with_reducible refine (engrossref1_NaN.calls a0 false _ A2.out).mono ?_); rintro e w' ⟨rfl, ⟨nd, rfl⟩⟩; refine ⟨_, rfl, ?_⟩))
      go_ret
      exact ⟨by first | rfl | (simp; done) | (simp [*]; done), by repeat (first | exact Drawn0.refl _ | apply Drawn0.step)⟩

/-! ### engrossref1_FloatBytes: function 26 -/
mutual
def engrossref1_FloatBytes.j0 : Nat → Int → Option (List Int)
  | 0, _ => none
  | k + 1, x3 => engrossref1_FloatBytes.l0 k x3 ([] : List Int) 56
def engrossref1_FloatBytes.l0 : Nat → Int → List Int → Int → Option (List Int)
  | 0, _, _, _ => none
  | k + 1, x3, x4, x5 => if x5 ≥ 0 then (if 0 ≤ (IntKind.u64.wrap (x5)) then (if x4.length < 140737488355328 then (engrossref1_FloatBytes.l0 k x3 (x4 ++ [(shr .u64 x3 (IntKind.u64.wrap (x5))) % 256]) (wrap64 (x5 - 8))) else (none)) else (none)) else (some x4)
end
def engrossref1_FloatBytes.f (k : Nat) (a0 : Nat) : Option (List Int) := (engrossref1_Place.f a0).bind fun t135 => ((engrossref1_NaN.f a0).bind fun t136 => (if t136 = true then (engrossref1_FloatBytes.j0 k 0) else (engrossref1_FloatBytes.j0 k (IntKind.u64.wrap ((IntKind.u64.wrap (t135)) + 9223372036854775808)))))
theorem engrossref1_FloatBytes.mono_l : ∀ k, (∀ y0, LeO (engrossref1_FloatBytes.j0 k y0) (engrossref1_FloatBytes.j0 (k + 1) y0)) ∧ (∀ y0 y1 y2, LeO (engrossref1_FloatBytes.l0 k y0 y1 y2) (engrossref1_FloatBytes.l0 (k + 1) y0 y1 y2))
  | 0 => ⟨fun _ r h => by simp [engrossref1_FloatBytes.j0] at h, fun _ _ _ r h => by simp [engrossref1_FloatBytes.l0] at h⟩
  | k + 1 => by
    obtain ⟨ih0, ih1⟩ := engrossref1_FloatBytes.mono_l k
    refine ⟨?_, ?_⟩
    · intro y0
      unfold engrossref1_FloatBytes.j0
      repeat' first
      | (with_reducible exact ih0 _)
      | (with_reducible exact ih1 _ _ _)
      | (with_reducible exact LeO.refl _)
      | (with_reducible exact LeO.none _)
      | (with_reducible refine LeO.ite ?_ ?_)
      | (with_reducible refine LeO.bind ?_ (fun _ => ?_))
      | exact ih0 _
      | exact ih1 _ _ _
      | exact LeO.none _
      | refine LeO.ite ?_ ?_
      | refine LeO.bind ?_ (fun _ => ?_)
    · intro y0 y1 y2
      unfold engrossref1_FloatBytes.l0
      repeat' first
      | (with_reducible exact ih0 _)
      | (with_reducible exact ih1 _ _ _)
      | (with_reducible exact LeO.refl _)
      | (with_reducible exact LeO.none _)
      | (with_reducible refine LeO.ite ?_ ?_)
      | (with_reducible refine LeO.bind ?_ (fun _ => ?_))
      | exact ih0 _
      | exact ih1 _ _ _
      | exact LeO.none _
      | refine LeO.ite ?_ ?_
      | refine LeO.bind ?_ (fun _ => ?_)
theorem engrossref1_FloatBytes.mono : ∀ a0 k, LeO (engrossref1_FloatBytes.f k a0) (engrossref1_FloatBytes.f (k + 1) a0) := by
  intro a0 k
  obtain ⟨ih0, ih1⟩ := engrossref1_FloatBytes.mono_l k
  unfold engrossref1_FloatBytes.f
  repeat' first
      | (with_reducible exact ih0 _)
      | (with_reducible exact ih1 _ _ _)
      | (with_reducible exact LeO.refl _)
      | (with_reducible exact LeO.none _)
      | (with_reducible refine LeO.ite ?_ ?_)
      | (with_reducible refine LeO.bind ?_ (fun _ => ?_))
      | exact ih0 _
      | exact ih1 _ _ _
      | exact LeO.none _
      | refine LeO.ite ?_ ?_
      | refine LeO.bind ?_ (fun _ => ?_)
set_option maxHeartbeats 8000000 in
set_option maxRecDepth 100000 in
theorem engrossref1_FloatBytes.calls (k : Nat) (a0 : Nat) (r : List Int) (w : World) (h : engrossref1_FloatBytes.f k a0 = some r) :
    Calls Try.prog 26 #[.float .f64 a0] w fun e w' => ∃ v0_ : Value, e = .returned (v0_) ∧ Kd.R (Kd.int .u8) 5 w' w.heap.size (fun _ => True) v0_ r ∧ Below w.heap.size w w' := by
  have HB := Aside0.mk (Below.refl w.heap.size w)
  have H : ((engrossref1_Place.f a0).bind fun t135 => ((engrossref1_NaN.f a0).bind fun t136 => (if t136 = true then (engrossref1_FloatBytes.j0 k 0) else (engrossref1_FloatBytes.j0 k (IntKind.u64.wrap ((IntKind.u64.wrap (t135)) + 9223372036854775808)))))) = some r := h
  clear h
  replace H := Option.bind_eq_some_iff.mp H
  obtain ⟨t135, A20, H⟩ := H
  replace H : ((engrossref1_NaN.f a0).bind fun t136 => (if t136 = true then (engrossref1_FloatBytes.j0 k 0) else (engrossref1_FloatBytes.j0 k (IntKind.u64.wrap ((IntKind.u64.wrap (t135)) + 9223372036854775808))))) = some r := H
  have A2 := Aside0.mk A20
  clear A20
  replace H := Option.bind_eq_some_iff.mp H
  obtain ⟨t136, A30, H⟩ := H
  replace H : (if t136 = true then (engrossref1_FloatBytes.j0 k 0) else (engrossref1_FloatBytes.j0 k (IntKind.u64.wrap ((IntKind.u64.wrap (t135)) + 9223372036854775808)))) = some r := H
  have A3 := Aside0.mk A30
  clear A30
  have HC4 := Aside0.mk H
  clear H
  go_enter Try.func26, Try.ntmps26
  go_upto_if 11 with (first | ((with_reducible refine gate_callee (f := 21) rfl ?_); refine goesL_ (some 7) rfl rfl Try.func21 (by kernel_rfl) rfl #[.float .f64 a0] rfl (by (try simp only [List.map_toArray, List.map_cons, List.map_nil]); first | done | rfl | (simp only [List.length_drop, List.length_take]; rfl)) ?_; (with_reducible refine (engrossref1_Place.calls a0 t135 _ A2.out).mono ?_); rintro e w' ⟨rfl, ⟨nd, rfl⟩⟩; refine ⟨_, rfl, ?_⟩) | ((with_reducible refine gate_callee (f := 29) rfl ?_); refine goesL_ (some 11) rfl rfl Try.func29 (by kernel_rfl) rfl #[.float .f64 a0] rfl (by (try simp only [List.map_toArray, List.map_cons, List.map_nil]); first | done | rfl | (simp only [List.length_drop, List.length_take]; rfl)) ?_; (with_reducible refine (engrossref1_NaN.calls a0 t136 _ A3.out).mono ?_); rintro e w' ⟨rfl, ⟨nd, rfl⟩⟩; refine ⟨_, rfl, ?_⟩))
  (try simp only [Act.put, List.setIfInBounds_toArray, List.set_cons_zero, List.set_cons_succ])
  go_cut [3] (fun v3 wc => ∃ (kq : Nat) (x3_3 : Int), v3 = .int .u64 x3_3 ∧ Aside0 (engrossref1_FloatBytes.j0 kq x3_3 = some r) ∧ Aside0 (kq ≤ k) ∧ Aside0 (Below w.heap.size w wc))
  case first =>
    have H := HC4.out
    clear HC4
    by_cases c5 : t136 = true
    · subst c5
      have H1 : (engrossref1_FloatBytes.j0 k 0) = some r := by rw [if_pos rfl] at H; exact H
      clear H
      have H := H1
      clear H1
      have H' := Aside0.mk H
      clear H
      go_wp2
      go_meet
      case rel => exact ⟨_, (0), (by first | rfl | (simp; done) | (simp [*]; done)), H', ⟨by first | omega | exact Nat.le_refl _⟩, ⟨by repeat (first | (with_reducible first | exact HB.out | apply below_alloc | apply pw_below_drewN | apply below_drew1) | exact HB.out)⟩⟩
    · replace c5 := Bool.eq_false_iff.mpr c5
      subst c5
      have H1 : (engrossref1_FloatBytes.j0 k (IntKind.u64.wrap ((IntKind.u64.wrap (t135)) + 9223372036854775808))) = some r := by rw [if_neg (show ¬ (false = true) by decide)] at H; exact H
      clear H
      have H := H1
      clear H1
      have H' := Aside0.mk H
      clear H
      go_wp2
      go_meet
      case rel => exact ⟨_, (IntKind.u64.wrap ((IntKind.u64.wrap (t135)) + 9223372036854775808)), (by first | rfl | (simp; done) | (simp [*]; done)), H', ⟨by first | omega | exact Nat.le_refl _⟩, ⟨by repeat (first | (with_reducible first | exact HB.out | apply below_alloc | apply pw_below_drewN | apply below_drew1) | exact HB.out)⟩⟩
  case rest =>
    clear HC4
    try clear c2
    try clear p2
    try clear c5
    obtain ⟨kq, x3_3, rfl, HA, HJ3, HB⟩ := hcut
    cases kq with
    | zero => exact absurd HA.out (by simp [engrossref1_FloatBytes.j0])
    | succ kj3 =>
      have H := HA.out
      clear HA
      simp only [engrossref1_FloatBytes.j0] at H
      have H' := Aside0.mk H
      clear H
      go_wp2
      go_loopg [4, 5] kj3 (fun kq v4 v5 w' => ∃ (x4_2 : List Int) (x5_2 : Int), v5 = .int .i64 x5_2 ∧ Aside0 (engrossref1_FloatBytes.l0 kq x3_3 x4_2 x5_2 = some r) ∧ Aside0 (kq ≤ kj3) ∧ Aside0 (Kd.R (Kd.int .u8) 5 w' w.heap.size (fun _ => True) v4 x4_2) ∧ Aside0 (Below w.heap.size w w'))
      case atStart => exact ⟨(([] : List Int)), (56), (by first | rfl | (simp; done) | (simp [*]; done)), H', ⟨Nat.le_refl _⟩, ⟨by first | exact Kd.R_nil _ _ _ _ _ | exact Kd.N_nil _ _ _ _ _ | exact Kd.V_nil _ _ _ _ _ | exact Kd.Q_nil _ _ _ _ _ | exact Kd.S_nil _ _ _ _ _⟩, ⟨by repeat (first | (with_reducible first | exact HB.out | apply below_alloc | apply pw_below_drewN | apply below_drew1) | exact HB.out)⟩⟩
      case round =>
        clear H'
        try clear c2
        try clear p2
        try clear c5
        try clear p2
        obtain ⟨x4_2, x5_2, rfl, HA, HK2, HO_4, HB⟩ := hrel
        cases gk with
        | zero => exact absurd HA.out (by simp [engrossref1_FloatBytes.l0])
        | succ k2 =>
          have H := HA.out
          clear HA
          simp only [engrossref1_FloatBytes.l0] at H
          by_cases c6 : x5_2 ≥ 0
          · rw [if_pos c6] at H
            have c6b0 : decide (0 ≤ x5_2) = true := decide_eq_true c6
            clear c6
            obtain ⟨ji7, hji7⟩ : ∃ j_ : Int, (IntKind.u64.wrap (x5_2)) = j_ := ⟨_, rfl⟩
            replace H : (if 0 ≤ (ji7) then (if x4_2.length < 140737488355328 then (engrossref1_FloatBytes.l0 k2 x3_3 (x4_2 ++ [(shr .u64 x3_3 (ji7)) % 256]) (wrap64 (x5_2 - 8))) else (none)) else (none)) = some r := by first | (rw [hji7] at H; exact H) | (simp only [hji7] at H ⊢; exact H)
            by_cases c8 : 0 ≤ (ji7)
            · rw [if_pos c8] at H
              have c8b0 := eq_true c8
              have c8b1 : decide (0 ≤ (ji7)) = true := decide_eq_true c8
              clear c8
              obtain ⟨ji9, hji9⟩ : ∃ j_ : Int, (shr .u64 x3_3 (ji7)) = j_ := ⟨_, rfl⟩
              replace H : (if x4_2.length < 140737488355328 then (engrossref1_FloatBytes.l0 k2 x3_3 (x4_2 ++ [(ji9) % 256]) (wrap64 (x5_2 - 8))) else (none)) = some r := by first | (rw [hji9] at H; exact H) | (simp only [hji9] at H ⊢; exact H)
              have hji9_ : (x3_3 / 2 ^ min (ji7).toNat 64) = ji9 := hji9
              have hji9z : (ji7) ≤ 64 → (x3_3 / 2 ^ (ji7).toNat) = ji9 := shr_small hji9
              by_cases c10 : x4_2.length < 140737488355328
              · rw [if_pos c10] at H
                have LMc10 := Aside0.mk c10
                clear c10
                obtain ⟨y137, hy137⟩ : ∃ y_ : List Int, y_ = (x4_2 ++ [(ji9) % 256]) := ⟨_, rfl⟩
                replace H : (engrossref1_FloatBytes.l0 k2 x3_3 y137 (wrap64 (x5_2 - 8))) = some r := by first | (rw [hy137]; with_reducible exact H) | (have H2_ := (Option.bind_some _ _).symm.trans H; rw [hy137]; with_reducible exact H2_) | (have H2_ := (Option.bind_some _ _).symm.trans H; with_reducible exact H2_) | with_reducible exact H | (rw [hy137]; exact H) | exact H
                have Ny137 := Aside0.mk hy137
                clear hy137
                have H' := Aside0.mk H
                clear H
                go_wp2_with (first | ((with_reducible refine gate_builtin (b := .append) (xs := #[.tmp 16, .tmp 22]) rfl ?_); at_builtin; refine Kd.R_append (Kd.int .u8) (w0 := w) w.heap.size rfl (.tmp 16) (.tmp 22) 28 5 (.int .u8 0) 1 rfl Try.underlying28 info5 rfl (by decide) (by omega) u4 x4_2 ((ji9) % 256) [.int .u8 ((ji9) % 256)] (fun _ => True) (fun _ => False) rfl rfl ?aP (fun _ hk => hk.elim) ?aF ?aO ?aB ?aS ?aL ?_; (case aP => exact rfl); (case aB => exact (by repeat (first | (with_reducible first | exact HB.out | apply below_alloc | apply pw_below_drewN | apply below_drew1) | exact HB.out))); (case aF => exact (fun _ _ => trivial)); (case aO => exact (by (with_reducible repeat (first | apply Kd.R_alloc | apply Kd.R_drewN | apply Kd.R_drew)); exact HO_4.out)); (case aS => exact (below_size (by repeat (first | (with_reducible first | exact HB.out | apply below_alloc | apply pw_below_drewN | apply below_drew1) | exact HB.out)))); (case aL => have := LMc10.out; omega); intro v138 w11 ho hb hg hat; rw [← Ny137.out] at ho; have n0_ := Aside0.mk (hb); have n1_ := Aside0.mk (ho); clear HB; clear HO_4; have HB := n0_; have HO139 := n1_; clear n0_ n1_; clear ho hb hg hat))
                go_roundg k2
                case measure => have := HJ3.out; have := HK2.out; omega
                case rel => exact ⟨(y137), (wrap64 (x5_2 - 8)), (by first | rfl | (simp; done) | (simp [*]; done)), H', ⟨by have := HJ3.out; have := HK2.out; omega⟩, ⟨by (with_reducible repeat (first | apply Kd.R_alloc | apply Kd.R_drewN | apply Kd.R_drew)); exact HO139.out⟩, ⟨by repeat (first | (with_reducible first | exact HB.out | apply below_alloc | apply pw_below_drewN | apply below_drew1) | exact HB.out)⟩⟩
              · rw [if_neg c10] at H
                exact absurd H (by simp)
            · rw [if_neg c8] at H
              exact absurd H (by simp)
          · rw [if_neg c6] at H
            have c6b0 : decide (0 ≤ x5_2) = false := decide_eq_false c6
            clear c6
            obtain rfl := Option.some.inj H
            go_wp2
            go_ret
            exact ⟨_, by first | rfl | (simp [errW_none, errW_some] <;> rfl) | (simp [*, errW_none, errW_some] <;> rfl), by (with_reducible repeat (first | apply Kd.R_alloc | apply Kd.R_drewN | apply Kd.R_drew)); exact HO_4.out, by repeat (first | (with_reducible first | exact HB.out | apply below_alloc | apply pw_below_drewN | apply below_drew1) | exact HB.out)⟩

end Go.Proofs.Ytoeiogailnfbkaa.P
