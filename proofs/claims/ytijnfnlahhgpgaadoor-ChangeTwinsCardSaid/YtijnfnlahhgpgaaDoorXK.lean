/- strings.TrimRight with one nought as the set, as a Lean function, and that each call answers as it does. No condition. -/
import Derived.Test.YtijnfnlahhgpgaaDoorPx0
import Derived.Test.YtijnfnlahhgpgaaDoorPx1
set_option linter.unusedVariables false
set_option linter.unusedSimpArgs false
namespace Go.Proofs.YtijnfnlahhgpgaaDoor.P
open Go.RowKit Go.Proofs.YtijnfnlahhgpgaaDoorW.PrintWords Go.Proofs.YtijnfnlahhgpgaaDoorW.PrintLast Go.Proofs.YtijnfnlahhgpgaaDoorW.PrintMore
attribute [local go_sem] max2_int min2_int max_two min_two max_three min_three max_four min_four
attribute [local go_sem] x_str_gtr x_str_leq x_str_geq Instr.field asAgg
def strings_TrimRight.f (k : Nat) (a0 : ByteArray) (a1 : ByteArray) : Option ByteArray := if a1.toList = [0] then (if a0.toList = [] then some a0 else strings_trimRightByte.f k a0 0) else none
theorem strings_TrimRight.mono (a0 a1 : ByteArray) (k : Nat) : LeO (strings_TrimRight.f k a0 a1) (strings_TrimRight.f (k + 1) a0 a1) := by
  unfold strings_TrimRight.f
  exact LeO.ite (LeO.ite (LeO.refl _) (strings_trimRightByte.mono _ _ _)) (LeO.refl _)
theorem nought_text {s : ByteArray} (h : s.toList = [0]) : s = ⟨#[0]⟩ := by
  rw [Go.ByteArray.toList_eq] at h
  cases s with
  | mk d =>
    cases d with
    | mk l =>
      simp at h
      subst h
      rfl
set_option maxHeartbeats 4000000 in
set_option maxRecDepth 100000 in
theorem strings_TrimRight.calls (k : Nat) (a0 : ByteArray) (a1 : ByteArray) (r : ByteArray) (w : World) (h : strings_TrimRight.f k a0 a1 = some r) :
  Calls Tryd.prog 23 #[.string a0, .string a1] w fun e w' => e = .returned (.string r) ∧ Drawn0 w w' := by
  unfold strings_TrimRight.f at h
  by_cases h1 : a1.toList = [0]
  · rw [if_pos h1] at h
    have h1' := nought_text h1
    subst h1'
    clear h1
    by_cases h0 : a0.toList = []
    · rw [if_pos h0] at h
      obtain rfl := Option.some.inj h
      have b0 : (a0.toList == ([] : List UInt8)) = true := beq_iff_eq.mpr h0
      go_enter Tryd.func23, Tryd.ntmps23
      go_wp2
      all_goals (go_ret; exact ⟨rfl, Drawn0.refl _⟩)
    · rw [if_neg h0] at h
      have b0 : (a0.toList == ([] : List UInt8)) = false := beq_eq_false_iff_ne.mpr h0
      have A3 := Aside0.mk h
      clear h
      go_enter Tryd.func23, Tryd.ntmps23
      go_wp2_with (first | ((with_reducible refine gate_callee (f := 31) rfl ?_); refine goesL_ (some 25) rfl rfl Tryd.func31 (by kernel_rfl) rfl #[.string a0, .int .u8 0] rfl (by (try simp only [List.map_toArray, List.map_cons, List.map_nil]); first | done | rfl) ?_; refine (strings_trimRightByte.calls k a0 0 r _ A3.out).mono ?_; rintro e w' ⟨rfl, hd⟩; have HD := Aside0.mk hd; clear hd; refine ⟨_, rfl, ?_⟩))
      all_goals (go_ret; exact ⟨rfl, HD.out⟩)
  · rw [if_neg h1] at h
    cases h
end Go.Proofs.YtijnfnlahhgpgaaDoor.P
