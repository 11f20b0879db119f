/- KeyFloats: keys of floats stand as the floats do: the plain statement of the law. -/
import Derived.Test.YtoeiogailnfbkaaKeyB
import Derived.Test.YtoeiogailnfbkaaPx4
set_option linter.unusedVariables false
set_option linter.unusedSimpArgs false
namespace Go.Proofs.Ytoeiogailnfbkaa.Pure
open Go.RowKit Go.Proofs.Ytoeiogailnfbkaa.P Go.Proofs.YtoeiogailnfbkaaW.PrintWords Go.Proofs.YtoeiogailnfbkaaW.PrintLast Go.Proofs.YtoeiogailnfbkaaW.PrintMore
theorem toNat_lt {x : Int} (h : (Lit.int .u64 x).wf = true) : x.toNat < 18446744073709551616 := by have := wf_u64 h; omega
theorem key_less {u v : Nat} (hu : u < 18446744073709551616) (hv : v < 18446744073709551616) : Op.bytesLess ((⟨#[102]⟩ : ByteArray) ++ strOfNums (be 8 u)).toList ((⟨#[102]⟩ : ByteArray) ++ strOfNums (be 8 v)).toList = decide (u < v) := by
  rw [app_list, app_list, ← be8_less hu hv]
  have e1 : (⟨#[102]⟩ : ByteArray).toList = [102] := by rw [Go.ByteArray.toList_eq]
  rw [e1]
  simp [Op.bytesLess]
theorem key_eq {u v : Nat} (hu : u < 18446744073709551616) (hv : v < 18446744073709551616) : ((⟨#[102]⟩ : ByteArray) ++ strOfNums (be 8 u)).toList = ((⟨#[102]⟩ : ByteArray) ++ strOfNums (be 8 v)).toList ↔ u = v := by
  rw [app_list, app_list, List.append_cancel_left_eq, be8_eq hu hv]
theorem KeyFloats : engrosslaw5_KeyFloats.Pure := by
  intro x y hx hy
  refine ⟨60, ?_⟩
  unfold engrosslaw5_KeyFloats.f
  rw [begun5 (by omega)]
  simp only [Option.bind_some, if_true]
  have ha := toNat_lt hx
  have hb := toNat_lt hy
  generalize x.toNat = a at ha
  generalize y.toNat = b at hb
  have pa := pl_lt ha
  have pb := pl_lt hb
  rw [of_key ha (by omega), of_key hb (by omega), rplace_is ha, rplace_is hb]
  simp only [Option.bind_some]
  rw [float_key _ (by rw [key_size]; omega) (by omega), fl_key pa]
  simp only [Option.bind_some]
  have ef := fo_pl ha
  have ep : pl (fo (pl a)) = pl a := by rw [ef, pl_clean ha]
  rw [ofL_be pa, if_pos ep, if_pos (show (fo (pl a), true).snd = true from rfl), rclean_is ha]
  simp only [Option.bind_some]
  rw [bits_is]
  simp only [Option.bind_some]
  have e1 : (decide (pl a < pl b) == decide ((pl a : Int) - 9223372036854775808 < (pl b : Int) - 9223372036854775808)) = true := by
    rw [beq_iff_eq, decide_eq_decide]; omega
  rw [if_pos (by rw [decide_eq_true_eq]; exact ef), key_less pa pb, if_pos e1]
  rw [if_pos (by
    rw [beq_iff_eq, Bool.eq_iff_iff]
    simp only [beq_iff_eq, key_eq pa pb]
    omega), may_key, key_size]
  rfl
end Go.Proofs.Ytoeiogailnfbkaa.Pure
