/- The law NodeTwins returns true for every input: the words, the walks and the plain statement that its row needs. No condition. (Merged by a program of this session out of its own texts.) -/
import Derived.ArgAppend
import Derived.Below
import Derived.BigQuiet
import Derived.Deep.AppendLies
import Derived.Deep.CutBlock
import Derived.Deep.DeepCutAuto
import Derived.Deep.Draws
import Derived.Deep.LoopGhost
import Derived.Deep.OwnRows
import Derived.Deep.QuietTactic
import Derived.Deep.RegionHeld3
import Derived.KernelRfl
import Derived.Laws.BitsLemmas
import Derived.Laws.BytesArg
import Derived.Laws.Cover2
import Derived.Laws.Externs
import Derived.Laws.FloatArith
import Derived.Laws.IdiomCopy
import Derived.Laws.MakeOwn
import Derived.Laws.OwnMore
import Derived.Laws.Rows
import Derived.Laws.Slices
import Derived.Laws.StructEq
import Derived.Lib.AppendStr
import Derived.Lib.ConvBytes
import Derived.Maps.AppendAt
import Derived.OrdersHeld
import Derived.OwnWalk
import Derived.RowKit
import Derived.RowKit3
import Derived.Tactics
import Derived.Test.YtmmjpieafbjggaaProg
import Derived.WalkKit
import Derived.WideLaws
import Derived.Test.YtmmjpieafbjggaaQNodeTwins4
import Derived.Test.YtmmjpieafbjggaaQNodeTwins5
section
namespace Go.Proofs.Ytmmjpieafbjggaa.P
open Go.RowKit Go.Proofs.YtmmjpieafbjggaaW.PrintWords Go.Proofs.YtmmjpieafbjggaaW.PrintLast Go.Proofs.YtmmjpieafbjggaaW.PrintMore
attribute [local go_sem] max2_int min2_int max_two min_two max_three min_three max_four min_four   -- for this text's walks alone
attribute [local go_sem] x_str_gtr x_str_leq x_str_geq ext_bits ext_frombits ext_neg x_store_float Instr.field asAgg
set_option linter.unusedVariables false
set_option linter.unusedSimpArgs false
def num_GetText.j0 : Nat → List Int → Int → Int → Bool → Option (ByteArray × Int × Int)
 | 0, _, _, _, _ => none
 | k + 1, x0, x5, x6, x18 => if x18 = true then (some ((⟨#[]⟩ : ByteArray), 0, 1)) else (if x5 > (wrap64 ((x0.length : Int) - x6)) then (some ((⟨#[]⟩ : ByteArray), 0, 2)) else (if 0 ≤ x6 then (if x6 ≤ (wrap64 (x6 + x5)) then (if (wrap64 (x6 + x5)) ≤ (x0.length : Int) then (some (strOfNums ((x0.take ((wrap64 (x6 + x5)) : Int).toNat).drop (x6 : Int).toNat), wrap64 (x6 + x5), 0)) else (none)) else (none)) else (none)))
def num_GetText.f (k : Nat) (l0 : List Int) : Option (ByteArray × Int × Int) := (num_Get.f k l0).bind fun bt220 => (if bt220.2.2 = 0 then (if bt220.1 < 0 then (num_GetText.j0 k l0 bt220.1 bt220.2.1 true) else (num_GetText.j0 k l0 bt220.1 bt220.2.1 (decide (bt220.1 > 65536)))) else (some ((⟨#[]⟩ : ByteArray), 0, bt220.2.2)))
theorem num_GetText.mono_l : ∀ k, (∀ y0 y1 y2 y3, LeO (num_GetText.j0 k y0 y1 y2 y3) (num_GetText.j0 (k + 1) y0 y1 y2 y3))
 | 0 => fun _ _ _ _ r h => by simp [num_GetText.j0] at h
 | k + 1 => by
  have ih0 := num_GetText.mono_l k
  ·intro y0 y1 y2 y3
   unfold num_GetText.j0
   repeat' first
   | (with_reducible exact ih0 _ _ _ _)
   | (with_reducible exact num_Get.mono _ _)
   | (with_reducible exact LeO.refl _)
   | (with_reducible exact LeO.none _)
   | (with_reducible refine LeO.ite ?_ ?_)
   | (with_reducible refine LeO.bind ?_ (fun _ => ?_))
   | exact ih0 _ _ _ _
   | exact num_Get.mono _ _
   | exact LeO.none _
   | refine LeO.ite ?_ ?_
   | refine LeO.bind ?_ (fun _ => ?_)
theorem num_GetText.mono : ∀ a0 k, LeO (num_GetText.f k a0) (num_GetText.f (k + 1) a0) := by
 intro a0 k
 have ih0 := num_GetText.mono_l k
 unfold num_GetText.f
 repeat' first
   | (with_reducible exact ih0 _ _ _ _)
   | (with_reducible exact num_Get.mono _ _)
   | (with_reducible exact LeO.refl _)
   | (with_reducible exact LeO.none _)
   | (with_reducible refine LeO.ite ?_ ?_)
   | (with_reducible refine LeO.bind ?_ (fun _ => ?_))
   | exact ih0 _ _ _ _
   | exact num_Get.mono _ _
   | exact LeO.none _
   | refine LeO.ite ?_ ?_
   | refine LeO.bind ?_ (fun _ => ?_)
set_option maxHeartbeats 8000000 in
set_option maxRecDepth 100000 in
theorem num_GetText.calls (k : Nat) (A0 : Option Addr) (c0 : Nat) (l0 : List Int) (r1 : ByteArray) (r2 : Int) (r3 : Int) (w : World) (hr0 : Kd.C (Kd.int .u8) w A0 l0.length l0) (hc0 : l0.length ≤ c0) (h : num_GetText.f k l0 = some (r1, r2, r3)) :
  Calls Try.prog 41 #[.slice A0 l0.length c0] w fun e w' => e = .returned (.tuple #[.string r1, .int .i64 r2, .int .i64 r3]) ∧ Drawn0 w w' := by
 have HR0 := Aside0.mk hr0
 have HC0 := Aside0.mk hc0
 clear hr0 hc0
 have H : ((num_Get.f k l0).bind fun bt220 => (if bt220.2.2 = 0 then (if bt220.1 < 0 then (num_GetText.j0 k l0 bt220.1 bt220.2.1 true) else (num_GetText.j0 k l0 bt220.1 bt220.2.1 (decide (bt220.1 > 65536)))) else (some ((⟨#[]⟩ : ByteArray), 0, bt220.2.2)))) = some (r1, r2, r3) := h
 clear h
 replace H := Option.bind_eq_some_iff.mp H
 obtain ⟨⟨t220, t221, t222⟩, A20, H⟩ := H
 replace H : (if t222 = 0 then (if t220 < 0 then (num_GetText.j0 k l0 t220 t221 true) else (num_GetText.j0 k l0 t220 t221 (decide (t220 > 65536)))) else (some ((⟨#[]⟩ : ByteArray), 0, t222))) = some (r1, r2, r3) := H
 have A2 := Aside0.mk A20
 clear A20
 by_cases c3 : t222 = 0
 rotate_left
 ·rw [if_neg c3] at H
  have c3b0 : (t222 == 0) = false := beq_eq_false_iff_ne.mpr c3
  have c3b1 : (t222 != 0) = true := bne_iff_ne.mpr c3
  simp only [Option.some.injEq, Prod.mk.injEq] at H
  obtain ⟨rfl, rfl, rfl⟩ := H
  go_enter Try.func41, Try.ntmps41
  go_wp2_with (first | ((with_reducible refine gate_callee (f := 55) rfl ?_); refine gL (some 10) Try.func55 #[.slice A0 l0.length c0] ?_; (with_reducible refine (num_Get.calls k _ _ l0 t220 t221 t222 _ ?side1 ?side2 A2.out).mono ?_); (case side1 => repeat (first | exact HR0.out | (with_reducible refine Kd.C_alloc ?_ _) | (with_reducible refine Kd.C_drewN ?_ _) | (with_reducible refine Kd.C_drew ?_))); (case side2 => exact HC0.out); rintro e w' ⟨rfl, ⟨nd, rfl⟩⟩; refine ⟨_, rfl, ?_⟩))
  go_ret3
  exact ⟨by first | rfl | (simp; done) | (simp [*]; done), by repeat (first | exact Drawn0.refl _ | apply Drawn0.step)⟩
 rw [if_pos c3] at H
 have c3b0 : (t222 == 0) = true := beq_iff_eq.mpr c3
 have c3b1 : (t222 != 0) = false := bne_eq_false_iff_eq.mpr c3
 clear c3
 have HC4 := Aside0.mk H
 clear H
 go_enter Try.func41, Try.ntmps41
 go_upto_region 4 with (first | ((with_reducible refine gate_callee (f := 55) rfl ?_); refine gL (some 10) Try.func55 #[.slice A0 l0.length c0] ?_; (with_reducible refine (num_Get.calls k _ _ l0 t220 t221 t222 _ ?side1 ?side2 A2.out).mono ?_); (case side1 => repeat (first | exact HR0.out | (with_reducible refine Kd.C_alloc ?_ _) | (with_reducible refine Kd.C_drewN ?_ _) | (with_reducible refine Kd.C_drew ?_))); (case side2 => exact HC0.out); rintro e w' ⟨rfl, ⟨nd, rfl⟩⟩; refine ⟨_, rfl, ?_⟩))
 (try simp only [Act.put, List.setIfInBounds_toArray, List.set_cons_zero, List.set_cons_succ])
 go_cut [18] (fun v18 wc => ∃ (kq : Nat) (x18_3 : Bool), v18 = .bool x18_3 ∧ Aside0 (num_GetText.j0 kq l0 t220 t221 x18_3 = some (r1, r2, r3)) ∧ Aside0 (kq ≤ k) ∧ Drawn0 w wc)
 case first =>
  have H := HC4.out
  clear HC4
  by_cases c5 : t220 < 0
  ·rw [if_pos c5] at H
   have c5b0 : decide (t220 < 0) = true := decide_eq_true c5
   clear c5
   (first | rw [c5b0] | (simp only [i64_w, i32_w]; rw [c5b0]) | skip)
   have H' := Aside0.mk H
   clear H
   go_wp2
   go_meet
   case rel => exact ⟨_, (true), (by first | rfl | (simp; done) | (simp [*]; done)), H', ⟨by first | omega | exact Nat.le_refl _⟩, by repeat (first | exact Drawn0.refl _ | apply Drawn0.step)⟩
  rw [if_neg c5] at H
  have c5b0 : decide (t220 < 0) = false := decide_eq_false c5
  clear c5
  (first | rw [c5b0] | (simp only [i64_w, i32_w]; rw [c5b0]) | skip)
  have H' := Aside0.mk H
  clear H
  go_wp2
  go_meet
  case rel => exact ⟨_, (decide (t220 > 65536)), (by first | rfl | (simp; done) | (simp [*]; done)), H', ⟨by first | omega | exact Nat.le_refl _⟩, by repeat (first | exact Drawn0.refl _ | apply Drawn0.step)⟩
 case rest =>
  clear HC4
  try clear p2
  try clear c3
  try clear c3b0
  try clear c3b1
  try clear c4
  try clear c5
  try clear c5b0
  obtain ⟨kq, x18_3, rfl, HA, HJ3, ⟨mc3, rfl⟩⟩ := hcut
  cases kq with
  | zero => exact absurd HA.out (by simp [num_GetText.j0])
  | succ kj3 =>
   have H := HA.out
   clear HA
   simp only [num_GetText.j0] at H
   by_cases c6 : x18_3 = true
   ·subst c6
    have H1 : (some ((⟨#[]⟩ : ByteArray), 0, 1)) = some (r1, r2, r3) := by rw [if_pos rfl] at H; exact H
    clear H
    have H := H1
    clear H1
    simp only [Option.some.injEq, Prod.mk.injEq] at H
    obtain ⟨rfl, rfl, rfl⟩ := H
    go_wp2
    go_ret3
    exact ⟨by first | rfl | (simp; done) | (simp [*]; done), by repeat (first | exact Drawn0.refl _ | apply Drawn0.step)⟩
   replace c6 := Bool.eq_false_iff.mpr c6
   subst c6
   have H1 : (if t220 > (wrap64 ((l0.length : Int) - t221)) then (some ((⟨#[]⟩ : ByteArray), 0, 2)) else (if 0 ≤ t221 then (if t221 ≤ (wrap64 (t221 + t220)) then (if (wrap64 (t221 + t220)) ≤ (l0.length : Int) then (some (strOfNums ((l0.take ((wrap64 (t221 + t220)) : Int).toNat).drop (t221 : Int).toNat), wrap64 (t221 + t220), 0)) else (none)) else (none)) else (none))) = some (r1, r2, r3) := by rw [if_neg (show ¬ (false = true) by decide)] at H; exact H
   clear H
   have H := H1
   clear H1
   by_cases c7 : t220 > (wrap64 ((l0.length : Int) - t221))
   ·rw [if_pos c7] at H
    have c7b0 : decide ((wrap64 ((l0.length : Int) - t221)) < t220) = true := decide_eq_true c7
    clear c7
    simp only [Option.some.injEq, Prod.mk.injEq] at H
    obtain ⟨rfl, rfl, rfl⟩ := H
    go_wp2
    go_ret3
    exact ⟨by first | rfl | (simp; done) | (simp [*]; done), by repeat (first | exact Drawn0.refl _ | apply Drawn0.step)⟩
   rw [if_neg c7] at H
   have c7b0 : decide ((wrap64 ((l0.length : Int) - t221)) < t220) = false := decide_eq_false c7
   clear c7
   by_cases c8 : 0 ≤ t221
   rotate_left
   ·rw [if_neg c8] at H
    exact absurd H (by simp)
   rw [if_pos c8] at H
   have c8b0 := eq_true c8
   have c8b1 : decide (0 ≤ t221) = true := decide_eq_true c8
   clear c8
   by_cases c9 : t221 ≤ (wrap64 (t221 + t220))
   rotate_left
   ·rw [if_neg c9] at H
    exact absurd H (by simp)
   rw [if_pos c9] at H
   have c9b0 := eq_true c9
   have c9b1 : decide (t221 ≤ (wrap64 (t221 + t220))) = true := decide_eq_true c9
   by_cases c10 : (wrap64 (t221 + t220)) ≤ (l0.length : Int)
   rotate_left
   ·rw [if_neg c10] at H
    exact absurd H (by simp)
   rw [if_pos c10] at H
   have c10b0 := eq_true c10
   have c10b1 : decide ((wrap64 (t221 + t220)) ≤ (l0.length : Int)) = true := decide_eq_true c10
   obtain ⟨y223, hy223⟩ : ∃ y_ : List Int, y_ = ((l0.take ((wrap64 (t221 + t220)) : Int).toNat).drop (t221 : Int).toNat) := ⟨_, rfl⟩
   replace H : (some (strOfNums y223, wrap64 (t221 + t220), 0)) = some (r1, r2, r3) := by first | (rw [hy223]; with_reducible exact H) | (have H2_ := (Option.bind_some _ _).symm.trans H; rw [hy223]; with_reducible exact H2_) | (have H2_ := (Option.bind_some _ _).symm.trans H; with_reducible exact H2_) | with_reducible exact H | (rw [hy223]; exact H) | exact H
   have Ny223 := Aside0.mk hy223
   clear hy223
   simp only [Option.some.injEq, Prod.mk.injEq] at H
   obtain ⟨rfl, rfl, rfl⟩ := H
   have q11 : ((wrap64 (t221 + t220)) : Int) ≤ ((l0.length : Int) : Int) := of_decide_eq_true (by first | (with_reducible assumption) | assumption)
   obtain ⟨i011, hi011, _, hsz11, _⟩ := info_parts info5
   have hroom11 : l0.length ≤ c0 := HC0.out
   have hC11 : Kd.C (Kd.int .u8) _ A0 l0.length l0 := HR0.out
   have ql11 : (t221 : Int) ≤ ((wrap64 (t221 + t220)) : Int) := of_decide_eq_true (by first | (with_reducible assumption) | assumption)
   have q011 : (0 : Int) ≤ (t221 : Int) := of_decide_eq_true (by first | (with_reducible assumption) | assumption)
   have hcut11 := cut_mid (P := Try.prog) 30 5 .i64 .i64 Try.underlying30 hi011 1 hsz11 A0 l0.length c0 t221 (wrap64 (t221 + t220)) q011 ql11 q11 hroom11
   have hr11 := Kd.C_mid (lo := (t221 : Int).toNat) (hi := ((wrap64 (t221 + t220)) : Int).toNat) (c := c0) hC11 (by omega) (by omega) hroom11
   obtain ⟨A11, hA11⟩ : ∃ A1, A1 = (if c0 = (t221 : Int).toNat then A0 else (A0 : Option Addr).map (·.add ((t221 : Int).toNat * 1))) := ⟨_, rfl⟩
   obtain ⟨c11, hc11⟩ : ∃ c1, c1 = c0 - (t221 : Int).toNat := ⟨_, rfl⟩
   have hy11 : y223.length = ((wrap64 (t221 + t220)) : Int).toNat - (t221 : Int).toNat := (by rw [Ny223.out, List.length_drop, List.length_take] <;> omega)
   rw [show ((l0).take ((wrap64 (t221 + t220)) : Int).toNat).drop (t221 : Int).toNat = y223 from Ny223.out.symm] at hr11
   replace hr11 : Kd.C (Kd.int .u8) _ A11 y223.length y223 := (by rw [hA11]; exact hr11)
   rw [← hy11, ← hA11, ← hc11] at hcut11
   have HR226 := Aside0.mk hr11
   have HC226 := Aside0.mk (show y223.length ≤ c11 from by rw [hy11, hc11]; exact Nat.sub_le_sub_right (Nat.le_trans (by omega) hroom11) _)
   clear hr11 hC11 hroom11 hi011 hsz11 hc11
   have KY11 := Aside0.mk hy11
   have KA11 := Aside0.mk hA11
   clear hy11 hA11
   replace q11 := eq_true q11
   have hcv12 := Kd.x_C_string (P := Try.prog) (A := A11) (c := c11) Try.underlying30 Try.underlying5 Try.underlying9 HR226.out
   go_wp2
   go_ret3
   exact ⟨by first | rfl | (simp; done) | (simp [*]; done), by repeat (first | exact Drawn0.refl _ | apply Drawn0.step)⟩
def math_NaN.f  : Option (Nat) := some 9221120237041090561
set_option maxHeartbeats 8000000 in
set_option maxRecDepth 100000 in
theorem math_NaN.calls  (r : Nat) (w : World) (h : math_NaN.f  = some r) :
  Calls Try.prog 73 #[] w fun e w' => e = .returned (.float .f64 r) ∧ Drawn0 w w' := by
 have H : (some 9221120237041090561) = some r := h
 clear h
 obtain rfl := Option.some.inj H
 go_enter Try.func73, Try.ntmps73
 go_wp2
 go_ret
 exact ⟨by first | rfl | (simp; done) | (simp [*]; done), by repeat (first | exact Drawn0.refl _ | apply Drawn0.step)⟩
def float_Of.l0 : Nat → Int → List Int → Int → Int → Option (Nat × Bool)
 | 0, _, _, _, _ => none
 | k + 1, x4, x11, x12, x13 => if x13 < x12 then (if 0 ≤ x13 then (if x13 < (x11.length : Int) then (float_Of.l0 k (Go.bits .or .u64 (IntKind.u64.wrap (x4 * 256)) (IntKind.u64.wrap (rd x11 x13))) x11 x12 (wrap64 (x13 + 1))) else (none)) else (none)) else (if x4 = 0 then ((math_NaN.f).bind fun t228 => ((float_Clean.f t228).bind fun t229 => (some (t229, true)))) else (if (Go.bits .and .u64 x4 9223372036854775808) = 0 then ((float_place.f (Int.toNat (Go.bits .xor .u64 18446744073709551615 x4))).bind fun t230 => (if t230 = x4 then (some (Int.toNat (Go.bits .xor .u64 18446744073709551615 x4), true)) else (some (0, false)))) else ((float_place.f (Int.toNat (Go.bits .andNot .u64 x4 9223372036854775808))).bind fun t231 => (if t231 = x4 then (some (Int.toNat (Go.bits .andNot .u64 x4 9223372036854775808), true)) else (some (0, false))))))
def float_Of.f (k : Nat) (l0 : List Int) : Option (Nat × Bool) := if (l0.length : Int) = 8 then (float_Of.l0 k 0 l0 (l0.length : Int) 0) else (some (0, false))
theorem float_Of.mono_l : ∀ k, (∀ y0 y1 y2 y3, LeO (float_Of.l0 k y0 y1 y2 y3) (float_Of.l0 (k + 1) y0 y1 y2 y3))
 | 0 => fun _ _ _ _ r h => by simp [float_Of.l0] at h
 | k + 1 => by
  have ih0 := float_Of.mono_l k
  ·intro y0 y1 y2 y3
   unfold float_Of.l0
   repeat' first
   | (with_reducible exact ih0 _ _ _ _)
   | (with_reducible exact LeO.refl _)
   | (with_reducible exact LeO.none _)
   | (with_reducible refine LeO.ite ?_ ?_)
   | (with_reducible refine LeO.bind ?_ (fun _ => ?_))
   | exact ih0 _ _ _ _
   | exact LeO.none _
   | refine LeO.ite ?_ ?_
   | refine LeO.bind ?_ (fun _ => ?_)
theorem float_Of.mono : ∀ a0 k, LeO (float_Of.f k a0) (float_Of.f (k + 1) a0) := by
 intro a0 k
 have ih0 := float_Of.mono_l k
 unfold float_Of.f
 repeat' first
   | (with_reducible exact ih0 _ _ _ _)
   | (with_reducible exact LeO.refl _)
   | (with_reducible exact LeO.none _)
   | (with_reducible refine LeO.ite ?_ ?_)
   | (with_reducible refine LeO.bind ?_ (fun _ => ?_))
   | exact ih0 _ _ _ _
   | exact LeO.none _
   | refine LeO.ite ?_ ?_
   | refine LeO.bind ?_ (fun _ => ?_)
set_option maxHeartbeats 8000000 in
set_option maxRecDepth 100000 in
theorem float_Of.calls (k : Nat) (A0 : Option Addr) (c0 : Nat) (l0 : List Int) (r1 : Nat) (r2 : Bool) (w : World) (hr0 : Kd.C (Kd.int .u8) w A0 l0.length l0) (hc0 : l0.length ≤ c0) (h : float_Of.f k l0 = some (r1, r2)) :
  Calls Try.prog 67 #[.slice A0 l0.length c0] w fun e w' => e = .returned (.tuple #[.float .f64 r1, .bool r2]) ∧ Drawn0 w w' := by
 have HR0 := Aside0.mk hr0
 have HC0 := Aside0.mk hc0
 clear hr0 hc0
 have H : (if (l0.length : Int) = 8 then (float_Of.l0 k 0 l0 (l0.length : Int) 0) else (some (0, false))) = some (r1, r2) := h
 clear h
 by_cases c2 : (l0.length : Int) = 8
 rotate_left
 ·rw [if_neg c2] at H
  have c2b0 : ((l0.length : Int) == 8) = false := beq_eq_false_iff_ne.mpr c2
  have c2b1 : ((l0.length : Int) != 8) = true := bne_iff_ne.mpr c2
  simp only [Option.some.injEq, Prod.mk.injEq] at H
  obtain ⟨rfl, rfl⟩ := H
  go_enter Try.func67, Try.ntmps67
  go_wp2
  go_ret2
  exact ⟨by first | rfl | (simp; done) | (simp [*]; done), by repeat (first | exact Drawn0.refl _ | apply Drawn0.step)⟩
 rw [if_pos c2] at H
 have c2b0 : ((l0.length : Int) == 8) = true := beq_iff_eq.mpr c2
 have c2b1 : ((l0.length : Int) != 8) = false := bne_eq_false_iff_eq.mpr c2
 clear c2
 have H' := Aside0.mk H
 clear H
 go_enter Try.func67, Try.ntmps67
 go_wp2
 go_loopg [4, 13] k (fun kq v4 v13 w' => ∃ (x4_1 : Int) (x13_1 : Int), v4 = .int .u64 x4_1 ∧ v13 = .int .i64 x13_1 ∧ Aside0 (float_Of.l0 kq x4_1 l0 (l0.length : Int) x13_1 = some (r1, r2)) ∧ Aside0 (kq ≤ k) ∧ Drawn0 w w')
 case atStart => exact ⟨(0), (0), (by first | rfl | (simp; done) | (simp [*]; done)), (by first | rfl | (simp; done) | (simp [*]; done)), H', ⟨Nat.le_refl _⟩, by repeat (first | exact Drawn0.refl _ | apply Drawn0.step)⟩
 case round =>
  clear H'
  try clear c2
  try clear c2b0
  try clear c2b1
  try clear p2
  obtain ⟨x4_1, x13_1, rfl, rfl, HA, HK1, ⟨m1, rfl⟩⟩ := hrel
  cases gk with
  | zero => exact absurd HA.out (by simp [float_Of.l0])
  | succ k1 =>
   have H := HA.out
   clear HA
   simp only [float_Of.l0] at H
   by_cases c3 : x13_1 < (l0.length : Int)
   ·rw [if_pos c3] at H
    have c3b0 : decide (x13_1 < (l0.length : Int)) = true := decide_eq_true c3
    clear c3
    by_cases c4 : 0 ≤ x13_1
    rotate_left
    ·rw [if_neg c4] at H
     exact absurd H (by simp)
    rw [if_pos c4] at H
    have c4b0 : decide (0 ≤ x13_1) = true := decide_eq_true c4
    clear c4
    by_cases c5 : x13_1 < (l0.length : Int)
    rotate_left
    ·rw [if_neg c5] at H
     exact absurd H (by simp)
    rw [if_pos c5] at H
    have c5b0 : decide (x13_1 < (l0.length : Int)) = true := decide_eq_true c5
    clear c5
    have H' := Aside0.mk H
    clear H
    have p227 : 0 ≤ (x13_1 : Int) := of_decide_eq_true (by first | (with_reducible assumption) | assumption)
    have q227 : x13_1 < (l0.length : Int) := of_decide_eq_true (by first | (with_reducible assumption) | assumption)
    obtain ⟨ad227, e227, hx227_0⟩ := Kd.at_int HR0.out x13_1 p227 q227
    cases e227
    replace p227 := eq_true p227
    replace q227 := eq_true q227
    go_wp2
    go_roundg k1
    case measure => have := HK1.out; omega
    case rel => exact ⟨(Go.bits .or .u64 (IntKind.u64.wrap (x4_1 * 256)) (IntKind.u64.wrap (rd l0 x13_1))), (wrap64 (x13_1 + 1)), (by first | rfl | (simp; done) | (simp [*]; done)), (by first | rfl | (simp; done) | (simp [*]; done)), H', ⟨by have := HK1.out; omega⟩, by repeat (first | exact Drawn0.refl _ | apply Drawn0.step)⟩
   rw [if_neg c3] at H
   have c3b0 : decide (x13_1 < (l0.length : Int)) = false := decide_eq_false c3
   clear c3
   by_cases c6 : x4_1 = 0
   ·rw [if_pos c6] at H
    have c6b0 : (x4_1 == 0) = true := beq_iff_eq.mpr c6
    have c6b1 : (x4_1 != 0) = false := bne_eq_false_iff_eq.mpr c6
    clear c6
    replace H := Option.bind_eq_some_iff.mp H
    obtain ⟨t228, A70, H⟩ := H
    replace H : ((float_Clean.f t228).bind fun t229 => (some (t229, true))) = some (r1, r2) := H
    have A7 := Aside0.mk A70
    clear A70
    replace H := Option.bind_eq_some_iff.mp H
    obtain ⟨t229, A80, H⟩ := H
    replace H : (some (t229, true)) = some (r1, r2) := H
    have A8 := Aside0.mk A80
    clear A80
    simp only [Option.some.injEq, Prod.mk.injEq] at H
    obtain ⟨rfl, rfl⟩ := H
    go_wp2_with (first | ((with_reducible refine gate_callee (f := 73) rfl ?_); refine gL (some 29) Try.func73 #[] ?_; (with_reducible refine (math_NaN.calls  t228 _ A7.out).mono ?_); rintro e w' ⟨rfl, ⟨nd, rfl⟩⟩; refine ⟨_, rfl, ?_⟩) | ((with_reducible refine gate_callee (f := 64) rfl ?_); refine gL (some 30) Try.func64 #[.float .f64 t228] ?_; (with_reducible refine (float_Clean.calls t228 t229 _ A8.out).mono ?_); rintro e w' ⟨rfl, ⟨nd, rfl⟩⟩; refine ⟨_, rfl, ?_⟩))
    go_ret2
    exact ⟨by first | rfl | (simp; done) | (simp [*]; done), by repeat (first | exact Drawn0.refl _ | apply Drawn0.step)⟩
   rw [if_neg c6] at H
   have c6b0 : (x4_1 == 0) = false := beq_eq_false_iff_ne.mpr c6
   have c6b1 : (x4_1 != 0) = true := bne_iff_ne.mpr c6
   by_cases c9 : (Go.bits .and .u64 x4_1 9223372036854775808) = 0
   rotate_left
   ·rw [if_neg c9] at H
    have c9b0 : ((Go.bits .and .u64 x4_1 9223372036854775808) == 0) = false := beq_eq_false_iff_ne.mpr c9
    have c9b1 : ((Go.bits .and .u64 x4_1 9223372036854775808) != 0) = true := bne_iff_ne.mpr c9
    replace H := Option.bind_eq_some_iff.mp H
    obtain ⟨t231, A120, H⟩ := H
    replace H : (if t231 = x4_1 then (some (Int.toNat (Go.bits .andNot .u64 x4_1 9223372036854775808), true)) else (some (0, false))) = some (r1, r2) := H
    have A12 := Aside0.mk A120
    clear A120
    by_cases c13 : t231 = x4_1
    rotate_left
    ·rw [if_neg c13] at H
     have c13b0 : (t231 == x4_1) = false := beq_eq_false_iff_ne.mpr c13
     have c13b1 : (t231 != x4_1) = true := bne_iff_ne.mpr c13
     simp only [Option.some.injEq, Prod.mk.injEq] at H
     obtain ⟨rfl, rfl⟩ := H
     go_wp2_with (first | ((with_reducible refine gate_callee (f := 74) rfl ?_); refine gL (some 39) Try.func74 #[.float .f64 (Int.toNat (Go.bits .andNot .u64 x4_1 9223372036854775808))] ?_; (with_reducible refine (float_place.calls (Int.toNat (Go.bits .andNot .u64 x4_1 9223372036854775808)) t231 _ A12.out).mono ?_); rintro e w' ⟨rfl, ⟨nd, rfl⟩⟩; refine ⟨_, rfl, ?_⟩))
     go_ret2
     exact ⟨by first | rfl | (simp; done) | (simp [*]; done), by repeat (first | exact Drawn0.refl _ | apply Drawn0.step)⟩
    rw [if_pos c13] at H
    have c13b0 : (t231 == x4_1) = true := beq_iff_eq.mpr c13
    have c13b1 : (t231 != x4_1) = false := bne_eq_false_iff_eq.mpr c13
    clear c13
    simp only [Option.some.injEq, Prod.mk.injEq] at H
    obtain ⟨rfl, rfl⟩ := H
    go_wp2_with (first | ((with_reducible refine gate_callee (f := 74) rfl ?_); refine gL (some 39) Try.func74 #[.float .f64 (Int.toNat (Go.bits .andNot .u64 x4_1 9223372036854775808))] ?_; (with_reducible refine (float_place.calls (Int.toNat (Go.bits .andNot .u64 x4_1 9223372036854775808)) t231 _ A12.out).mono ?_); rintro e w' ⟨rfl, ⟨nd, rfl⟩⟩; refine ⟨_, rfl, ?_⟩))
    go_ret2
    exact ⟨by first | rfl | (simp; done) | (simp [*]; done), by repeat (first | exact Drawn0.refl _ | apply Drawn0.step)⟩
   rw [if_pos c9] at H
   have c9b0 : ((Go.bits .and .u64 x4_1 9223372036854775808) == 0) = true := beq_iff_eq.mpr c9
   have c9b1 : ((Go.bits .and .u64 x4_1 9223372036854775808) != 0) = false := bne_eq_false_iff_eq.mpr c9
   clear c9
   replace H := Option.bind_eq_some_iff.mp H
   obtain ⟨t230, A100, H⟩ := H
   replace H : (if t230 = x4_1 then (some (Int.toNat (Go.bits .xor .u64 18446744073709551615 x4_1), true)) else (some (0, false))) = some (r1, r2) := H
   have A10 := Aside0.mk A100
   clear A100
   by_cases c11 : t230 = x4_1
   rotate_left
   ·rw [if_neg c11] at H
    have c11b0 : (t230 == x4_1) = false := beq_eq_false_iff_ne.mpr c11
    have c11b1 : (t230 != x4_1) = true := bne_iff_ne.mpr c11
    simp only [Option.some.injEq, Prod.mk.injEq] at H
    obtain ⟨rfl, rfl⟩ := H
    go_wp2_with (first | ((with_reducible refine gate_callee (f := 74) rfl ?_); refine gL (some 39) Try.func74 #[.float .f64 (Int.toNat (Go.bits .xor .u64 18446744073709551615 x4_1))] ?_; (with_reducible refine (float_place.calls (Int.toNat (Go.bits .xor .u64 18446744073709551615 x4_1)) t230 _ A10.out).mono ?_); rintro e w' ⟨rfl, ⟨nd, rfl⟩⟩; refine ⟨_, rfl, ?_⟩))
    go_ret2
    exact ⟨by first | rfl | (simp; done) | (simp [*]; done), by repeat (first | exact Drawn0.refl _ | apply Drawn0.step)⟩
   rw [if_pos c11] at H
   have c11b0 : (t230 == x4_1) = true := beq_iff_eq.mpr c11
   have c11b1 : (t230 != x4_1) = false := bne_eq_false_iff_eq.mpr c11
   clear c11
   simp only [Option.some.injEq, Prod.mk.injEq] at H
   obtain ⟨rfl, rfl⟩ := H
   go_wp2_with (first | ((with_reducible refine gate_callee (f := 74) rfl ?_); refine gL (some 39) Try.func74 #[.float .f64 (Int.toNat (Go.bits .xor .u64 18446744073709551615 x4_1))] ?_; (with_reducible refine (float_place.calls (Int.toNat (Go.bits .xor .u64 18446744073709551615 x4_1)) t230 _ A10.out).mono ?_); rintro e w' ⟨rfl, ⟨nd, rfl⟩⟩; refine ⟨_, rfl, ?_⟩))
   go_ret2
   exact ⟨by first | rfl | (simp; done) | (simp [*]; done), by repeat (first | exact Drawn0.refl _ | apply Drawn0.step)⟩
def datum_Get.f (k : Nat) (l0 : List Int) : Option (Int × Nat × ByteArray × Int × Int) := (num_Get.f k l0).bind fun bt233 => (if bt233.2.2 = 0 then (if bt233.1 = 0 then ((datum_May.f bt233.1 0 (⟨#[]⟩ : ByteArray)).bind fun t237 => (if t237 = true then (some (bt233.1, 0, (⟨#[]⟩ : ByteArray), wrap64 (bt233.2.1 + 0), 0)) else (some (0, 0, (⟨#[]⟩ : ByteArray), 0, 1)))) else (if bt233.1 = 1 then (if (wrap64 ((l0.length : Int) - bt233.2.1)) < 8 then (some (0, 0, (⟨#[]⟩ : ByteArray), 0, 2)) else (if 0 ≤ bt233.2.1 then (if bt233.2.1 ≤ (wrap64 (bt233.2.1 + 8)) then (if (wrap64 (bt233.2.1 + 8)) ≤ (l0.length : Int) then ((float_Of.f k ((l0.take ((wrap64 (bt233.2.1 + 8)) : Int).toNat).drop (bt233.2.1 : Int).toNat)).bind fun bt242 => (if bt242.2 = true then ((datum_May.f bt233.1 bt242.1 (⟨#[]⟩ : ByteArray)).bind fun t244 => (if t244 = true then (some (bt233.1, bt242.1, (⟨#[]⟩ : ByteArray), wrap64 (bt233.2.1 + 8), 0)) else (some (0, 0, (⟨#[]⟩ : ByteArray), 0, 1)))) else (some (0, 0, (⟨#[]⟩ : ByteArray), 0, 1)))) else (none)) else (none)) else (none))) else (if bt233.1 = 2 then (if 0 ≤ bt233.2.1 then (if bt233.2.1 ≤ (l0.length : Int) then ((num_GetText.f k (l0.drop (bt233.2.1 : Int).toNat)).bind fun bt249 => (if bt249.2.2 = 0 then ((datum_May.f bt233.1 0 bt249.1).bind fun t252 => (if t252 = true then (some (bt233.1, 0, bt249.1, wrap64 (bt233.2.1 + bt249.2.1), 0)) else (some (0, 0, (⟨#[]⟩ : ByteArray), 0, 1)))) else (some (0, 0, (⟨#[]⟩ : ByteArray), 0, bt249.2.2)))) else (none)) else (none)) else (some (0, 0, (⟨#[]⟩ : ByteArray), 0, 1))))) else (some (0, 0, (⟨#[]⟩ : ByteArray), 0, bt233.2.2)))
theorem datum_Get.mono : ∀ a0 k, LeO (datum_Get.f k a0) (datum_Get.f (k + 1) a0) := by
 intro a0 k
 unfold datum_Get.f
 repeat' first
   | (with_reducible exact float_Of.mono _ _)
   | (with_reducible exact num_Get.mono _ _)
   | (with_reducible exact num_GetText.mono _ _)
   | (with_reducible exact LeO.refl _)
   | (with_reducible exact LeO.none _)
   | (with_reducible refine LeO.ite ?_ ?_)
   | (with_reducible refine LeO.bind ?_ (fun _ => ?_))
   | exact float_Of.mono _ _
   | exact num_Get.mono _ _
   | exact num_GetText.mono _ _
   | exact LeO.none _
   | refine LeO.ite ?_ ?_
   | refine LeO.bind ?_ (fun _ => ?_)
set_option maxHeartbeats 8000000 in
set_option maxRecDepth 100000 in
theorem datum_Get.calls (k : Nat) (A0 : Option Addr) (c0 : Nat) (l0 : List Int) (r1 : Int) (r2 : Nat) (r3 : ByteArray) (r4 : Int) (r5 : Int) (w : World) (hr0 : Kd.C (Kd.int .u8) w A0 l0.length l0) (hc0 : l0.length ≤ c0) (h : datum_Get.f k l0 = some (r1, r2, r3, r4, r5)) :
  Calls Try.prog 56 #[.slice A0 l0.length c0] w fun e w' => e = .returned (.tuple #[.agg #[.int .i64 r1, .float .f64 r2, .string r3], .int .i64 r4, .int .i64 r5]) ∧ Below w.heap.size w w' := by
 have hu54 := Try.underlying54
 have HR0 := Aside0.mk hr0
 have HC0 := Aside0.mk hc0
 clear hr0 hc0
 have HB := Aside0.mk (Below.refl w.heap.size w)
 have H : ((num_Get.f k l0).bind fun bt233 => (if bt233.2.2 = 0 then (if bt233.1 = 0 then ((datum_May.f bt233.1 0 (⟨#[]⟩ : ByteArray)).bind fun t237 => (if t237 = true then (some (bt233.1, 0, (⟨#[]⟩ : ByteArray), wrap64 (bt233.2.1 + 0), 0)) else (some (0, 0, (⟨#[]⟩ : ByteArray), 0, 1)))) else (if bt233.1 = 1 then (if (wrap64 ((l0.length : Int) - bt233.2.1)) < 8 then (some (0, 0, (⟨#[]⟩ : ByteArray), 0, 2)) else (if 0 ≤ bt233.2.1 then (if bt233.2.1 ≤ (wrap64 (bt233.2.1 + 8)) then (if (wrap64 (bt233.2.1 + 8)) ≤ (l0.length : Int) then ((float_Of.f k ((l0.take ((wrap64 (bt233.2.1 + 8)) : Int).toNat).drop (bt233.2.1 : Int).toNat)).bind fun bt242 => (if bt242.2 = true then ((datum_May.f bt233.1 bt242.1 (⟨#[]⟩ : ByteArray)).bind fun t244 => (if t244 = true then (some (bt233.1, bt242.1, (⟨#[]⟩ : ByteArray), wrap64 (bt233.2.1 + 8), 0)) else (some (0, 0, (⟨#[]⟩ : ByteArray), 0, 1)))) else (some (0, 0, (⟨#[]⟩ : ByteArray), 0, 1)))) else (none)) else (none)) else (none))) else (if bt233.1 = 2 then (if 0 ≤ bt233.2.1 then (if bt233.2.1 ≤ (l0.length : Int) then ((num_GetText.f k (l0.drop (bt233.2.1 : Int).toNat)).bind fun bt249 => (if bt249.2.2 = 0 then ((datum_May.f bt233.1 0 bt249.1).bind fun t252 => (if t252 = true then (some (bt233.1, 0, bt249.1, wrap64 (bt233.2.1 + bt249.2.1), 0)) else (some (0, 0, (⟨#[]⟩ : ByteArray), 0, 1)))) else (some (0, 0, (⟨#[]⟩ : ByteArray), 0, bt249.2.2)))) else (none)) else (none)) else (some (0, 0, (⟨#[]⟩ : ByteArray), 0, 1))))) else (some (0, 0, (⟨#[]⟩ : ByteArray), 0, bt233.2.2)))) = some (r1, r2, r3, r4, r5) := h
 clear h
 replace H := Option.bind_eq_some_iff.mp H
 obtain ⟨⟨t233, t234, t235⟩, A20, H⟩ := H
 replace H : (if t235 = 0 then (if t233 = 0 then ((datum_May.f t233 0 (⟨#[]⟩ : ByteArray)).bind fun t237 => (if t237 = true then (some (t233, 0, (⟨#[]⟩ : ByteArray), wrap64 (t234 + 0), 0)) else (some (0, 0, (⟨#[]⟩ : ByteArray), 0, 1)))) else (if t233 = 1 then (if (wrap64 ((l0.length : Int) - t234)) < 8 then (some (0, 0, (⟨#[]⟩ : ByteArray), 0, 2)) else (if 0 ≤ t234 then (if t234 ≤ (wrap64 (t234 + 8)) then (if (wrap64 (t234 + 8)) ≤ (l0.length : Int) then ((float_Of.f k ((l0.take ((wrap64 (t234 + 8)) : Int).toNat).drop (t234 : Int).toNat)).bind fun bt242 => (if bt242.2 = true then ((datum_May.f t233 bt242.1 (⟨#[]⟩ : ByteArray)).bind fun t244 => (if t244 = true then (some (t233, bt242.1, (⟨#[]⟩ : ByteArray), wrap64 (t234 + 8), 0)) else (some (0, 0, (⟨#[]⟩ : ByteArray), 0, 1)))) else (some (0, 0, (⟨#[]⟩ : ByteArray), 0, 1)))) else (none)) else (none)) else (none))) else (if t233 = 2 then (if 0 ≤ t234 then (if t234 ≤ (l0.length : Int) then ((num_GetText.f k (l0.drop (t234 : Int).toNat)).bind fun bt249 => (if bt249.2.2 = 0 then ((datum_May.f t233 0 bt249.1).bind fun t252 => (if t252 = true then (some (t233, 0, bt249.1, wrap64 (t234 + bt249.2.1), 0)) else (some (0, 0, (⟨#[]⟩ : ByteArray), 0, 1)))) else (some (0, 0, (⟨#[]⟩ : ByteArray), 0, bt249.2.2)))) else (none)) else (none)) else (some (0, 0, (⟨#[]⟩ : ByteArray), 0, 1))))) else (some (0, 0, (⟨#[]⟩ : ByteArray), 0, t235))) = some (r1, r2, r3, r4, r5) := H
 have A2 := Aside0.mk A20
 clear A20
 by_cases c3 : t235 = 0
 rotate_left
 ·rw [if_neg c3] at H
  have c3b0 : (t235 == 0) = false := beq_eq_false_iff_ne.mpr c3
  have c3b1 : (t235 != 0) = true := bne_iff_ne.mpr c3
  simp only [Option.some.injEq, Prod.mk.injEq] at H
  obtain ⟨rfl, rfl, rfl, rfl, rfl⟩ := H
  go_enter Try.func56, Try.ntmps56
  go_wp2_with (first | ((with_reducible refine gate_dst (N := 2) rfl ?_); refine box_event ?hg (N := 2) ?hd (cs := #[.int .i64 0, .float .f64 0, .string (⟨#[]⟩ : ByteArray)]) (t := 54) ?hr ?_; (case hd => rfl); (case hg => rfl); (case hr => first | (go_simp; done) | (go_simp; rfl)); intro gb232 hg w100 hbox hb; have BK232 := Aside0.mk (hbox); have GW232 := bZ HB hg; have GE232 := bZ HB hg; replace HB := bW HB hb; clear hb hbox hg) | ((with_reducible refine gate_callee (f := 55) rfl ?_); refine gL (some 13) Try.func55 #[.slice A0 l0.length c0] ?_; (with_reducible refine (num_Get.calls k _ _ l0 t233 t234 t235 _ ?side1 ?side2 A2.out).mono ?_); (case side1 => repeat (first | exact (Kd.C_below HR0.out HB.out) | (with_reducible refine Kd.C_alloc ?_ _) | (with_reducible refine Kd.C_drewN ?_ _) | (with_reducible refine Kd.C_drew ?_))); (case side2 => exact HC0.out); rintro e w' ⟨rfl, ⟨nd, rfl⟩⟩; refine ⟨_, rfl, ?_⟩; (try (rw [drewN_self w100]; generalize hq_ : World.drewN w100 _ = w100; have n0_ := bE BK232 hq_.symm; have n1_ := bH HB hq_.symm; clear BK232 HB hq_; have BK232 := n0_; have HB := n1_; clear n0_ n1_)); obtain ⟨hcz101_0, hcz101_1, hcz101_2, hfz101_0, hfz101_1, hfz101_2⟩ := bf3 (w := w100) BK232))
  refine bodyPost_ret (results_ctt rfl _ _ gb232 54 #[.int .i64 0, .float .f64 0, .string (⟨#[]⟩ : ByteArray)] (0, 0) _ rfl (bR BK232) Try.underlying54 rfl (by kernel_rfl)) rfl ?_
  exact xB HB
 rw [if_pos c3] at H
 have c3b0 : (t235 == 0) = true := beq_iff_eq.mpr c3
 have c3b1 : (t235 != 0) = false := bne_eq_false_iff_eq.mpr c3
 clear c3
 by_cases c4 : t233 = 0
 ·rw [if_pos c4] at H
  have c4b0 : (t233 == 0) = true := beq_iff_eq.mpr c4
  have c4b1 : (t233 != 0) = false := bne_eq_false_iff_eq.mpr c4
  clear c4
  replace H := Option.bind_eq_some_iff.mp H
  obtain ⟨t237, A50, H⟩ := H
  replace H : (if t237 = true then (some (t233, 0, (⟨#[]⟩ : ByteArray), wrap64 (t234 + 0), 0)) else (some (0, 0, (⟨#[]⟩ : ByteArray), 0, 1))) = some (r1, r2, r3, r4, r5) := H
  have A5 := Aside0.mk A50
  clear A50
  by_cases c6 : t237 = true
  rotate_left
  ·replace c6 := Bool.eq_false_iff.mpr c6
   subst c6
   have H1 : (some (0, 0, (⟨#[]⟩ : ByteArray), 0, 1)) = some (r1, r2, r3, r4, r5) := by rw [if_neg (show ¬ (false = true) by decide)] at H; exact H
   clear H
   have H := H1
   clear H1
   simp only [Option.some.injEq, Prod.mk.injEq] at H
   obtain ⟨rfl, rfl, rfl, rfl, rfl⟩ := H
   go_enter Try.func56, Try.ntmps56
   go_wp2_with (first | ((with_reducible refine gate_dst (N := 2) rfl ?_); refine box_event ?hg (N := 2) ?hd (cs := #[.int .i64 0, .float .f64 0, .string (⟨#[]⟩ : ByteArray)]) (t := 54) ?hr ?_; (case hd => rfl); (case hg => rfl); (case hr => first | (go_simp; done) | (go_simp; rfl)); intro gb232 hg w14 hbox hb; have BK232 := Aside0.mk (hbox); have GW232 := bZ HB hg; have GE232 := bZ HB hg; replace HB := bW HB hb; clear hb hbox hg) | ((with_reducible refine gate_callee (f := 55) rfl ?_); refine gL (some 13) Try.func55 #[.slice A0 l0.length c0] ?_; (with_reducible refine (num_Get.calls k _ _ l0 t233 t234 t235 _ ?side1 ?side2 A2.out).mono ?_); (case side1 => repeat (first | exact (Kd.C_below HR0.out HB.out) | (with_reducible refine Kd.C_alloc ?_ _) | (with_reducible refine Kd.C_drewN ?_ _) | (with_reducible refine Kd.C_drew ?_))); (case side2 => exact HC0.out); rintro e w' ⟨rfl, ⟨nd, rfl⟩⟩; refine ⟨_, rfl, ?_⟩; (try (rw [drewN_self w14]; generalize hq_ : World.drewN w14 _ = w14; have n0_ := bE BK232 hq_.symm; have n1_ := bH HB hq_.symm; clear BK232 HB hq_; have BK232 := n0_; have HB := n1_; clear n0_ n1_))) | ((with_reducible refine gate_dst (N := 8) rfl ?_); refine box_event ?hg (N := 8) ?hd (cs := #[.int .i64 0, .float .f64 0, .string (⟨#[]⟩ : ByteArray)]) (t := 54) ?hr ?_; (case hd => rfl); (case hg => rfl); (case hr => first | (go_simp; done) | (go_simp; rfl)); intro gb236 hg w15 hbox hb; have BK236 := Aside0.mk (hbox); have GW236 := bZ HB hg; have GE236 := bZ HB hg; have NB232_236 := bL BK232 hg; have NB236_232 := bG BK232 hg; replace BK232 := bB BK232 hb; replace HB := bW HB hb; clear hb hbox hg; have hnb16 := NB236_232.out; have hnc16 := NB232_236.out; obtain ⟨hcz17_0, hcz17_1, hcz17_2, hfz17_0, hfz17_1, hfz17_2⟩ := bf3 (w := w15) BK236) | ((with_reducible refine gate_callee (f := 48) rfl ?_); refine gL (some 64) Try.func48 #[.agg #[.int .i64 t233, .float .f64 0, .string (⟨#[]⟩ : ByteArray)]] ?_; (with_reducible refine (datum_May.calls t233 0 (⟨#[]⟩ : ByteArray) false _ A5.out).mono ?_); rintro e w18 ⟨rfl, hb⟩; refine ⟨_, rfl, ?_⟩; replace BK232 := bB BK232 hb; replace BK236 := Aside0.mk (blk_below (g := gb236) (o := .cells #[.int .i64 t233, .float .f64 0, .string (⟨#[]⟩ : ByteArray)] 54 (0, 0)) (bR BK236) hb); replace HB := bW HB hb; (try clear hb); (try clear hb2); (try clear hk); (try clear hi); obtain ⟨hcz19_0, hcz19_1, hcz19_2, hfz19_0, hfz19_1, hfz19_2⟩ := bf3 (w := w18) BK232))
   refine bodyPost_ret (results_ctt rfl _ _ gb232 54 #[.int .i64 0, .float .f64 0, .string (⟨#[]⟩ : ByteArray)] (0, 0) _ rfl (bR BK232) Try.underlying54 rfl (by kernel_rfl)) rfl ?_
   exact xB HB
  subst c6
  have H1 : (some (t233, 0, (⟨#[]⟩ : ByteArray), wrap64 (t234 + 0), 0)) = some (r1, r2, r3, r4, r5) := by rw [if_pos rfl] at H; exact H
  clear H
  have H := H1
  clear H1
  simp only [Option.some.injEq, Prod.mk.injEq] at H
  obtain ⟨rfl, rfl, rfl, rfl, rfl⟩ := H
  go_enter Try.func56, Try.ntmps56
  go_wp2_with (first | ((with_reducible refine gate_dst (N := 2) rfl ?_); refine box_event ?hg (N := 2) ?hd (cs := #[.int .i64 0, .float .f64 0, .string (⟨#[]⟩ : ByteArray)]) (t := 54) ?hr ?_; (case hd => rfl); (case hg => rfl); (case hr => first | (go_simp; done) | (go_simp; rfl)); intro gb232 hg w7 hbox hb; have BK232 := Aside0.mk (hbox); have GW232 := bZ HB hg; have GE232 := bZ HB hg; replace HB := bW HB hb; clear hb hbox hg) | ((with_reducible refine gate_callee (f := 55) rfl ?_); refine gL (some 13) Try.func55 #[.slice A0 l0.length c0] ?_; (with_reducible refine (num_Get.calls k _ _ l0 t233 t234 t235 _ ?side1 ?side2 A2.out).mono ?_); (case side1 => repeat (first | exact (Kd.C_below HR0.out HB.out) | (with_reducible refine Kd.C_alloc ?_ _) | (with_reducible refine Kd.C_drewN ?_ _) | (with_reducible refine Kd.C_drew ?_))); (case side2 => exact HC0.out); rintro e w' ⟨rfl, ⟨nd, rfl⟩⟩; refine ⟨_, rfl, ?_⟩; (try (rw [drewN_self w7]; generalize hq_ : World.drewN w7 _ = w7; have n0_ := bE BK232 hq_.symm; have n1_ := bH HB hq_.symm; clear BK232 HB hq_; have BK232 := n0_; have HB := n1_; clear n0_ n1_))) | ((with_reducible refine gate_dst (N := 8) rfl ?_); refine box_event ?hg (N := 8) ?hd (cs := #[.int .i64 0, .float .f64 0, .string (⟨#[]⟩ : ByteArray)]) (t := 54) ?hr ?_; (case hd => rfl); (case hg => rfl); (case hr => first | (go_simp; done) | (go_simp; rfl)); intro gb236 hg w8 hbox hb; have BK236 := Aside0.mk (hbox); have GW236 := bZ HB hg; have GE236 := bZ HB hg; have NB232_236 := bL BK232 hg; have NB236_232 := bG BK232 hg; replace BK232 := bB BK232 hb; replace HB := bW HB hb; clear hb hbox hg; have hnb9 := NB236_232.out; have hnc9 := NB232_236.out; obtain ⟨hcz10_0, hcz10_1, hcz10_2, hfz10_0, hfz10_1, hfz10_2⟩ := bf3 (w := w8) BK236) | ((with_reducible refine gate_callee (f := 48) rfl ?_); refine gL (some 64) Try.func48 #[.agg #[.int .i64 t233, .float .f64 0, .string (⟨#[]⟩ : ByteArray)]] ?_; (with_reducible refine (datum_May.calls t233 0 (⟨#[]⟩ : ByteArray) true _ A5.out).mono ?_); rintro e w11 ⟨rfl, hb⟩; refine ⟨_, rfl, ?_⟩; replace BK232 := bB BK232 hb; replace BK236 := Aside0.mk (blk_below (g := gb236) (o := .cells #[.int .i64 t233, .float .f64 0, .string (⟨#[]⟩ : ByteArray)] 54 (0, 0)) (bR BK236) hb); replace HB := bW HB hb; (try clear hb); (try clear hb2); (try clear hk); (try clear hi); obtain ⟨hcz12_0, hcz12_1, hcz12_2, hfz12_0, hfz12_1, hfz12_2⟩ := bf3 (w := w11) BK236; obtain ⟨hcz13_0, hcz13_1, hcz13_2, hfz13_0, hfz13_1, hfz13_2⟩ := bf3 (w := w11) BK232))
  refine bodyPost_ret (results_ctt rfl _ _ gb232 54 #[.int .i64 t233, .float .f64 0, .string (⟨#[]⟩ : ByteArray)] (0, 0) _ rfl (bR BK232) Try.underlying54 rfl (by kernel_rfl)) rfl ?_
  exact xB HB
 rw [if_neg c4] at H
 have c4b0 : (t233 == 0) = false := beq_eq_false_iff_ne.mpr c4
 have c4b1 : (t233 != 0) = true := bne_iff_ne.mpr c4
 by_cases c20 : t233 = 1
 rotate_left
 ·rw [if_neg c20] at H
  have c20b0 : (t233 == 1) = false := beq_eq_false_iff_ne.mpr c20
  have c20b1 : (t233 != 1) = true := bne_iff_ne.mpr c20
  by_cases c61 : t233 = 2
  rotate_left
  ·rw [if_neg c61] at H
   have c61b0 : (t233 == 2) = false := beq_eq_false_iff_ne.mpr c61
   have c61b1 : (t233 != 2) = true := bne_iff_ne.mpr c61
   simp only [Option.some.injEq, Prod.mk.injEq] at H
   obtain ⟨rfl, rfl, rfl, rfl, rfl⟩ := H
   go_enter Try.func56, Try.ntmps56
   go_wp2_with (first | ((with_reducible refine gate_dst (N := 2) rfl ?_); refine box_event ?hg (N := 2) ?hd (cs := #[.int .i64 0, .float .f64 0, .string (⟨#[]⟩ : ByteArray)]) (t := 54) ?hr ?_; (case hd => rfl); (case hg => rfl); (case hr => first | (go_simp; done) | (go_simp; rfl)); intro gb232 hg w95 hbox hb; have BK232 := Aside0.mk (hbox); have GW232 := bZ HB hg; have GE232 := bZ HB hg; replace HB := bW HB hb; clear hb hbox hg) | ((with_reducible refine gate_callee (f := 55) rfl ?_); refine gL (some 13) Try.func55 #[.slice A0 l0.length c0] ?_; (with_reducible refine (num_Get.calls k _ _ l0 t233 t234 t235 _ ?side1 ?side2 A2.out).mono ?_); (case side1 => repeat (first | exact (Kd.C_below HR0.out HB.out) | (with_reducible refine Kd.C_alloc ?_ _) | (with_reducible refine Kd.C_drewN ?_ _) | (with_reducible refine Kd.C_drew ?_))); (case side2 => exact HC0.out); rintro e w' ⟨rfl, ⟨nd, rfl⟩⟩; refine ⟨_, rfl, ?_⟩; (try (rw [drewN_self w95]; generalize hq_ : World.drewN w95 _ = w95; have n0_ := bE BK232 hq_.symm; have n1_ := bH HB hq_.symm; clear BK232 HB hq_; have BK232 := n0_; have HB := n1_; clear n0_ n1_))) | ((with_reducible refine gate_dst (N := 8) rfl ?_); refine box_event ?hg (N := 8) ?hd (cs := #[.int .i64 0, .float .f64 0, .string (⟨#[]⟩ : ByteArray)]) (t := 54) ?hr ?_; (case hd => rfl); (case hg => rfl); (case hr => first | (go_simp; done) | (go_simp; rfl)); intro gb236 hg w96 hbox hb; have BK236 := Aside0.mk (hbox); have GW236 := bZ HB hg; have GE236 := bZ HB hg; have NB232_236 := bL BK232 hg; have NB236_232 := bG BK232 hg; replace BK232 := bB BK232 hb; replace HB := bW HB hb; clear hb hbox hg; have hnb97 := NB236_232.out; have hnc97 := NB232_236.out; obtain ⟨hcz98_0, hcz98_1, hcz98_2, hfz98_0, hfz98_1, hfz98_2⟩ := bf3 (w := w96) BK236; obtain ⟨hcz99_0, hcz99_1, hcz99_2, hfz99_0, hfz99_1, hfz99_2⟩ := bf3 (w := w96) BK232))
   refine bodyPost_ret (results_ctt rfl _ _ gb232 54 #[.int .i64 0, .float .f64 0, .string (⟨#[]⟩ : ByteArray)] (0, 0) _ rfl (bR BK232) Try.underlying54 rfl (by kernel_rfl)) rfl ?_
   exact xB HB
  rw [if_pos c61] at H
  have c61b0 : (t233 == 2) = true := beq_iff_eq.mpr c61
  have c61b1 : (t233 != 2) = false := bne_eq_false_iff_eq.mpr c61
  clear c61
  by_cases c62 : 0 ≤ t234
  rotate_left
  ·rw [if_neg c62] at H
   exact absurd H (by simp)
  rw [if_pos c62] at H
  have c62b0 := eq_true c62
  have c62b1 : decide (0 ≤ t234) = true := decide_eq_true c62
  clear c62
  by_cases c63 : t234 ≤ (l0.length : Int)
  rotate_left
  ·rw [if_neg c63] at H
   exact absurd H (by simp)
  rw [if_pos c63] at H
  have c63b0 := eq_true c63
  have c63b1 : decide (t234 ≤ (l0.length : Int)) = true := decide_eq_true c63
  clear c63
  obtain ⟨y245, hy245⟩ : ∃ y_ : List Int, y_ = (l0.drop (t234 : Int).toNat) := ⟨_, rfl⟩
  replace H : ((num_GetText.f k y245).bind fun bt249 => (if bt249.2.2 = 0 then ((datum_May.f t233 0 bt249.1).bind fun t252 => (if t252 = true then (some (t233, 0, bt249.1, wrap64 (t234 + bt249.2.1), 0)) else (some (0, 0, (⟨#[]⟩ : ByteArray), 0, 1)))) else (some (0, 0, (⟨#[]⟩ : ByteArray), 0, bt249.2.2)))) = some (r1, r2, r3, r4, r5) := by first | (rw [hy245]; with_reducible exact H) | (have H2_ := (Option.bind_some _ _).symm.trans H; rw [hy245]; with_reducible exact H2_) | (have H2_ := (Option.bind_some _ _).symm.trans H; with_reducible exact H2_) | with_reducible exact H | (rw [hy245]; exact H) | exact H
  have Ny245 := Aside0.mk hy245
  clear hy245
  replace H := Option.bind_eq_some_iff.mp H
  obtain ⟨⟨t249, t250, t251⟩, A640, H⟩ := H
  replace H : (if t251 = 0 then ((datum_May.f t233 0 t249).bind fun t252 => (if t252 = true then (some (t233, 0, t249, wrap64 (t234 + t250), 0)) else (some (0, 0, (⟨#[]⟩ : ByteArray), 0, 1)))) else (some (0, 0, (⟨#[]⟩ : ByteArray), 0, t251))) = some (r1, r2, r3, r4, r5) := H
  have A64 := Aside0.mk A640
  clear A640
  by_cases c65 : t251 = 0
  rotate_left
  ·rw [if_neg c65] at H
   have c65b0 : (t251 == 0) = false := beq_eq_false_iff_ne.mpr c65
   have c65b1 : (t251 != 0) = true := bne_iff_ne.mpr c65
   simp only [Option.some.injEq, Prod.mk.injEq] at H
   obtain ⟨rfl, rfl, rfl, rfl, rfl⟩ := H
   go_enter Try.func56, Try.ntmps56
   go_wp2_with (first | ((with_reducible refine gate_dst (N := 2) rfl ?_); refine box_event ?hg (N := 2) ?hd (cs := #[.int .i64 0, .float .f64 0, .string (⟨#[]⟩ : ByteArray)]) (t := 54) ?hr ?_; (case hd => rfl); (case hg => rfl); (case hr => first | (go_simp; done) | (go_simp; rfl)); intro gb232 hg w87 hbox hb; have BK232 := Aside0.mk (hbox); have GW232 := bZ HB hg; have GE232 := bZ HB hg; replace HB := bW HB hb; clear hb hbox hg) | ((with_reducible refine gate_callee (f := 55) rfl ?_); refine gL (some 13) Try.func55 #[.slice A0 l0.length c0] ?_; (with_reducible refine (num_Get.calls k _ _ l0 t233 t234 t235 _ ?side1 ?side2 A2.out).mono ?_); (case side1 => repeat (first | exact (Kd.C_below HR0.out HB.out) | (with_reducible refine Kd.C_alloc ?_ _) | (with_reducible refine Kd.C_drewN ?_ _) | (with_reducible refine Kd.C_drew ?_))); (case side2 => exact HC0.out); rintro e w' ⟨rfl, ⟨nd, rfl⟩⟩; refine ⟨_, rfl, ?_⟩; (try (rw [drewN_self w87]; generalize hq_ : World.drewN w87 _ = w87; have n0_ := bE BK232 hq_.symm; have n1_ := bH HB hq_.symm; clear BK232 HB hq_; have BK232 := n0_; have HB := n1_; clear n0_ n1_))) | ((with_reducible refine gate_dst (N := 8) rfl ?_); refine box_event ?hg (N := 8) ?hd (cs := #[.int .i64 0, .float .f64 0, .string (⟨#[]⟩ : ByteArray)]) (t := 54) ?hr ?_; (case hd => rfl); (case hg => rfl); (case hr => first | (go_simp; done) | (go_simp; rfl)); intro gb236 hg w88 hbox hb; have BK236 := Aside0.mk (hbox); have GW236 := bZ HB hg; have GE236 := bZ HB hg; have NB232_236 := bL BK232 hg; have NB236_232 := bG BK232 hg; replace BK232 := bB BK232 hb; replace HB := bW HB hb; clear hb hbox hg; have hnb89 := NB236_232.out; have hnc89 := NB232_236.out; obtain ⟨hcz90_0, hcz90_1, hcz90_2, hfz90_0, hfz90_1, hfz90_2⟩ := bf3 (w := w88) BK236) | ((with_reducible refine gate_store (t := 54) (p := 8) rfl ?_); refine store_event (t := 54) (p := 8) (v := ?vo_w91) (w1 := (((w88.setCell ⟨gb236, 0, none⟩ (.int .i64 t233)).setCell ⟨gb236, 1, none⟩ (.float .f64 0)).setCell ⟨gb236, 2, none⟩ (.string (⟨#[]⟩ : ByteArray)))) ?hg ?ho ?hn ?hr ?_; (case ho => rfl); (case hg => rfl); (case hn => rfl); (case hr => first | (go_simp; done) | (go_simp; rfl)); intro w91 hw; replace BK232 := bE BK232 hw; replace BK236 : Aside0 (w91.heap[gb236]? = some (.cells #[.int .i64 t233, .float .f64 0, .string (⟨#[]⟩ : ByteArray)] 54 (0, 0))) := bP BK236 hw; replace HB := bH HB hw; clear hw; have q92 : (t234 : Int) ≤ ((l0.length : Int) : Int) := of_decide_eq_true (by first | (with_reducible assumption) | assumption); obtain ⟨i092, hi092, _, hsz92, _⟩ := info_parts info5; have hroom92 : l0.length ≤ c0 := HC0.out; have hC92 : Kd.C (Kd.int .u8) _ A0 l0.length l0 := HR0.out; have q092 : (0 : Int) ≤ (t234 : Int) := of_decide_eq_true (by first | (with_reducible assumption) | assumption); have hcut92 := cut_from (P := Try.prog) 30 5 .i64 Try.underlying30 hi092 1 hsz92 A0 l0.length c0 t234 q092 q92; have hr92 := Kd.C_drop (m := (t234 : Int).toNat) (c := c0) hC92 (by omega) hroom92; obtain ⟨A92, hA92⟩ : ∃ A1, A1 = (if c0 = (t234 : Int).toNat then A0 else (A0 : Option Addr).map (·.add ((t234 : Int).toNat * 1))) := ⟨_, rfl⟩; obtain ⟨c92, hc92⟩ : ∃ c1, c1 = c0 - (t234 : Int).toNat := ⟨_, rfl⟩; have hy92 : y245.length = l0.length - (t234 : Int).toNat := (by rw [Ny245.out, List.length_drop] <;> omega); rw [show (l0).drop (t234 : Int).toNat = y245 from Ny245.out.symm] at hr92; replace hr92 : Kd.C (Kd.int .u8) _ A92 y245.length y245 := (by rw [hA92]; exact hr92); rw [← hy92, ← hA92, ← hc92] at hcut92; have HR248 := Aside0.mk hr92; have HC248 := Aside0.mk (show y245.length ≤ c92 from by rw [hy92, hc92]; exact Nat.sub_le_sub_right hroom92 _); clear hr92 hC92 hroom92 hi092 hsz92 hc92; have KY92 := Aside0.mk hy92; have KA92 := Aside0.mk hA92; clear hy92 hA92; replace q92 := eq_true q92) | ((with_reducible refine gate_callee (f := 41) rfl ?_); refine gL (some 54) Try.func41 #[.slice A92 y245.length c92] ?_; (with_reducible refine (num_GetText.calls k _ _ y245 t249 t250 t251 _ ?side1 ?side2 A64.out).mono ?_); (case side1 => repeat (first | exact (Kd.C_below HR248.out HB.out) | (with_reducible refine Kd.C_alloc ?_ _) | (with_reducible refine Kd.C_drewN ?_ _) | (with_reducible refine Kd.C_drew ?_))); (case side2 => exact HC248.out); rintro e w' ⟨rfl, ⟨nd, rfl⟩⟩; refine ⟨_, rfl, ?_⟩; (try (rw [drewN_self w91]; generalize hq_ : World.drewN w91 _ = w91; have n0_ := bE BK232 hq_.symm; have n1_ := bE BK236 hq_.symm; have n2_ := bH HB hq_.symm; clear BK232 BK236 HB hq_; have BK232 := n0_; have BK236 := n1_; have HB := n2_; clear n0_ n1_ n2_)); obtain ⟨hcz93_0, hcz93_1, hcz93_2, hfz93_0, hfz93_1, hfz93_2⟩ := bf3 (w := w91) BK236; obtain ⟨hcz94_0, hcz94_1, hcz94_2, hfz94_0, hfz94_1, hfz94_2⟩ := bf3 (w := w91) BK232))
   refine bodyPost_ret (results_ctt rfl _ _ gb232 54 #[.int .i64 0, .float .f64 0, .string (⟨#[]⟩ : ByteArray)] (0, 0) _ rfl (bR BK232) Try.underlying54 rfl (by kernel_rfl)) rfl ?_
   exact xB HB
  rw [if_pos c65] at H
  have c65b0 : (t251 == 0) = true := beq_iff_eq.mpr c65
  have c65b1 : (t251 != 0) = false := bne_eq_false_iff_eq.mpr c65
  clear c65
  replace H := Option.bind_eq_some_iff.mp H
  obtain ⟨t252, A660, H⟩ := H
  replace H : (if t252 = true then (some (t233, 0, t249, wrap64 (t234 + t250), 0)) else (some (0, 0, (⟨#[]⟩ : ByteArray), 0, 1))) = some (r1, r2, r3, r4, r5) := H
  have A66 := Aside0.mk A660
  clear A660
  by_cases c67 : t252 = true
  rotate_left
  ·replace c67 := Bool.eq_false_iff.mpr c67
   subst c67
   have H1 : (some (0, 0, (⟨#[]⟩ : ByteArray), 0, 1)) = some (r1, r2, r3, r4, r5) := by rw [if_neg (show ¬ (false = true) by decide)] at H; exact H
   clear H
   have H := H1
   clear H1
   simp only [Option.some.injEq, Prod.mk.injEq] at H
   obtain ⟨rfl, rfl, rfl, rfl, rfl⟩ := H
   go_enter Try.func56, Try.ntmps56
   go_wp2_with (first | ((with_reducible refine gate_dst (N := 2) rfl ?_); refine box_event ?hg (N := 2) ?hd (cs := #[.int .i64 0, .float .f64 0, .string (⟨#[]⟩ : ByteArray)]) (t := 54) ?hr ?_; (case hd => rfl); (case hg => rfl); (case hr => first | (go_simp; done) | (go_simp; rfl)); intro gb232 hg w78 hbox hb; have BK232 := Aside0.mk (hbox); have GW232 := bZ HB hg; have GE232 := bZ HB hg; replace HB := bW HB hb; clear hb hbox hg) | ((with_reducible refine gate_callee (f := 55) rfl ?_); refine gL (some 13) Try.func55 #[.slice A0 l0.length c0] ?_; (with_reducible refine (num_Get.calls k _ _ l0 t233 t234 t235 _ ?side1 ?side2 A2.out).mono ?_); (case side1 => repeat (first | exact (Kd.C_below HR0.out HB.out) | (with_reducible refine Kd.C_alloc ?_ _) | (with_reducible refine Kd.C_drewN ?_ _) | (with_reducible refine Kd.C_drew ?_))); (case side2 => exact HC0.out); rintro e w' ⟨rfl, ⟨nd, rfl⟩⟩; refine ⟨_, rfl, ?_⟩; (try (rw [drewN_self w78]; generalize hq_ : World.drewN w78 _ = w78; have n0_ := bE BK232 hq_.symm; have n1_ := bH HB hq_.symm; clear BK232 HB hq_; have BK232 := n0_; have HB := n1_; clear n0_ n1_))) | ((with_reducible refine gate_dst (N := 8) rfl ?_); refine box_event ?hg (N := 8) ?hd (cs := #[.int .i64 0, .float .f64 0, .string (⟨#[]⟩ : ByteArray)]) (t := 54) ?hr ?_; (case hd => rfl); (case hg => rfl); (case hr => first | (go_simp; done) | (go_simp; rfl)); intro gb236 hg w79 hbox hb; have BK236 := Aside0.mk (hbox); have GW236 := bZ HB hg; have GE236 := bZ HB hg; have NB232_236 := bL BK232 hg; have NB236_232 := bG BK232 hg; replace BK232 := bB BK232 hb; replace HB := bW HB hb; clear hb hbox hg; have hnb80 := NB236_232.out; have hnc80 := NB232_236.out; obtain ⟨hcz81_0, hcz81_1, hcz81_2, hfz81_0, hfz81_1, hfz81_2⟩ := bf3 (w := w79) BK236) | ((with_reducible refine gate_store (t := 54) (p := 8) rfl ?_); refine store_event (t := 54) (p := 8) (v := ?vo_w82) (w1 := (((w79.setCell ⟨gb236, 0, none⟩ (.int .i64 t233)).setCell ⟨gb236, 1, none⟩ (.float .f64 0)).setCell ⟨gb236, 2, none⟩ (.string (⟨#[]⟩ : ByteArray)))) ?hg ?ho ?hn ?hr ?_; (case ho => rfl); (case hg => rfl); (case hn => rfl); (case hr => first | (go_simp; done) | (go_simp; rfl)); intro w82 hw; replace BK232 := bE BK232 hw; replace BK236 : Aside0 (w82.heap[gb236]? = some (.cells #[.int .i64 t233, .float .f64 0, .string (⟨#[]⟩ : ByteArray)] 54 (0, 0))) := bP BK236 hw; replace HB := bH HB hw; clear hw; have q83 : (t234 : Int) ≤ ((l0.length : Int) : Int) := of_decide_eq_true (by first | (with_reducible assumption) | assumption); obtain ⟨i083, hi083, _, hsz83, _⟩ := info_parts info5; have hroom83 : l0.length ≤ c0 := HC0.out; have hC83 : Kd.C (Kd.int .u8) _ A0 l0.length l0 := HR0.out; have q083 : (0 : Int) ≤ (t234 : Int) := of_decide_eq_true (by first | (with_reducible assumption) | assumption); have hcut83 := cut_from (P := Try.prog) 30 5 .i64 Try.underlying30 hi083 1 hsz83 A0 l0.length c0 t234 q083 q83; have hr83 := Kd.C_drop (m := (t234 : Int).toNat) (c := c0) hC83 (by omega) hroom83; obtain ⟨A83, hA83⟩ : ∃ A1, A1 = (if c0 = (t234 : Int).toNat then A0 else (A0 : Option Addr).map (·.add ((t234 : Int).toNat * 1))) := ⟨_, rfl⟩; obtain ⟨c83, hc83⟩ : ∃ c1, c1 = c0 - (t234 : Int).toNat := ⟨_, rfl⟩; have hy83 : y245.length = l0.length - (t234 : Int).toNat := (by rw [Ny245.out, List.length_drop] <;> omega); rw [show (l0).drop (t234 : Int).toNat = y245 from Ny245.out.symm] at hr83; replace hr83 : Kd.C (Kd.int .u8) _ A83 y245.length y245 := (by rw [hA83]; exact hr83); rw [← hy83, ← hA83, ← hc83] at hcut83; have HR248 := Aside0.mk hr83; have HC248 := Aside0.mk (show y245.length ≤ c83 from by rw [hy83, hc83]; exact Nat.sub_le_sub_right hroom83 _); clear hr83 hC83 hroom83 hi083 hsz83 hc83; have KY83 := Aside0.mk hy83; have KA83 := Aside0.mk hA83; clear hy83 hA83; replace q83 := eq_true q83) | ((with_reducible refine gate_callee (f := 41) rfl ?_); refine gL (some 54) Try.func41 #[.slice A83 y245.length c83] ?_; (with_reducible refine (num_GetText.calls k _ _ y245 t249 t250 t251 _ ?side1 ?side2 A64.out).mono ?_); (case side1 => repeat (first | exact (Kd.C_below HR248.out HB.out) | (with_reducible refine Kd.C_alloc ?_ _) | (with_reducible refine Kd.C_drewN ?_ _) | (with_reducible refine Kd.C_drew ?_))); (case side2 => exact HC248.out); rintro e w' ⟨rfl, ⟨nd, rfl⟩⟩; refine ⟨_, rfl, ?_⟩; (try (rw [drewN_self w82]; generalize hq_ : World.drewN w82 _ = w82; have n0_ := bE BK232 hq_.symm; have n1_ := bE BK236 hq_.symm; have n2_ := bH HB hq_.symm; clear BK232 BK236 HB hq_; have BK232 := n0_; have BK236 := n1_; have HB := n2_; clear n0_ n1_ n2_)); obtain ⟨hcz84_0, hcz84_1, hcz84_2, hfz84_0, hfz84_1, hfz84_2⟩ := bf3 (w := w82) BK236) | ((with_reducible refine gate_callee (f := 48) rfl ?_); refine gL (some 64) Try.func48 #[.agg #[.int .i64 t233, .float .f64 0, .string t249]] ?_; (with_reducible refine (datum_May.calls t233 0 t249 false _ A66.out).mono ?_); rintro e w85 ⟨rfl, hb⟩; refine ⟨_, rfl, ?_⟩; replace BK232 := bB BK232 hb; replace BK236 := Aside0.mk (blk_below (g := gb236) (o := .cells #[.int .i64 t233, .float .f64 0, .string t249] 54 (0, 0)) (bR BK236) hb); replace HB := bW HB hb; (try clear hb); (try clear hb2); (try clear hk); (try clear hi); obtain ⟨hcz86_0, hcz86_1, hcz86_2, hfz86_0, hfz86_1, hfz86_2⟩ := bf3 (w := w85) BK232))
   refine bodyPost_ret (results_ctt rfl _ _ gb232 54 #[.int .i64 0, .float .f64 0, .string (⟨#[]⟩ : ByteArray)] (0, 0) _ rfl (bR BK232) Try.underlying54 rfl (by kernel_rfl)) rfl ?_
   exact xB HB
  subst c67
  have H1 : (some (t233, 0, t249, wrap64 (t234 + t250), 0)) = some (r1, r2, r3, r4, r5) := by rw [if_pos rfl] at H; exact H
  clear H
  have H := H1
  clear H1
  simp only [Option.some.injEq, Prod.mk.injEq] at H
  obtain ⟨rfl, rfl, rfl, rfl, rfl⟩ := H
  go_enter Try.func56, Try.ntmps56
  go_wp2_with (first | ((with_reducible refine gate_dst (N := 2) rfl ?_); refine box_event ?hg (N := 2) ?hd (cs := #[.int .i64 0, .float .f64 0, .string (⟨#[]⟩ : ByteArray)]) (t := 54) ?hr ?_; (case hd => rfl); (case hg => rfl); (case hr => first | (go_simp; done) | (go_simp; rfl)); intro gb232 hg w68 hbox hb; have BK232 := Aside0.mk (hbox); have GW232 := bZ HB hg; have GE232 := bZ HB hg; replace HB := bW HB hb; clear hb hbox hg) | ((with_reducible refine gate_callee (f := 55) rfl ?_); refine gL (some 13) Try.func55 #[.slice A0 l0.length c0] ?_; (with_reducible refine (num_Get.calls k _ _ l0 t233 t234 t235 _ ?side1 ?side2 A2.out).mono ?_); (case side1 => repeat (first | exact (Kd.C_below HR0.out HB.out) | (with_reducible refine Kd.C_alloc ?_ _) | (with_reducible refine Kd.C_drewN ?_ _) | (with_reducible refine Kd.C_drew ?_))); (case side2 => exact HC0.out); rintro e w' ⟨rfl, ⟨nd, rfl⟩⟩; refine ⟨_, rfl, ?_⟩; (try (rw [drewN_self w68]; generalize hq_ : World.drewN w68 _ = w68; have n0_ := bE BK232 hq_.symm; have n1_ := bH HB hq_.symm; clear BK232 HB hq_; have BK232 := n0_; have HB := n1_; clear n0_ n1_))) | ((with_reducible refine gate_dst (N := 8) rfl ?_); refine box_event ?hg (N := 8) ?hd (cs := #[.int .i64 0, .float .f64 0, .string (⟨#[]⟩ : ByteArray)]) (t := 54) ?hr ?_; (case hd => rfl); (case hg => rfl); (case hr => first | (go_simp; done) | (go_simp; rfl)); intro gb236 hg w69 hbox hb; have BK236 := Aside0.mk (hbox); have GW236 := bZ HB hg; have GE236 := bZ HB hg; have NB232_236 := bL BK232 hg; have NB236_232 := bG BK232 hg; replace BK232 := bB BK232 hb; replace HB := bW HB hb; clear hb hbox hg; have hnb70 := NB236_232.out; have hnc70 := NB232_236.out; obtain ⟨hcz71_0, hcz71_1, hcz71_2, hfz71_0, hfz71_1, hfz71_2⟩ := bf3 (w := w69) BK236) | ((with_reducible refine gate_store (t := 54) (p := 8) rfl ?_); refine store_event (t := 54) (p := 8) (v := ?vo_w72) (w1 := (((w69.setCell ⟨gb236, 0, none⟩ (.int .i64 t233)).setCell ⟨gb236, 1, none⟩ (.float .f64 0)).setCell ⟨gb236, 2, none⟩ (.string (⟨#[]⟩ : ByteArray)))) ?hg ?ho ?hn ?hr ?_; (case ho => rfl); (case hg => rfl); (case hn => rfl); (case hr => first | (go_simp; done) | (go_simp; rfl)); intro w72 hw; replace BK232 := bE BK232 hw; replace BK236 : Aside0 (w72.heap[gb236]? = some (.cells #[.int .i64 t233, .float .f64 0, .string (⟨#[]⟩ : ByteArray)] 54 (0, 0))) := bP BK236 hw; replace HB := bH HB hw; clear hw; have q73 : (t234 : Int) ≤ ((l0.length : Int) : Int) := of_decide_eq_true (by first | (with_reducible assumption) | assumption); obtain ⟨i073, hi073, _, hsz73, _⟩ := info_parts info5; have hroom73 : l0.length ≤ c0 := HC0.out; have hC73 : Kd.C (Kd.int .u8) _ A0 l0.length l0 := HR0.out; have q073 : (0 : Int) ≤ (t234 : Int) := of_decide_eq_true (by first | (with_reducible assumption) | assumption); have hcut73 := cut_from (P := Try.prog) 30 5 .i64 Try.underlying30 hi073 1 hsz73 A0 l0.length c0 t234 q073 q73; have hr73 := Kd.C_drop (m := (t234 : Int).toNat) (c := c0) hC73 (by omega) hroom73; obtain ⟨A73, hA73⟩ : ∃ A1, A1 = (if c0 = (t234 : Int).toNat then A0 else (A0 : Option Addr).map (·.add ((t234 : Int).toNat * 1))) := ⟨_, rfl⟩; obtain ⟨c73, hc73⟩ : ∃ c1, c1 = c0 - (t234 : Int).toNat := ⟨_, rfl⟩; have hy73 : y245.length = l0.length - (t234 : Int).toNat := (by rw [Ny245.out, List.length_drop] <;> omega); rw [show (l0).drop (t234 : Int).toNat = y245 from Ny245.out.symm] at hr73; replace hr73 : Kd.C (Kd.int .u8) _ A73 y245.length y245 := (by rw [hA73]; exact hr73); rw [← hy73, ← hA73, ← hc73] at hcut73; have HR248 := Aside0.mk hr73; have HC248 := Aside0.mk (show y245.length ≤ c73 from by rw [hy73, hc73]; exact Nat.sub_le_sub_right hroom73 _); clear hr73 hC73 hroom73 hi073 hsz73 hc73; have KY73 := Aside0.mk hy73; have KA73 := Aside0.mk hA73; clear hy73 hA73; replace q73 := eq_true q73) | ((with_reducible refine gate_callee (f := 41) rfl ?_); refine gL (some 54) Try.func41 #[.slice A73 y245.length c73] ?_; (with_reducible refine (num_GetText.calls k _ _ y245 t249 t250 t251 _ ?side1 ?side2 A64.out).mono ?_); (case side1 => repeat (first | exact (Kd.C_below HR248.out HB.out) | (with_reducible refine Kd.C_alloc ?_ _) | (with_reducible refine Kd.C_drewN ?_ _) | (with_reducible refine Kd.C_drew ?_))); (case side2 => exact HC248.out); rintro e w' ⟨rfl, ⟨nd, rfl⟩⟩; refine ⟨_, rfl, ?_⟩; (try (rw [drewN_self w72]; generalize hq_ : World.drewN w72 _ = w72; have n0_ := bE BK232 hq_.symm; have n1_ := bE BK236 hq_.symm; have n2_ := bH HB hq_.symm; clear BK232 BK236 HB hq_; have BK232 := n0_; have BK236 := n1_; have HB := n2_; clear n0_ n1_ n2_)); obtain ⟨hcz74_0, hcz74_1, hcz74_2, hfz74_0, hfz74_1, hfz74_2⟩ := bf3 (w := w72) BK236) | ((with_reducible refine gate_callee (f := 48) rfl ?_); refine gL (some 64) Try.func48 #[.agg #[.int .i64 t233, .float .f64 0, .string t249]] ?_; (with_reducible refine (datum_May.calls t233 0 t249 true _ A66.out).mono ?_); rintro e w75 ⟨rfl, hb⟩; refine ⟨_, rfl, ?_⟩; replace BK232 := bB BK232 hb; replace BK236 := Aside0.mk (blk_below (g := gb236) (o := .cells #[.int .i64 t233, .float .f64 0, .string t249] 54 (0, 0)) (bR BK236) hb); replace HB := bW HB hb; (try clear hb); (try clear hb2); (try clear hk); (try clear hi); obtain ⟨hcz76_0, hcz76_1, hcz76_2, hfz76_0, hfz76_1, hfz76_2⟩ := bf3 (w := w75) BK236; obtain ⟨hcz77_0, hcz77_1, hcz77_2, hfz77_0, hfz77_1, hfz77_2⟩ := bf3 (w := w75) BK232))
  refine bodyPost_ret (results_ctt rfl _ _ gb232 54 #[.int .i64 t233, .float .f64 0, .string t249] (0, 0) _ rfl (bR BK232) Try.underlying54 rfl (by kernel_rfl)) rfl ?_
  exact xB HB
 rw [if_pos c20] at H
 have c20b0 : (t233 == 1) = true := beq_iff_eq.mpr c20
 have c20b1 : (t233 != 1) = false := bne_eq_false_iff_eq.mpr c20
 clear c20
 by_cases c21 : (wrap64 ((l0.length : Int) - t234)) < 8
 ·rw [if_pos c21] at H
  have c21b0 : decide ((wrap64 ((l0.length : Int) - t234)) < 8) = true := decide_eq_true c21
  clear c21
  simp only [Option.some.injEq, Prod.mk.injEq] at H
  obtain ⟨rfl, rfl, rfl, rfl, rfl⟩ := H
  go_enter Try.func56, Try.ntmps56
  go_wp2_with (first | ((with_reducible refine gate_dst (N := 2) rfl ?_); refine box_event ?hg (N := 2) ?hd (cs := #[.int .i64 0, .float .f64 0, .string (⟨#[]⟩ : ByteArray)]) (t := 54) ?hr ?_; (case hd => rfl); (case hg => rfl); (case hr => first | (go_simp; done) | (go_simp; rfl)); intro gb232 hg w22 hbox hb; have BK232 := Aside0.mk (hbox); have GW232 := bZ HB hg; have GE232 := bZ HB hg; replace HB := bW HB hb; clear hb hbox hg) | ((with_reducible refine gate_callee (f := 55) rfl ?_); refine gL (some 13) Try.func55 #[.slice A0 l0.length c0] ?_; (with_reducible refine (num_Get.calls k _ _ l0 t233 t234 t235 _ ?side1 ?side2 A2.out).mono ?_); (case side1 => repeat (first | exact (Kd.C_below HR0.out HB.out) | (with_reducible refine Kd.C_alloc ?_ _) | (with_reducible refine Kd.C_drewN ?_ _) | (with_reducible refine Kd.C_drew ?_))); (case side2 => exact HC0.out); rintro e w' ⟨rfl, ⟨nd, rfl⟩⟩; refine ⟨_, rfl, ?_⟩; (try (rw [drewN_self w22]; generalize hq_ : World.drewN w22 _ = w22; have n0_ := bE BK232 hq_.symm; have n1_ := bH HB hq_.symm; clear BK232 HB hq_; have BK232 := n0_; have HB := n1_; clear n0_ n1_))) | ((with_reducible refine gate_dst (N := 8) rfl ?_); refine box_event ?hg (N := 8) ?hd (cs := #[.int .i64 0, .float .f64 0, .string (⟨#[]⟩ : ByteArray)]) (t := 54) ?hr ?_; (case hd => rfl); (case hg => rfl); (case hr => first | (go_simp; done) | (go_simp; rfl)); intro gb236 hg w23 hbox hb; have BK236 := Aside0.mk (hbox); have GW236 := bZ HB hg; have GE236 := bZ HB hg; have NB232_236 := bL BK232 hg; have NB236_232 := bG BK232 hg; replace BK232 := bB BK232 hb; replace HB := bW HB hb; clear hb hbox hg; have hnb24 := NB236_232.out; have hnc24 := NB232_236.out; obtain ⟨hcz25_0, hcz25_1, hcz25_2, hfz25_0, hfz25_1, hfz25_2⟩ := bf3 (w := w23) BK236; obtain ⟨hcz26_0, hcz26_1, hcz26_2, hfz26_0, hfz26_1, hfz26_2⟩ := bf3 (w := w23) BK232))
  refine bodyPost_ret (results_ctt rfl _ _ gb232 54 #[.int .i64 0, .float .f64 0, .string (⟨#[]⟩ : ByteArray)] (0, 0) _ rfl (bR BK232) Try.underlying54 rfl (by kernel_rfl)) rfl ?_
  exact xB HB
 rw [if_neg c21] at H
 have c21b0 : decide ((wrap64 ((l0.length : Int) - t234)) < 8) = false := decide_eq_false c21
 clear c21
 by_cases c27 : 0 ≤ t234
 rotate_left
 ·rw [if_neg c27] at H
  exact absurd H (by simp)
 rw [if_pos c27] at H
 have c27b0 := eq_true c27
 have c27b1 : decide (0 ≤ t234) = true := decide_eq_true c27
 clear c27
 by_cases c28 : t234 ≤ (wrap64 (t234 + 8))
 rotate_left
 ·rw [if_neg c28] at H
  exact absurd H (by simp)
 rw [if_pos c28] at H
 have c28b0 := eq_true c28
 have c28b1 : decide (t234 ≤ (wrap64 (t234 + 8))) = true := decide_eq_true c28
 by_cases c29 : (wrap64 (t234 + 8)) ≤ (l0.length : Int)
 rotate_left
 ·rw [if_neg c29] at H
  exact absurd H (by simp)
 rw [if_pos c29] at H
 have c29b0 := eq_true c29
 have c29b1 : decide ((wrap64 (t234 + 8)) ≤ (l0.length : Int)) = true := decide_eq_true c29
 obtain ⟨y238, hy238⟩ : ∃ y_ : List Int, y_ = ((l0.take ((wrap64 (t234 + 8)) : Int).toNat).drop (t234 : Int).toNat) := ⟨_, rfl⟩
 replace H : ((float_Of.f k y238).bind fun bt242 => (if bt242.2 = true then ((datum_May.f t233 bt242.1 (⟨#[]⟩ : ByteArray)).bind fun t244 => (if t244 = true then (some (t233, bt242.1, (⟨#[]⟩ : ByteArray), wrap64 (t234 + 8), 0)) else (some (0, 0, (⟨#[]⟩ : ByteArray), 0, 1)))) else (some (0, 0, (⟨#[]⟩ : ByteArray), 0, 1)))) = some (r1, r2, r3, r4, r5) := by first | (rw [hy238]; with_reducible exact H) | (have H2_ := (Option.bind_some _ _).symm.trans H; rw [hy238]; with_reducible exact H2_) | (have H2_ := (Option.bind_some _ _).symm.trans H; with_reducible exact H2_) | with_reducible exact H | (rw [hy238]; exact H) | exact H
 have Ny238 := Aside0.mk hy238
 clear hy238
 replace H := Option.bind_eq_some_iff.mp H
 obtain ⟨⟨t242, t243⟩, A300, H⟩ := H
 replace H : (if t243 = true then ((datum_May.f t233 t242 (⟨#[]⟩ : ByteArray)).bind fun t244 => (if t244 = true then (some (t233, t242, (⟨#[]⟩ : ByteArray), wrap64 (t234 + 8), 0)) else (some (0, 0, (⟨#[]⟩ : ByteArray), 0, 1)))) else (some (0, 0, (⟨#[]⟩ : ByteArray), 0, 1))) = some (r1, r2, r3, r4, r5) := H
 have A30 := Aside0.mk A300
 clear A300
 by_cases c31 : t243 = true
 rotate_left
 ·replace c31 := Bool.eq_false_iff.mpr c31
  subst c31
  have H1 : (some (0, 0, (⟨#[]⟩ : ByteArray), 0, 1)) = some (r1, r2, r3, r4, r5) := by rw [if_neg (show ¬ (false = true) by decide)] at H; exact H
  clear H
  have H := H1
  clear H1
  simp only [Option.some.injEq, Prod.mk.injEq] at H
  obtain ⟨rfl, rfl, rfl, rfl, rfl⟩ := H
  go_enter Try.func56, Try.ntmps56
  go_wp2_with (first | ((with_reducible refine gate_dst (N := 2) rfl ?_); refine box_event ?hg (N := 2) ?hd (cs := #[.int .i64 0, .float .f64 0, .string (⟨#[]⟩ : ByteArray)]) (t := 54) ?hr ?_; (case hd => rfl); (case hg => rfl); (case hr => first | (go_simp; done) | (go_simp; rfl)); intro gb232 hg w53 hbox hb; have BK232 := Aside0.mk (hbox); have GW232 := bZ HB hg; have GE232 := bZ HB hg; replace HB := bW HB hb; clear hb hbox hg) | ((with_reducible refine gate_callee (f := 55) rfl ?_); refine gL (some 13) Try.func55 #[.slice A0 l0.length c0] ?_; (with_reducible refine (num_Get.calls k _ _ l0 t233 t234 t235 _ ?side1 ?side2 A2.out).mono ?_); (case side1 => repeat (first | exact (Kd.C_below HR0.out HB.out) | (with_reducible refine Kd.C_alloc ?_ _) | (with_reducible refine Kd.C_drewN ?_ _) | (with_reducible refine Kd.C_drew ?_))); (case side2 => exact HC0.out); rintro e w' ⟨rfl, ⟨nd, rfl⟩⟩; refine ⟨_, rfl, ?_⟩; (try (rw [drewN_self w53]; generalize hq_ : World.drewN w53 _ = w53; have n0_ := bE BK232 hq_.symm; have n1_ := bH HB hq_.symm; clear BK232 HB hq_; have BK232 := n0_; have HB := n1_; clear n0_ n1_))) | ((with_reducible refine gate_dst (N := 8) rfl ?_); refine box_event ?hg (N := 8) ?hd (cs := #[.int .i64 0, .float .f64 0, .string (⟨#[]⟩ : ByteArray)]) (t := 54) ?hr ?_; (case hd => rfl); (case hg => rfl); (case hr => first | (go_simp; done) | (go_simp; rfl)); intro gb236 hg w54 hbox hb; have BK236 := Aside0.mk (hbox); have GW236 := bZ HB hg; have GE236 := bZ HB hg; have NB232_236 := bL BK232 hg; have NB236_232 := bG BK232 hg; replace BK232 := bB BK232 hb; replace HB := bW HB hb; clear hb hbox hg; have hnb55 := NB236_232.out; have hnc55 := NB232_236.out; obtain ⟨hcz56_0, hcz56_1, hcz56_2, hfz56_0, hfz56_1, hfz56_2⟩ := bf3 (w := w54) BK236) | ((with_reducible refine gate_store (t := 54) (p := 8) rfl ?_); refine store_event (t := 54) (p := 8) (v := ?vo_w57) (w1 := (((w54.setCell ⟨gb236, 0, none⟩ (.int .i64 t233)).setCell ⟨gb236, 1, none⟩ (.float .f64 0)).setCell ⟨gb236, 2, none⟩ (.string (⟨#[]⟩ : ByteArray)))) ?hg ?ho ?hn ?hr ?_; (case ho => rfl); (case hg => rfl); (case hn => rfl); (case hr => first | (go_simp; done) | (go_simp; rfl)); intro w57 hw; replace BK232 := bE BK232 hw; replace BK236 : Aside0 (w57.heap[gb236]? = some (.cells #[.int .i64 t233, .float .f64 0, .string (⟨#[]⟩ : ByteArray)] 54 (0, 0))) := bP BK236 hw; replace HB := bH HB hw; clear hw; have q58 : ((wrap64 (t234 + 8)) : Int) ≤ ((l0.length : Int) : Int) := of_decide_eq_true (by first | (with_reducible assumption) | assumption); obtain ⟨i058, hi058, _, hsz58, _⟩ := info_parts info5; have hroom58 : l0.length ≤ c0 := HC0.out; have hC58 : Kd.C (Kd.int .u8) _ A0 l0.length l0 := HR0.out; have ql58 : (t234 : Int) ≤ ((wrap64 (t234 + 8)) : Int) := of_decide_eq_true (by first | (with_reducible assumption) | assumption); have q058 : (0 : Int) ≤ (t234 : Int) := of_decide_eq_true (by first | (with_reducible assumption) | assumption); have hcut58 := cut_mid (P := Try.prog) 30 5 .i64 .i64 Try.underlying30 hi058 1 hsz58 A0 l0.length c0 t234 (wrap64 (t234 + 8)) q058 ql58 q58 hroom58; have hr58 := Kd.C_mid (lo := (t234 : Int).toNat) (hi := ((wrap64 (t234 + 8)) : Int).toNat) (c := c0) hC58 (by omega) (by omega) hroom58; obtain ⟨A58, hA58⟩ : ∃ A1, A1 = (if c0 = (t234 : Int).toNat then A0 else (A0 : Option Addr).map (·.add ((t234 : Int).toNat * 1))) := ⟨_, rfl⟩; obtain ⟨c58, hc58⟩ : ∃ c1, c1 = c0 - (t234 : Int).toNat := ⟨_, rfl⟩; have hy58 : y238.length = ((wrap64 (t234 + 8)) : Int).toNat - (t234 : Int).toNat := (by rw [Ny238.out, List.length_drop, List.length_take] <;> omega); rw [show ((l0).take ((wrap64 (t234 + 8)) : Int).toNat).drop (t234 : Int).toNat = y238 from Ny238.out.symm] at hr58; replace hr58 : Kd.C (Kd.int .u8) _ A58 y238.length y238 := (by rw [hA58]; exact hr58); rw [← hy58, ← hA58, ← hc58] at hcut58; have HR241 := Aside0.mk hr58; have HC241 := Aside0.mk (show y238.length ≤ c58 from by rw [hy58, hc58]; exact Nat.sub_le_sub_right (Nat.le_trans (by omega) hroom58) _); clear hr58 hC58 hroom58 hi058 hsz58 hc58; have KY58 := Aside0.mk hy58; have KA58 := Aside0.mk hA58; clear hy58 hA58; replace q58 := eq_true q58) | ((with_reducible refine gate_callee (f := 67) rfl ?_); refine gL (some 41) Try.func67 #[.slice A58 y238.length c58] ?_; (with_reducible refine (float_Of.calls k _ _ y238 t242 false _ ?side1 ?side2 A30.out).mono ?_); (case side1 => repeat (first | exact (Kd.C_below HR241.out HB.out) | (with_reducible refine Kd.C_alloc ?_ _) | (with_reducible refine Kd.C_drewN ?_ _) | (with_reducible refine Kd.C_drew ?_))); (case side2 => exact HC241.out); rintro e w' ⟨rfl, ⟨nd, rfl⟩⟩; refine ⟨_, rfl, ?_⟩; (try (rw [drewN_self w57]; generalize hq_ : World.drewN w57 _ = w57; have n0_ := bE BK232 hq_.symm; have n1_ := bE BK236 hq_.symm; have n2_ := bH HB hq_.symm; clear BK232 BK236 HB hq_; have BK232 := n0_; have BK236 := n1_; have HB := n2_; clear n0_ n1_ n2_)); obtain ⟨hcz59_0, hcz59_1, hcz59_2, hfz59_0, hfz59_1, hfz59_2⟩ := bf3 (w := w57) BK236; obtain ⟨hcz60_0, hcz60_1, hcz60_2, hfz60_0, hfz60_1, hfz60_2⟩ := bf3 (w := w57) BK232))
  refine bodyPost_ret (results_ctt rfl _ _ gb232 54 #[.int .i64 0, .float .f64 0, .string (⟨#[]⟩ : ByteArray)] (0, 0) _ rfl (bR BK232) Try.underlying54 rfl (by kernel_rfl)) rfl ?_
  exact xB HB
 subst c31
 have H1 : ((datum_May.f t233 t242 (⟨#[]⟩ : ByteArray)).bind fun t244 => (if t244 = true then (some (t233, t242, (⟨#[]⟩ : ByteArray), wrap64 (t234 + 8), 0)) else (some (0, 0, (⟨#[]⟩ : ByteArray), 0, 1)))) = some (r1, r2, r3, r4, r5) := by rw [if_pos rfl] at H; exact H
 clear H
 have H := H1
 clear H1
 replace H := Option.bind_eq_some_iff.mp H
 obtain ⟨t244, A320, H⟩ := H
 replace H : (if t244 = true then (some (t233, t242, (⟨#[]⟩ : ByteArray), wrap64 (t234 + 8), 0)) else (some (0, 0, (⟨#[]⟩ : ByteArray), 0, 1))) = some (r1, r2, r3, r4, r5) := H
 have A32 := Aside0.mk A320
 clear A320
 by_cases c33 : t244 = true
 rotate_left
 ·replace c33 := Bool.eq_false_iff.mpr c33
  subst c33
  have H1 : (some (0, 0, (⟨#[]⟩ : ByteArray), 0, 1)) = some (r1, r2, r3, r4, r5) := by rw [if_neg (show ¬ (false = true) by decide)] at H; exact H
  clear H
  have H := H1
  clear H1
  simp only [Option.some.injEq, Prod.mk.injEq] at H
  obtain ⟨rfl, rfl, rfl, rfl, rfl⟩ := H
  go_enter Try.func56, Try.ntmps56
  go_wp2_with (first | ((with_reducible refine gate_dst (N := 2) rfl ?_); refine box_event ?hg (N := 2) ?hd (cs := #[.int .i64 0, .float .f64 0, .string (⟨#[]⟩ : ByteArray)]) (t := 54) ?hr ?_; (case hd => rfl); (case hg => rfl); (case hr => first | (go_simp; done) | (go_simp; rfl)); intro gb232 hg w44 hbox hb; have BK232 := Aside0.mk (hbox); have GW232 := bZ HB hg; have GE232 := bZ HB hg; replace HB := bW HB hb; clear hb hbox hg) | ((with_reducible refine gate_callee (f := 55) rfl ?_); refine gL (some 13) Try.func55 #[.slice A0 l0.length c0] ?_; (with_reducible refine (num_Get.calls k _ _ l0 t233 t234 t235 _ ?side1 ?side2 A2.out).mono ?_); (case side1 => repeat (first | exact (Kd.C_below HR0.out HB.out) | (with_reducible refine Kd.C_alloc ?_ _) | (with_reducible refine Kd.C_drewN ?_ _) | (with_reducible refine Kd.C_drew ?_))); (case side2 => exact HC0.out); rintro e w' ⟨rfl, ⟨nd, rfl⟩⟩; refine ⟨_, rfl, ?_⟩; (try (rw [drewN_self w44]; generalize hq_ : World.drewN w44 _ = w44; have n0_ := bE BK232 hq_.symm; have n1_ := bH HB hq_.symm; clear BK232 HB hq_; have BK232 := n0_; have HB := n1_; clear n0_ n1_))) | ((with_reducible refine gate_dst (N := 8) rfl ?_); refine box_event ?hg (N := 8) ?hd (cs := #[.int .i64 0, .float .f64 0, .string (⟨#[]⟩ : ByteArray)]) (t := 54) ?hr ?_; (case hd => rfl); (case hg => rfl); (case hr => first | (go_simp; done) | (go_simp; rfl)); intro gb236 hg w45 hbox hb; have BK236 := Aside0.mk (hbox); have GW236 := bZ HB hg; have GE236 := bZ HB hg; have NB232_236 := bL BK232 hg; have NB236_232 := bG BK232 hg; replace BK232 := bB BK232 hb; replace HB := bW HB hb; clear hb hbox hg; have hnb46 := NB236_232.out; have hnc46 := NB232_236.out; obtain ⟨hcz47_0, hcz47_1, hcz47_2, hfz47_0, hfz47_1, hfz47_2⟩ := bf3 (w := w45) BK236) | ((with_reducible refine gate_store (t := 54) (p := 8) rfl ?_); refine store_event (t := 54) (p := 8) (v := ?vo_w48) (w1 := (((w45.setCell ⟨gb236, 0, none⟩ (.int .i64 t233)).setCell ⟨gb236, 1, none⟩ (.float .f64 0)).setCell ⟨gb236, 2, none⟩ (.string (⟨#[]⟩ : ByteArray)))) ?hg ?ho ?hn ?hr ?_; (case ho => rfl); (case hg => rfl); (case hn => rfl); (case hr => first | (go_simp; done) | (go_simp; rfl)); intro w48 hw; replace BK232 := bE BK232 hw; replace BK236 : Aside0 (w48.heap[gb236]? = some (.cells #[.int .i64 t233, .float .f64 0, .string (⟨#[]⟩ : ByteArray)] 54 (0, 0))) := bP BK236 hw; replace HB := bH HB hw; clear hw; have q49 : ((wrap64 (t234 + 8)) : Int) ≤ ((l0.length : Int) : Int) := of_decide_eq_true (by first | (with_reducible assumption) | assumption); obtain ⟨i049, hi049, _, hsz49, _⟩ := info_parts info5; have hroom49 : l0.length ≤ c0 := HC0.out; have hC49 : Kd.C (Kd.int .u8) _ A0 l0.length l0 := HR0.out; have ql49 : (t234 : Int) ≤ ((wrap64 (t234 + 8)) : Int) := of_decide_eq_true (by first | (with_reducible assumption) | assumption); have q049 : (0 : Int) ≤ (t234 : Int) := of_decide_eq_true (by first | (with_reducible assumption) | assumption); have hcut49 := cut_mid (P := Try.prog) 30 5 .i64 .i64 Try.underlying30 hi049 1 hsz49 A0 l0.length c0 t234 (wrap64 (t234 + 8)) q049 ql49 q49 hroom49; have hr49 := Kd.C_mid (lo := (t234 : Int).toNat) (hi := ((wrap64 (t234 + 8)) : Int).toNat) (c := c0) hC49 (by omega) (by omega) hroom49; obtain ⟨A49, hA49⟩ : ∃ A1, A1 = (if c0 = (t234 : Int).toNat then A0 else (A0 : Option Addr).map (·.add ((t234 : Int).toNat * 1))) := ⟨_, rfl⟩; obtain ⟨c49, hc49⟩ : ∃ c1, c1 = c0 - (t234 : Int).toNat := ⟨_, rfl⟩; have hy49 : y238.length = ((wrap64 (t234 + 8)) : Int).toNat - (t234 : Int).toNat := (by rw [Ny238.out, List.length_drop, List.length_take] <;> omega); rw [show ((l0).take ((wrap64 (t234 + 8)) : Int).toNat).drop (t234 : Int).toNat = y238 from Ny238.out.symm] at hr49; replace hr49 : Kd.C (Kd.int .u8) _ A49 y238.length y238 := (by rw [hA49]; exact hr49); rw [← hy49, ← hA49, ← hc49] at hcut49; have HR241 := Aside0.mk hr49; have HC241 := Aside0.mk (show y238.length ≤ c49 from by rw [hy49, hc49]; exact Nat.sub_le_sub_right (Nat.le_trans (by omega) hroom49) _); clear hr49 hC49 hroom49 hi049 hsz49 hc49; have KY49 := Aside0.mk hy49; have KA49 := Aside0.mk hA49; clear hy49 hA49; replace q49 := eq_true q49) | ((with_reducible refine gate_callee (f := 67) rfl ?_); refine gL (some 41) Try.func67 #[.slice A49 y238.length c49] ?_; (with_reducible refine (float_Of.calls k _ _ y238 t242 true _ ?side1 ?side2 A30.out).mono ?_); (case side1 => repeat (first | exact (Kd.C_below HR241.out HB.out) | (with_reducible refine Kd.C_alloc ?_ _) | (with_reducible refine Kd.C_drewN ?_ _) | (with_reducible refine Kd.C_drew ?_))); (case side2 => exact HC241.out); rintro e w' ⟨rfl, ⟨nd, rfl⟩⟩; refine ⟨_, rfl, ?_⟩; (try (rw [drewN_self w48]; generalize hq_ : World.drewN w48 _ = w48; have n0_ := bE BK232 hq_.symm; have n1_ := bE BK236 hq_.symm; have n2_ := bH HB hq_.symm; clear BK232 BK236 HB hq_; have BK232 := n0_; have BK236 := n1_; have HB := n2_; clear n0_ n1_ n2_)); obtain ⟨hcz50_0, hcz50_1, hcz50_2, hfz50_0, hfz50_1, hfz50_2⟩ := bf3 (w := w48) BK236) | ((with_reducible refine gate_callee (f := 48) rfl ?_); refine gL (some 64) Try.func48 #[.agg #[.int .i64 t233, .float .f64 t242, .string (⟨#[]⟩ : ByteArray)]] ?_; (with_reducible refine (datum_May.calls t233 t242 (⟨#[]⟩ : ByteArray) false _ A32.out).mono ?_); rintro e w51 ⟨rfl, hb⟩; refine ⟨_, rfl, ?_⟩; replace BK232 := bB BK232 hb; replace BK236 := Aside0.mk (blk_below (g := gb236) (o := .cells #[.int .i64 t233, .float .f64 t242, .string (⟨#[]⟩ : ByteArray)] 54 (0, 0)) (bR BK236) hb); replace HB := bW HB hb; (try clear hb); (try clear hb2); (try clear hk); (try clear hi); obtain ⟨hcz52_0, hcz52_1, hcz52_2, hfz52_0, hfz52_1, hfz52_2⟩ := bf3 (w := w51) BK232))
  refine bodyPost_ret (results_ctt rfl _ _ gb232 54 #[.int .i64 0, .float .f64 0, .string (⟨#[]⟩ : ByteArray)] (0, 0) _ rfl (bR BK232) Try.underlying54 rfl (by kernel_rfl)) rfl ?_
  exact xB HB
 subst c33
 have H1 : (some (t233, t242, (⟨#[]⟩ : ByteArray), wrap64 (t234 + 8), 0)) = some (r1, r2, r3, r4, r5) := by rw [if_pos rfl] at H; exact H
 clear H
 have H := H1
 clear H1
 simp only [Option.some.injEq, Prod.mk.injEq] at H
 obtain ⟨rfl, rfl, rfl, rfl, rfl⟩ := H
 go_enter Try.func56, Try.ntmps56
 go_wp2_with (first | ((with_reducible refine gate_dst (N := 2) rfl ?_); refine box_event ?hg (N := 2) ?hd (cs := #[.int .i64 0, .float .f64 0, .string (⟨#[]⟩ : ByteArray)]) (t := 54) ?hr ?_; (case hd => rfl); (case hg => rfl); (case hr => first | (go_simp; done) | (go_simp; rfl)); intro gb232 hg w34 hbox hb; have BK232 := Aside0.mk (hbox); have GW232 := bZ HB hg; have GE232 := bZ HB hg; replace HB := bW HB hb; clear hb hbox hg) | ((with_reducible refine gate_callee (f := 55) rfl ?_); refine gL (some 13) Try.func55 #[.slice A0 l0.length c0] ?_; (with_reducible refine (num_Get.calls k _ _ l0 t233 t234 t235 _ ?side1 ?side2 A2.out).mono ?_); (case side1 => repeat (first | exact (Kd.C_below HR0.out HB.out) | (with_reducible refine Kd.C_alloc ?_ _) | (with_reducible refine Kd.C_drewN ?_ _) | (with_reducible refine Kd.C_drew ?_))); (case side2 => exact HC0.out); rintro e w' ⟨rfl, ⟨nd, rfl⟩⟩; refine ⟨_, rfl, ?_⟩; (try (rw [drewN_self w34]; generalize hq_ : World.drewN w34 _ = w34; have n0_ := bE BK232 hq_.symm; have n1_ := bH HB hq_.symm; clear BK232 HB hq_; have BK232 := n0_; have HB := n1_; clear n0_ n1_))) | ((with_reducible refine gate_dst (N := 8) rfl ?_); refine box_event ?hg (N := 8) ?hd (cs := #[.int .i64 0, .float .f64 0, .string (⟨#[]⟩ : ByteArray)]) (t := 54) ?hr ?_; (case hd => rfl); (case hg => rfl); (case hr => first | (go_simp; done) | (go_simp; rfl)); intro gb236 hg w35 hbox hb; have BK236 := Aside0.mk (hbox); have GW236 := bZ HB hg; have GE236 := bZ HB hg; have NB232_236 := bL BK232 hg; have NB236_232 := bG BK232 hg; replace BK232 := bB BK232 hb; replace HB := bW HB hb; clear hb hbox hg; have hnb36 := NB236_232.out; have hnc36 := NB232_236.out; obtain ⟨hcz37_0, hcz37_1, hcz37_2, hfz37_0, hfz37_1, hfz37_2⟩ := bf3 (w := w35) BK236) | ((with_reducible refine gate_store (t := 54) (p := 8) rfl ?_); refine store_event (t := 54) (p := 8) (v := ?vo_w38) (w1 := (((w35.setCell ⟨gb236, 0, none⟩ (.int .i64 t233)).setCell ⟨gb236, 1, none⟩ (.float .f64 0)).setCell ⟨gb236, 2, none⟩ (.string (⟨#[]⟩ : ByteArray)))) ?hg ?ho ?hn ?hr ?_; (case ho => rfl); (case hg => rfl); (case hn => rfl); (case hr => first | (go_simp; done) | (go_simp; rfl)); intro w38 hw; replace BK232 := bE BK232 hw; replace BK236 : Aside0 (w38.heap[gb236]? = some (.cells #[.int .i64 t233, .float .f64 0, .string (⟨#[]⟩ : ByteArray)] 54 (0, 0))) := bP BK236 hw; replace HB := bH HB hw; clear hw; have q39 : ((wrap64 (t234 + 8)) : Int) ≤ ((l0.length : Int) : Int) := of_decide_eq_true (by first | (with_reducible assumption) | assumption); obtain ⟨i039, hi039, _, hsz39, _⟩ := info_parts info5; have hroom39 : l0.length ≤ c0 := HC0.out; have hC39 : Kd.C (Kd.int .u8) _ A0 l0.length l0 := HR0.out; have ql39 : (t234 : Int) ≤ ((wrap64 (t234 + 8)) : Int) := of_decide_eq_true (by first | (with_reducible assumption) | assumption); have q039 : (0 : Int) ≤ (t234 : Int) := of_decide_eq_true (by first | (with_reducible assumption) | assumption); have hcut39 := cut_mid (P := Try.prog) 30 5 .i64 .i64 Try.underlying30 hi039 1 hsz39 A0 l0.length c0 t234 (wrap64 (t234 + 8)) q039 ql39 q39 hroom39; have hr39 := Kd.C_mid (lo := (t234 : Int).toNat) (hi := ((wrap64 (t234 + 8)) : Int).toNat) (c := c0) hC39 (by omega) (by omega) hroom39; obtain ⟨A39, hA39⟩ : ∃ A1, A1 = (if c0 = (t234 : Int).toNat then A0 else (A0 : Option Addr).map (·.add ((t234 : Int).toNat * 1))) := ⟨_, rfl⟩; obtain ⟨c39, hc39⟩ : ∃ c1, c1 = c0 - (t234 : Int).toNat := ⟨_, rfl⟩; have hy39 : y238.length = ((wrap64 (t234 + 8)) : Int).toNat - (t234 : Int).toNat := (by rw [Ny238.out, List.length_drop, List.length_take] <;> omega); rw [show ((l0).take ((wrap64 (t234 + 8)) : Int).toNat).drop (t234 : Int).toNat = y238 from Ny238.out.symm] at hr39; replace hr39 : Kd.C (Kd.int .u8) _ A39 y238.length y238 := (by rw [hA39]; exact hr39); rw [← hy39, ← hA39, ← hc39] at hcut39; have HR241 := Aside0.mk hr39; have HC241 := Aside0.mk (show y238.length ≤ c39 from by rw [hy39, hc39]; exact Nat.sub_le_sub_right (Nat.le_trans (by omega) hroom39) _); clear hr39 hC39 hroom39 hi039 hsz39 hc39; have KY39 := Aside0.mk hy39; have KA39 := Aside0.mk hA39; clear hy39 hA39; replace q39 := eq_true q39) | ((with_reducible refine gate_callee (f := 67) rfl ?_); refine gL (some 41) Try.func67 #[.slice A39 y238.length c39] ?_; (with_reducible refine (float_Of.calls k _ _ y238 t242 true _ ?side1 ?side2 A30.out).mono ?_); (case side1 => repeat (first | exact (Kd.C_below HR241.out HB.out) | (with_reducible refine Kd.C_alloc ?_ _) | (with_reducible refine Kd.C_drewN ?_ _) | (with_reducible refine Kd.C_drew ?_))); (case side2 => exact HC241.out); rintro e w' ⟨rfl, ⟨nd, rfl⟩⟩; refine ⟨_, rfl, ?_⟩; (try (rw [drewN_self w38]; generalize hq_ : World.drewN w38 _ = w38; have n0_ := bE BK232 hq_.symm; have n1_ := bE BK236 hq_.symm; have n2_ := bH HB hq_.symm; clear BK232 BK236 HB hq_; have BK232 := n0_; have BK236 := n1_; have HB := n2_; clear n0_ n1_ n2_)); obtain ⟨hcz40_0, hcz40_1, hcz40_2, hfz40_0, hfz40_1, hfz40_2⟩ := bf3 (w := w38) BK236) | ((with_reducible refine gate_callee (f := 48) rfl ?_); refine gL (some 64) Try.func48 #[.agg #[.int .i64 t233, .float .f64 t242, .string (⟨#[]⟩ : ByteArray)]] ?_; (with_reducible refine (datum_May.calls t233 t242 (⟨#[]⟩ : ByteArray) true _ A32.out).mono ?_); rintro e w41 ⟨rfl, hb⟩; refine ⟨_, rfl, ?_⟩; replace BK232 := bB BK232 hb; replace BK236 := Aside0.mk (blk_below (g := gb236) (o := .cells #[.int .i64 t233, .float .f64 t242, .string (⟨#[]⟩ : ByteArray)] 54 (0, 0)) (bR BK236) hb); replace HB := bW HB hb; (try clear hb); (try clear hb2); (try clear hk); (try clear hi); obtain ⟨hcz42_0, hcz42_1, hcz42_2, hfz42_0, hfz42_1, hfz42_2⟩ := bf3 (w := w41) BK236; obtain ⟨hcz43_0, hcz43_1, hcz43_2, hfz43_0, hfz43_1, hfz43_2⟩ := bf3 (w := w41) BK232))
 refine bodyPost_ret (results_ctt rfl _ _ gb232 54 #[.int .i64 t233, .float .f64 t242, .string (⟨#[]⟩ : ByteArray)] (0, 0) _ rfl (bR BK232) Try.underlying54 rfl (by kernel_rfl)) rfl ?_
 exact xB HB
def cell_Get.f (k : Nat) (l0 : List Int) : Option (ByteArray × Int × Nat × ByteArray × Int × Int × Nat × ByteArray × Int × Int) := (num_GetText.f k l0).bind fun bt255 => (if bt255.2.2 = 0 then (if 0 ≤ bt255.2.1 then (if bt255.2.1 ≤ (l0.length : Int) then ((datum_Get.f k (l0.drop (bt255.2.1 : Int).toNat)).bind fun bt262 => (if bt262.2.2.2.2 = 0 then (if 0 ≤ (wrap64 (bt255.2.1 + bt262.2.2.2.1)) then (if (wrap64 (bt255.2.1 + bt262.2.2.2.1)) ≤ (l0.length : Int) then ((num_Get.f k (l0.drop ((wrap64 (bt255.2.1 + bt262.2.2.2.1)) : Int).toNat)).bind fun bt271 => (if bt271.2.2 = 0 then (if bt271.1 > 0 then (if 0 ≤ (wrap64 ((wrap64 (bt255.2.1 + bt262.2.2.2.1)) + bt271.2.1)) then (if (wrap64 ((wrap64 (bt255.2.1 + bt262.2.2.2.1)) + bt271.2.1)) ≤ (l0.length : Int) then ((datum_Get.f k (l0.drop ((wrap64 ((wrap64 (bt255.2.1 + bt262.2.2.2.1)) + bt271.2.1)) : Int).toNat)).bind fun bt278 => (if bt278.2.2.2.2 = 0 then ((cell_May.f k bt255.1 bt262.1 bt262.2.1 bt262.2.2.1 bt271.1 bt278.1 bt278.2.1 bt278.2.2.1).bind fun t283 => (if t283 = true then (some (bt255.1, bt262.1, bt262.2.1, bt262.2.2.1, bt271.1, bt278.1, bt278.2.1, bt278.2.2.1, wrap64 ((wrap64 ((wrap64 (bt255.2.1 + bt262.2.2.2.1)) + bt271.2.1)) + bt278.2.2.2.1), 0)) else (some ((⟨#[]⟩ : ByteArray), 0, 0, (⟨#[]⟩ : ByteArray), 0, 0, 0, (⟨#[]⟩ : ByteArray), 0, 1)))) else (some ((⟨#[]⟩ : ByteArray), 0, 0, (⟨#[]⟩ : ByteArray), 0, 0, 0, (⟨#[]⟩ : ByteArray), 0, bt278.2.2.2.2)))) else (none)) else (none)) else ((cell_May.f k bt255.1 bt262.1 bt262.2.1 bt262.2.2.1 bt271.1 0 0 (⟨#[]⟩ : ByteArray)).bind fun t284 => (if t284 = true then (some (bt255.1, bt262.1, bt262.2.1, bt262.2.2.1, bt271.1, 0, 0, (⟨#[]⟩ : ByteArray), wrap64 ((wrap64 (bt255.2.1 + bt262.2.2.2.1)) + bt271.2.1), 0)) else (some ((⟨#[]⟩ : ByteArray), 0, 0, (⟨#[]⟩ : ByteArray), 0, 0, 0, (⟨#[]⟩ : ByteArray), 0, 1))))) else (some ((⟨#[]⟩ : ByteArray), 0, 0, (⟨#[]⟩ : ByteArray), 0, 0, 0, (⟨#[]⟩ : ByteArray), 0, bt271.2.2)))) else (none)) else (none)) else (some ((⟨#[]⟩ : ByteArray), 0, 0, (⟨#[]⟩ : ByteArray), 0, 0, 0, (⟨#[]⟩ : ByteArray), 0, bt262.2.2.2.2)))) else (none)) else (none)) else (some ((⟨#[]⟩ : ByteArray), 0, 0, (⟨#[]⟩ : ByteArray), 0, 0, 0, (⟨#[]⟩ : ByteArray), 0, bt255.2.2)))
theorem cell_Get.mono : ∀ a0 k, LeO (cell_Get.f k a0) (cell_Get.f (k + 1) a0) := by
 intro a0 k
 unfold cell_Get.f
 repeat' first
   | (with_reducible exact cell_May.mono _ _ _ _ _ _ _ _ _)
   | (with_reducible exact datum_Get.mono _ _)
   | (with_reducible exact num_Get.mono _ _)
   | (with_reducible exact num_GetText.mono _ _)
   | (with_reducible exact LeO.refl _)
   | (with_reducible exact LeO.none _)
   | (with_reducible refine LeO.ite ?_ ?_)
   | (with_reducible refine LeO.bind ?_ (fun _ => ?_))
   | exact cell_May.mono _ _ _ _ _ _ _ _ _
   | exact datum_Get.mono _ _
   | exact num_Get.mono _ _
   | exact num_GetText.mono _ _
   | exact LeO.none _
   | refine LeO.ite ?_ ?_
   | refine LeO.bind ?_ (fun _ => ?_)
set_option maxHeartbeats 8000000 in
set_option maxRecDepth 100000 in
theorem cell_Get.calls (k : Nat) (A0 : Option Addr) (c0 : Nat) (l0 : List Int) (r1 : ByteArray) (r2 : Int) (r3 : Nat) (r4 : ByteArray) (r5 : Int) (r6 : Int) (r7 : Nat) (r8 : ByteArray) (r9 : Int) (r10 : Int) (w : World) (hr0 : Kd.C (Kd.int .u8) w A0 l0.length l0) (hc0 : l0.length ≤ c0) (h : cell_Get.f k l0 = some (r1, r2, r3, r4, r5, r6, r7, r8, r9, r10)) :
  Calls Try.prog 39 #[.slice A0 l0.length c0] w fun e w' => e = .returned (.tuple #[.agg #[.string r1, .int .i64 r2, .float .f64 r3, .string r4, .int .i64 r5, .int .i64 r6, .float .f64 r7, .string r8], .int .i64 r9, .int .i64 r10]) ∧ Below w.heap.size w w' := by
 have hu62 := Try.underlying62
 have hu54 := Try.underlying54
 have HR0 := Aside0.mk hr0
 have HC0 := Aside0.mk hc0
 clear hr0 hc0
 have HB := Aside0.mk (Below.refl w.heap.size w)
 have H : ((num_GetText.f k l0).bind fun bt255 => (if bt255.2.2 = 0 then (if 0 ≤ bt255.2.1 then (if bt255.2.1 ≤ (l0.length : Int) then ((datum_Get.f k (l0.drop (bt255.2.1 : Int).toNat)).bind fun bt262 => (if bt262.2.2.2.2 = 0 then (if 0 ≤ (wrap64 (bt255.2.1 + bt262.2.2.2.1)) then (if (wrap64 (bt255.2.1 + bt262.2.2.2.1)) ≤ (l0.length : Int) then ((num_Get.f k (l0.drop ((wrap64 (bt255.2.1 + bt262.2.2.2.1)) : Int).toNat)).bind fun bt271 => (if bt271.2.2 = 0 then (if bt271.1 > 0 then (if 0 ≤ (wrap64 ((wrap64 (bt255.2.1 + bt262.2.2.2.1)) + bt271.2.1)) then (if (wrap64 ((wrap64 (bt255.2.1 + bt262.2.2.2.1)) + bt271.2.1)) ≤ (l0.length : Int) then ((datum_Get.f k (l0.drop ((wrap64 ((wrap64 (bt255.2.1 + bt262.2.2.2.1)) + bt271.2.1)) : Int).toNat)).bind fun bt278 => (if bt278.2.2.2.2 = 0 then ((cell_May.f k bt255.1 bt262.1 bt262.2.1 bt262.2.2.1 bt271.1 bt278.1 bt278.2.1 bt278.2.2.1).bind fun t283 => (if t283 = true then (some (bt255.1, bt262.1, bt262.2.1, bt262.2.2.1, bt271.1, bt278.1, bt278.2.1, bt278.2.2.1, wrap64 ((wrap64 ((wrap64 (bt255.2.1 + bt262.2.2.2.1)) + bt271.2.1)) + bt278.2.2.2.1), 0)) else (some ((⟨#[]⟩ : ByteArray), 0, 0, (⟨#[]⟩ : ByteArray), 0, 0, 0, (⟨#[]⟩ : ByteArray), 0, 1)))) else (some ((⟨#[]⟩ : ByteArray), 0, 0, (⟨#[]⟩ : ByteArray), 0, 0, 0, (⟨#[]⟩ : ByteArray), 0, bt278.2.2.2.2)))) else (none)) else (none)) else ((cell_May.f k bt255.1 bt262.1 bt262.2.1 bt262.2.2.1 bt271.1 0 0 (⟨#[]⟩ : ByteArray)).bind fun t284 => (if t284 = true then (some (bt255.1, bt262.1, bt262.2.1, bt262.2.2.1, bt271.1, 0, 0, (⟨#[]⟩ : ByteArray), wrap64 ((wrap64 (bt255.2.1 + bt262.2.2.2.1)) + bt271.2.1), 0)) else (some ((⟨#[]⟩ : ByteArray), 0, 0, (⟨#[]⟩ : ByteArray), 0, 0, 0, (⟨#[]⟩ : ByteArray), 0, 1))))) else (some ((⟨#[]⟩ : ByteArray), 0, 0, (⟨#[]⟩ : ByteArray), 0, 0, 0, (⟨#[]⟩ : ByteArray), 0, bt271.2.2)))) else (none)) else (none)) else (some ((⟨#[]⟩ : ByteArray), 0, 0, (⟨#[]⟩ : ByteArray), 0, 0, 0, (⟨#[]⟩ : ByteArray), 0, bt262.2.2.2.2)))) else (none)) else (none)) else (some ((⟨#[]⟩ : ByteArray), 0, 0, (⟨#[]⟩ : ByteArray), 0, 0, 0, (⟨#[]⟩ : ByteArray), 0, bt255.2.2)))) = some (r1, r2, r3, r4, r5, r6, r7, r8, r9, r10) := h
 clear h
 replace H := Option.bind_eq_some_iff.mp H
 obtain ⟨⟨t255, t256, t257⟩, A20, H⟩ := H
 replace H : (if t257 = 0 then (if 0 ≤ t256 then (if t256 ≤ (l0.length : Int) then ((datum_Get.f k (l0.drop (t256 : Int).toNat)).bind fun bt262 => (if bt262.2.2.2.2 = 0 then (if 0 ≤ (wrap64 (t256 + bt262.2.2.2.1)) then (if (wrap64 (t256 + bt262.2.2.2.1)) ≤ (l0.length : Int) then ((num_Get.f k (l0.drop ((wrap64 (t256 + bt262.2.2.2.1)) : Int).toNat)).bind fun bt271 => (if bt271.2.2 = 0 then (if bt271.1 > 0 then (if 0 ≤ (wrap64 ((wrap64 (t256 + bt262.2.2.2.1)) + bt271.2.1)) then (if (wrap64 ((wrap64 (t256 + bt262.2.2.2.1)) + bt271.2.1)) ≤ (l0.length : Int) then ((datum_Get.f k (l0.drop ((wrap64 ((wrap64 (t256 + bt262.2.2.2.1)) + bt271.2.1)) : Int).toNat)).bind fun bt278 => (if bt278.2.2.2.2 = 0 then ((cell_May.f k t255 bt262.1 bt262.2.1 bt262.2.2.1 bt271.1 bt278.1 bt278.2.1 bt278.2.2.1).bind fun t283 => (if t283 = true then (some (t255, bt262.1, bt262.2.1, bt262.2.2.1, bt271.1, bt278.1, bt278.2.1, bt278.2.2.1, wrap64 ((wrap64 ((wrap64 (t256 + bt262.2.2.2.1)) + bt271.2.1)) + bt278.2.2.2.1), 0)) else (some ((⟨#[]⟩ : ByteArray), 0, 0, (⟨#[]⟩ : ByteArray), 0, 0, 0, (⟨#[]⟩ : ByteArray), 0, 1)))) else (some ((⟨#[]⟩ : ByteArray), 0, 0, (⟨#[]⟩ : ByteArray), 0, 0, 0, (⟨#[]⟩ : ByteArray), 0, bt278.2.2.2.2)))) else (none)) else (none)) else ((cell_May.f k t255 bt262.1 bt262.2.1 bt262.2.2.1 bt271.1 0 0 (⟨#[]⟩ : ByteArray)).bind fun t284 => (if t284 = true then (some (t255, bt262.1, bt262.2.1, bt262.2.2.1, bt271.1, 0, 0, (⟨#[]⟩ : ByteArray), wrap64 ((wrap64 (t256 + bt262.2.2.2.1)) + bt271.2.1), 0)) else (some ((⟨#[]⟩ : ByteArray), 0, 0, (⟨#[]⟩ : ByteArray), 0, 0, 0, (⟨#[]⟩ : ByteArray), 0, 1))))) else (some ((⟨#[]⟩ : ByteArray), 0, 0, (⟨#[]⟩ : ByteArray), 0, 0, 0, (⟨#[]⟩ : ByteArray), 0, bt271.2.2)))) else (none)) else (none)) else (some ((⟨#[]⟩ : ByteArray), 0, 0, (⟨#[]⟩ : ByteArray), 0, 0, 0, (⟨#[]⟩ : ByteArray), 0, bt262.2.2.2.2)))) else (none)) else (none)) else (some ((⟨#[]⟩ : ByteArray), 0, 0, (⟨#[]⟩ : ByteArray), 0, 0, 0, (⟨#[]⟩ : ByteArray), 0, t257))) = some (r1, r2, r3, r4, r5, r6, r7, r8, r9, r10) := H
 have A2 := Aside0.mk A20
 clear A20
 by_cases c3 : t257 = 0
 rotate_left
 ·rw [if_neg c3] at H
  have c3b0 : (t257 == 0) = false := beq_eq_false_iff_ne.mpr c3
  have c3b1 : (t257 != 0) = true := bne_iff_ne.mpr c3
  simp only [Option.some.injEq, Prod.mk.injEq] at H
  obtain ⟨rfl, rfl, rfl, rfl, rfl, rfl, rfl, rfl, rfl, rfl⟩ := H
  go_enter Try.func39, Try.ntmps39
  go_wp2_with (first | ((with_reducible refine gate_dst (N := 2) rfl ?_); refine box_event ?hg (N := 2) ?hd (cs := #[.string (⟨#[]⟩ : ByteArray), .int .i64 0, .float .f64 0, .string (⟨#[]⟩ : ByteArray), .int .i64 0, .int .i64 0, .float .f64 0, .string (⟨#[]⟩ : ByteArray)]) (t := 62) ?hr ?_; (case hd => rfl); (case hg => rfl); (case hr => first | (go_simp; done) | (go_simp; rfl)); intro gb253 hg w125 hbox hb; have BK253 := Aside0.mk (hbox); have GW253 := bZ HB hg; have GE253 := bZ HB hg; replace HB := bW HB hb; clear hb hbox hg) | ((with_reducible refine gate_dst (N := 5) rfl ?_); refine box_event ?hg (N := 5) ?hd (cs := #[.string (⟨#[]⟩ : ByteArray), .int .i64 0, .float .f64 0, .string (⟨#[]⟩ : ByteArray), .int .i64 0, .int .i64 0, .float .f64 0, .string (⟨#[]⟩ : ByteArray)]) (t := 62) ?hr ?_; (case hd => rfl); (case hg => rfl); (case hr => first | (go_simp; done) | (go_simp; rfl)); intro gb254 hg w126 hbox hb; have BK254 := Aside0.mk (hbox); have GW254 := bZ HB hg; have GE254 := bZ HB hg; have NB253_254 := bL BK253 hg; have NB254_253 := bG BK253 hg; replace BK253 := bB BK253 hb; replace HB := bW HB hb; clear hb hbox hg) | ((with_reducible refine gate_callee (f := 41) rfl ?_); refine gL (some 11) Try.func41 #[.slice A0 l0.length c0] ?_; (with_reducible refine (num_GetText.calls k _ _ l0 t255 t256 t257 _ ?side1 ?side2 A2.out).mono ?_); (case side1 => repeat (first | exact (Kd.C_below HR0.out HB.out) | (with_reducible refine Kd.C_alloc ?_ _) | (with_reducible refine Kd.C_drewN ?_ _) | (with_reducible refine Kd.C_drew ?_))); (case side2 => exact HC0.out); rintro e w' ⟨rfl, ⟨nd, rfl⟩⟩; refine ⟨_, rfl, ?_⟩; (try (rw [drewN_self w126]; generalize hq_ : World.drewN w126 _ = w126; have n0_ := bE BK253 hq_.symm; have n1_ := bE BK254 hq_.symm; have n2_ := bH HB hq_.symm; clear BK253 BK254 HB hq_; have BK253 := n0_; have BK254 := n1_; have HB := n2_; clear n0_ n1_ n2_)); have hnb127 := NB254_253.out; have hnc127 := NB253_254.out; obtain ⟨hcz128_0, hcz128_1, hcz128_2, hcz128_3, hcz128_4, hcz128_5, hcz128_6, hcz128_7, hfz128_0, hfz128_1, hfz128_2, hfz128_3, hfz128_4, hfz128_5, hfz128_6, hfz128_7⟩ := bf8 (w := w126) BK254; obtain ⟨hcz129_0, hcz129_1, hcz129_2, hcz129_3, hcz129_4, hcz129_5, hcz129_6, hcz129_7, hfz129_0, hfz129_1, hfz129_2, hfz129_3, hfz129_4, hfz129_5, hfz129_6, hfz129_7⟩ := bf8 (w := w126) BK253))
  refine bodyPost_ret (results_ctt rfl _ _ gb253 62 #[.string (⟨#[]⟩ : ByteArray), .int .i64 0, .float .f64 0, .string (⟨#[]⟩ : ByteArray), .int .i64 0, .int .i64 0, .float .f64 0, .string (⟨#[]⟩ : ByteArray)] (0, 0) _ rfl (bR BK253) Try.underlying62 rfl (by kernel_rfl)) rfl ?_
  exact xB HB
 rw [if_pos c3] at H
 have c3b0 : (t257 == 0) = true := beq_iff_eq.mpr c3
 have c3b1 : (t257 != 0) = false := bne_eq_false_iff_eq.mpr c3
 clear c3
 by_cases c4 : 0 ≤ t256
 rotate_left
 ·rw [if_neg c4] at H
  exact absurd H (by simp)
 rw [if_pos c4] at H
 have c4b0 := eq_true c4
 have c4b1 : decide (0 ≤ t256) = true := decide_eq_true c4
 clear c4
 by_cases c5 : t256 ≤ (l0.length : Int)
 rotate_left
 ·rw [if_neg c5] at H
  exact absurd H (by simp)
 rw [if_pos c5] at H
 have c5b0 := eq_true c5
 have c5b1 : decide (t256 ≤ (l0.length : Int)) = true := decide_eq_true c5
 clear c5
 obtain ⟨y258, hy258⟩ : ∃ y_ : List Int, y_ = (l0.drop (t256 : Int).toNat) := ⟨_, rfl⟩
 replace H : ((datum_Get.f k y258).bind fun bt262 => (if bt262.2.2.2.2 = 0 then (if 0 ≤ (wrap64 (t256 + bt262.2.2.2.1)) then (if (wrap64 (t256 + bt262.2.2.2.1)) ≤ (l0.length : Int) then ((num_Get.f k (l0.drop ((wrap64 (t256 + bt262.2.2.2.1)) : Int).toNat)).bind fun bt271 => (if bt271.2.2 = 0 then (if bt271.1 > 0 then (if 0 ≤ (wrap64 ((wrap64 (t256 + bt262.2.2.2.1)) + bt271.2.1)) then (if (wrap64 ((wrap64 (t256 + bt262.2.2.2.1)) + bt271.2.1)) ≤ (l0.length : Int) then ((datum_Get.f k (l0.drop ((wrap64 ((wrap64 (t256 + bt262.2.2.2.1)) + bt271.2.1)) : Int).toNat)).bind fun bt278 => (if bt278.2.2.2.2 = 0 then ((cell_May.f k t255 bt262.1 bt262.2.1 bt262.2.2.1 bt271.1 bt278.1 bt278.2.1 bt278.2.2.1).bind fun t283 => (if t283 = true then (some (t255, bt262.1, bt262.2.1, bt262.2.2.1, bt271.1, bt278.1, bt278.2.1, bt278.2.2.1, wrap64 ((wrap64 ((wrap64 (t256 + bt262.2.2.2.1)) + bt271.2.1)) + bt278.2.2.2.1), 0)) else (some ((⟨#[]⟩ : ByteArray), 0, 0, (⟨#[]⟩ : ByteArray), 0, 0, 0, (⟨#[]⟩ : ByteArray), 0, 1)))) else (some ((⟨#[]⟩ : ByteArray), 0, 0, (⟨#[]⟩ : ByteArray), 0, 0, 0, (⟨#[]⟩ : ByteArray), 0, bt278.2.2.2.2)))) else (none)) else (none)) else ((cell_May.f k t255 bt262.1 bt262.2.1 bt262.2.2.1 bt271.1 0 0 (⟨#[]⟩ : ByteArray)).bind fun t284 => (if t284 = true then (some (t255, bt262.1, bt262.2.1, bt262.2.2.1, bt271.1, 0, 0, (⟨#[]⟩ : ByteArray), wrap64 ((wrap64 (t256 + bt262.2.2.2.1)) + bt271.2.1), 0)) else (some ((⟨#[]⟩ : ByteArray), 0, 0, (⟨#[]⟩ : ByteArray), 0, 0, 0, (⟨#[]⟩ : ByteArray), 0, 1))))) else (some ((⟨#[]⟩ : ByteArray), 0, 0, (⟨#[]⟩ : ByteArray), 0, 0, 0, (⟨#[]⟩ : ByteArray), 0, bt271.2.2)))) else (none)) else (none)) else (some ((⟨#[]⟩ : ByteArray), 0, 0, (⟨#[]⟩ : ByteArray), 0, 0, 0, (⟨#[]⟩ : ByteArray), 0, bt262.2.2.2.2)))) = some (r1, r2, r3, r4, r5, r6, r7, r8, r9, r10) := by first | (rw [hy258]; with_reducible exact H) | (have H2_ := (Option.bind_some _ _).symm.trans H; rw [hy258]; with_reducible exact H2_) | (have H2_ := (Option.bind_some _ _).symm.trans H; with_reducible exact H2_) | with_reducible exact H | (rw [hy258]; exact H) | exact H
 have Ny258 := Aside0.mk hy258
 clear hy258
 replace H := Option.bind_eq_some_iff.mp H
 obtain ⟨⟨t262, t263, t264, t265, t266⟩, A60, H⟩ := H
 replace H : (if t266 = 0 then (if 0 ≤ (wrap64 (t256 + t265)) then (if (wrap64 (t256 + t265)) ≤ (l0.length : Int) then ((num_Get.f k (l0.drop ((wrap64 (t256 + t265)) : Int).toNat)).bind fun bt271 => (if bt271.2.2 = 0 then (if bt271.1 > 0 then (if 0 ≤ (wrap64 ((wrap64 (t256 + t265)) + bt271.2.1)) then (if (wrap64 ((wrap64 (t256 + t265)) + bt271.2.1)) ≤ (l0.length : Int) then ((datum_Get.f k (l0.drop ((wrap64 ((wrap64 (t256 + t265)) + bt271.2.1)) : Int).toNat)).bind fun bt278 => (if bt278.2.2.2.2 = 0 then ((cell_May.f k t255 t262 t263 t264 bt271.1 bt278.1 bt278.2.1 bt278.2.2.1).bind fun t283 => (if t283 = true then (some (t255, t262, t263, t264, bt271.1, bt278.1, bt278.2.1, bt278.2.2.1, wrap64 ((wrap64 ((wrap64 (t256 + t265)) + bt271.2.1)) + bt278.2.2.2.1), 0)) else (some ((⟨#[]⟩ : ByteArray), 0, 0, (⟨#[]⟩ : ByteArray), 0, 0, 0, (⟨#[]⟩ : ByteArray), 0, 1)))) else (some ((⟨#[]⟩ : ByteArray), 0, 0, (⟨#[]⟩ : ByteArray), 0, 0, 0, (⟨#[]⟩ : ByteArray), 0, bt278.2.2.2.2)))) else (none)) else (none)) else ((cell_May.f k t255 t262 t263 t264 bt271.1 0 0 (⟨#[]⟩ : ByteArray)).bind fun t284 => (if t284 = true then (some (t255, t262, t263, t264, bt271.1, 0, 0, (⟨#[]⟩ : ByteArray), wrap64 ((wrap64 (t256 + t265)) + bt271.2.1), 0)) else (some ((⟨#[]⟩ : ByteArray), 0, 0, (⟨#[]⟩ : ByteArray), 0, 0, 0, (⟨#[]⟩ : ByteArray), 0, 1))))) else (some ((⟨#[]⟩ : ByteArray), 0, 0, (⟨#[]⟩ : ByteArray), 0, 0, 0, (⟨#[]⟩ : ByteArray), 0, bt271.2.2)))) else (none)) else (none)) else (some ((⟨#[]⟩ : ByteArray), 0, 0, (⟨#[]⟩ : ByteArray), 0, 0, 0, (⟨#[]⟩ : ByteArray), 0, t266))) = some (r1, r2, r3, r4, r5, r6, r7, r8, r9, r10) := H
 have A6 := Aside0.mk A60
 clear A60
 by_cases c7 : t266 = 0
 rotate_left
 ·rw [if_neg c7] at H
  have c7b0 : (t266 == 0) = false := beq_eq_false_iff_ne.mpr c7
  have c7b1 : (t266 != 0) = true := bne_iff_ne.mpr c7
  simp only [Option.some.injEq, Prod.mk.injEq] at H
  obtain ⟨rfl, rfl, rfl, rfl, rfl, rfl, rfl, rfl, rfl, rfl⟩ := H
  go_enter Try.func39, Try.ntmps39
  go_wp2_with (first | ((with_reducible refine gate_dst (N := 2) rfl ?_); refine box_event ?hg (N := 2) ?hd (cs := #[.string (⟨#[]⟩ : ByteArray), .int .i64 0, .float .f64 0, .string (⟨#[]⟩ : ByteArray), .int .i64 0, .int .i64 0, .float .f64 0, .string (⟨#[]⟩ : ByteArray)]) (t := 62) ?hr ?_; (case hd => rfl); (case hg => rfl); (case hr => first | (go_simp; done) | (go_simp; rfl)); intro gb253 hg w116 hbox hb; have BK253 := Aside0.mk (hbox); have GW253 := bZ HB hg; have GE253 := bZ HB hg; replace HB := bW HB hb; clear hb hbox hg) | ((with_reducible refine gate_dst (N := 5) rfl ?_); refine box_event ?hg (N := 5) ?hd (cs := #[.string (⟨#[]⟩ : ByteArray), .int .i64 0, .float .f64 0, .string (⟨#[]⟩ : ByteArray), .int .i64 0, .int .i64 0, .float .f64 0, .string (⟨#[]⟩ : ByteArray)]) (t := 62) ?hr ?_; (case hd => rfl); (case hg => rfl); (case hr => first | (go_simp; done) | (go_simp; rfl)); intro gb254 hg w117 hbox hb; have BK254 := Aside0.mk (hbox); have GW254 := bZ HB hg; have GE254 := bZ HB hg; have NB253_254 := bL BK253 hg; have NB254_253 := bG BK253 hg; replace BK253 := bB BK253 hb; replace HB := bW HB hb; clear hb hbox hg) | ((with_reducible refine gate_callee (f := 41) rfl ?_); refine gL (some 11) Try.func41 #[.slice A0 l0.length c0] ?_; (with_reducible refine (num_GetText.calls k _ _ l0 t255 t256 t257 _ ?side1 ?side2 A2.out).mono ?_); (case side1 => repeat (first | exact (Kd.C_below HR0.out HB.out) | (with_reducible refine Kd.C_alloc ?_ _) | (with_reducible refine Kd.C_drewN ?_ _) | (with_reducible refine Kd.C_drew ?_))); (case side2 => exact HC0.out); rintro e w' ⟨rfl, ⟨nd, rfl⟩⟩; refine ⟨_, rfl, ?_⟩; (try (rw [drewN_self w117]; generalize hq_ : World.drewN w117 _ = w117; have n0_ := bE BK253 hq_.symm; have n1_ := bE BK254 hq_.symm; have n2_ := bH HB hq_.symm; clear BK253 BK254 HB hq_; have BK253 := n0_; have BK254 := n1_; have HB := n2_; clear n0_ n1_ n2_)); have hnb118 := NB254_253.out; have hnc118 := NB253_254.out; obtain ⟨hcz119_0, hcz119_1, hcz119_2, hcz119_3, hcz119_4, hcz119_5, hcz119_6, hcz119_7, hfz119_0, hfz119_1, hfz119_2, hfz119_3, hfz119_4, hfz119_5, hfz119_6, hfz119_7⟩ := bf8 (w := w117) BK254) | ((with_reducible refine gate_store (t := 9) (p := 15) rfl ?_); refine store_event (t := 9) (p := 15) (v := ?vo_w120) (w1 := (w117.setCell ⟨gb254, 0, none⟩ (.string t255))) ?hg ?ho ?hn ?hr ?_; (case ho => rfl); (case hg => rfl); (case hn => rfl); (case hr => first | (go_simp; done) | (go_simp; rfl)); intro w120 hw; replace BK253 := bE BK253 hw; replace BK254 : Aside0 (w120.heap[gb254]? = some (.cells #[.string t255, .int .i64 0, .float .f64 0, .string (⟨#[]⟩ : ByteArray), .int .i64 0, .int .i64 0, .float .f64 0, .string (⟨#[]⟩ : ByteArray)] 62 (0, 0))) := bP BK254 hw; replace HB := bH HB hw; clear hw; have q121 : (t256 : Int) ≤ ((l0.length : Int) : Int) := of_decide_eq_true (by first | (with_reducible assumption) | assumption); obtain ⟨i0121, hi0121, _, hsz121, _⟩ := info_parts info5; have hroom121 : l0.length ≤ c0 := HC0.out; have hC121 : Kd.C (Kd.int .u8) _ A0 l0.length l0 := HR0.out; have q0121 : (0 : Int) ≤ (t256 : Int) := of_decide_eq_true (by first | (with_reducible assumption) | assumption); have hcut121 := cut_from (P := Try.prog) 30 5 .i64 Try.underlying30 hi0121 1 hsz121 A0 l0.length c0 t256 q0121 q121; have hr121 := Kd.C_drop (m := (t256 : Int).toNat) (c := c0) hC121 (by omega) hroom121; obtain ⟨A121, hA121⟩ : ∃ A1, A1 = (if c0 = (t256 : Int).toNat then A0 else (A0 : Option Addr).map (·.add ((t256 : Int).toNat * 1))) := ⟨_, rfl⟩; obtain ⟨c121, hc121⟩ : ∃ c1, c1 = c0 - (t256 : Int).toNat := ⟨_, rfl⟩; have hy121 : y258.length = l0.length - (t256 : Int).toNat := (by rw [Ny258.out, List.length_drop] <;> omega); rw [show (l0).drop (t256 : Int).toNat = y258 from Ny258.out.symm] at hr121; replace hr121 : Kd.C (Kd.int .u8) _ A121 y258.length y258 := (by rw [hA121]; exact hr121); rw [← hy121, ← hA121, ← hc121] at hcut121; have HR261 := Aside0.mk hr121; have HC261 := Aside0.mk (show y258.length ≤ c121 from by rw [hy121, hc121]; exact Nat.sub_le_sub_right hroom121 _); clear hr121 hC121 hroom121 hi0121 hsz121 hc121; have KY121 := Aside0.mk hy121; have KA121 := Aside0.mk hA121; clear hy121 hA121; replace q121 := eq_true q121) | ((with_reducible refine gate_callee (f := 56) rfl ?_); refine gL (some 24) Try.func56 #[.slice A121 y258.length c121] ?_; (with_reducible refine (datum_Get.calls k _ _ y258 t262 t263 t264 t265 t266 _ ?side1 ?side2 A6.out).mono ?_); (case side1 => repeat (first | exact (Kd.C_below HR261.out HB.out) | (with_reducible refine Kd.C_alloc ?_ _) | (with_reducible refine Kd.C_drewN ?_ _) | (with_reducible refine Kd.C_drew ?_))); (case side2 => exact HC261.out); rintro e w122 ⟨rfl, hb⟩; refine ⟨_, rfl, ?_⟩; replace BK253 := bB BK253 hb; replace BK254 := bB BK254 hb; replace HB := bW HB hb; (try clear hb); (try clear hb2); (try clear hk); (try clear hi); obtain ⟨hcz123_0, hcz123_1, hcz123_2, hcz123_3, hcz123_4, hcz123_5, hcz123_6, hcz123_7, hfz123_0, hfz123_1, hfz123_2, hfz123_3, hfz123_4, hfz123_5, hfz123_6, hfz123_7⟩ := bf8 (w := w122) BK254; obtain ⟨hcz124_0, hcz124_1, hcz124_2, hcz124_3, hcz124_4, hcz124_5, hcz124_6, hcz124_7, hfz124_0, hfz124_1, hfz124_2, hfz124_3, hfz124_4, hfz124_5, hfz124_6, hfz124_7⟩ := bf8 (w := w122) BK253))
  refine bodyPost_ret (results_ctt rfl _ _ gb253 62 #[.string (⟨#[]⟩ : ByteArray), .int .i64 0, .float .f64 0, .string (⟨#[]⟩ : ByteArray), .int .i64 0, .int .i64 0, .float .f64 0, .string (⟨#[]⟩ : ByteArray)] (0, 0) _ rfl (bR BK253) Try.underlying62 rfl (by kernel_rfl)) rfl ?_
  exact xB HB
 rw [if_pos c7] at H
 have c7b0 : (t266 == 0) = true := beq_iff_eq.mpr c7
 have c7b1 : (t266 != 0) = false := bne_eq_false_iff_eq.mpr c7
 clear c7
 obtain ⟨ji8, hji8⟩ : ∃ j_ : Int, (wrap64 (t256 + t265)) = j_ := ⟨_, rfl⟩
 replace H : (if 0 ≤ (ji8) then (if (ji8) ≤ (l0.length : Int) then ((num_Get.f k (l0.drop ((ji8) : Int).toNat)).bind fun bt271 => (if bt271.2.2 = 0 then (if bt271.1 > 0 then (if 0 ≤ (wrap64 ((ji8) + bt271.2.1)) then (if (wrap64 ((ji8) + bt271.2.1)) ≤ (l0.length : Int) then ((datum_Get.f k (l0.drop ((wrap64 ((ji8) + bt271.2.1)) : Int).toNat)).bind fun bt278 => (if bt278.2.2.2.2 = 0 then ((cell_May.f k t255 t262 t263 t264 bt271.1 bt278.1 bt278.2.1 bt278.2.2.1).bind fun t283 => (if t283 = true then (some (t255, t262, t263, t264, bt271.1, bt278.1, bt278.2.1, bt278.2.2.1, wrap64 ((wrap64 ((ji8) + bt271.2.1)) + bt278.2.2.2.1), 0)) else (some ((⟨#[]⟩ : ByteArray), 0, 0, (⟨#[]⟩ : ByteArray), 0, 0, 0, (⟨#[]⟩ : ByteArray), 0, 1)))) else (some ((⟨#[]⟩ : ByteArray), 0, 0, (⟨#[]⟩ : ByteArray), 0, 0, 0, (⟨#[]⟩ : ByteArray), 0, bt278.2.2.2.2)))) else (none)) else (none)) else ((cell_May.f k t255 t262 t263 t264 bt271.1 0 0 (⟨#[]⟩ : ByteArray)).bind fun t284 => (if t284 = true then (some (t255, t262, t263, t264, bt271.1, 0, 0, (⟨#[]⟩ : ByteArray), wrap64 ((ji8) + bt271.2.1), 0)) else (some ((⟨#[]⟩ : ByteArray), 0, 0, (⟨#[]⟩ : ByteArray), 0, 0, 0, (⟨#[]⟩ : ByteArray), 0, 1))))) else (some ((⟨#[]⟩ : ByteArray), 0, 0, (⟨#[]⟩ : ByteArray), 0, 0, 0, (⟨#[]⟩ : ByteArray), 0, bt271.2.2)))) else (none)) else (none)) = some (r1, r2, r3, r4, r5, r6, r7, r8, r9, r10) := by first | (rw [hji8] at H; exact H) | (simp only [hji8] at H ⊢; exact H)
 (try rw [hji8] at A2)
 (try rw [hji8] at A6)
 have hji8w : (IntKind.i64.wrap (t256 + t265)) = ji8 := (i64_w _).trans hji8
 by_cases c9 : 0 ≤ (ji8)
 rotate_left
 ·rw [if_neg c9] at H
  exact absurd H (by simp)
 rw [if_pos c9] at H
 have c9b0 := eq_true c9
 have c9b1 : decide (0 ≤ (ji8)) = true := decide_eq_true c9
 clear c9
 by_cases c10 : (ji8) ≤ (l0.length : Int)
 rotate_left
 ·rw [if_neg c10] at H
  exact absurd H (by simp)
 rw [if_pos c10] at H
 have c10b0 := eq_true c10
 have c10b1 : decide ((ji8) ≤ (l0.length : Int)) = true := decide_eq_true c10
 clear c10
 obtain ⟨y267, hy267⟩ : ∃ y_ : List Int, y_ = (l0.drop ((ji8) : Int).toNat) := ⟨_, rfl⟩
 replace H : ((num_Get.f k y267).bind fun bt271 => (if bt271.2.2 = 0 then (if bt271.1 > 0 then (if 0 ≤ (wrap64 ((ji8) + bt271.2.1)) then (if (wrap64 ((ji8) + bt271.2.1)) ≤ (l0.length : Int) then ((datum_Get.f k (l0.drop ((wrap64 ((ji8) + bt271.2.1)) : Int).toNat)).bind fun bt278 => (if bt278.2.2.2.2 = 0 then ((cell_May.f k t255 t262 t263 t264 bt271.1 bt278.1 bt278.2.1 bt278.2.2.1).bind fun t283 => (if t283 = true then (some (t255, t262, t263, t264, bt271.1, bt278.1, bt278.2.1, bt278.2.2.1, wrap64 ((wrap64 ((ji8) + bt271.2.1)) + bt278.2.2.2.1), 0)) else (some ((⟨#[]⟩ : ByteArray), 0, 0, (⟨#[]⟩ : ByteArray), 0, 0, 0, (⟨#[]⟩ : ByteArray), 0, 1)))) else (some ((⟨#[]⟩ : ByteArray), 0, 0, (⟨#[]⟩ : ByteArray), 0, 0, 0, (⟨#[]⟩ : ByteArray), 0, bt278.2.2.2.2)))) else (none)) else (none)) else ((cell_May.f k t255 t262 t263 t264 bt271.1 0 0 (⟨#[]⟩ : ByteArray)).bind fun t284 => (if t284 = true then (some (t255, t262, t263, t264, bt271.1, 0, 0, (⟨#[]⟩ : ByteArray), wrap64 ((ji8) + bt271.2.1), 0)) else (some ((⟨#[]⟩ : ByteArray), 0, 0, (⟨#[]⟩ : ByteArray), 0, 0, 0, (⟨#[]⟩ : ByteArray), 0, 1))))) else (some ((⟨#[]⟩ : ByteArray), 0, 0, (⟨#[]⟩ : ByteArray), 0, 0, 0, (⟨#[]⟩ : ByteArray), 0, bt271.2.2)))) = some (r1, r2, r3, r4, r5, r6, r7, r8, r9, r10) := by first | (rw [hy267]; with_reducible exact H) | (have H2_ := (Option.bind_some _ _).symm.trans H; rw [hy267]; with_reducible exact H2_) | (have H2_ := (Option.bind_some _ _).symm.trans H; with_reducible exact H2_) | with_reducible exact H | (rw [hy267]; exact H) | exact H
 have Ny267 := Aside0.mk hy267
 clear hy267
 replace H := Option.bind_eq_some_iff.mp H
 obtain ⟨⟨t271, t272, t273⟩, A110, H⟩ := H
 replace H : (if t273 = 0 then (if t271 > 0 then (if 0 ≤ (wrap64 ((ji8) + t272)) then (if (wrap64 ((ji8) + t272)) ≤ (l0.length : Int) then ((datum_Get.f k (l0.drop ((wrap64 ((ji8) + t272)) : Int).toNat)).bind fun bt278 => (if bt278.2.2.2.2 = 0 then ((cell_May.f k t255 t262 t263 t264 t271 bt278.1 bt278.2.1 bt278.2.2.1).bind fun t283 => (if t283 = true then (some (t255, t262, t263, t264, t271, bt278.1, bt278.2.1, bt278.2.2.1, wrap64 ((wrap64 ((ji8) + t272)) + bt278.2.2.2.1), 0)) else (some ((⟨#[]⟩ : ByteArray), 0, 0, (⟨#[]⟩ : ByteArray), 0, 0, 0, (⟨#[]⟩ : ByteArray), 0, 1)))) else (some ((⟨#[]⟩ : ByteArray), 0, 0, (⟨#[]⟩ : ByteArray), 0, 0, 0, (⟨#[]⟩ : ByteArray), 0, bt278.2.2.2.2)))) else (none)) else (none)) else ((cell_May.f k t255 t262 t263 t264 t271 0 0 (⟨#[]⟩ : ByteArray)).bind fun t284 => (if t284 = true then (some (t255, t262, t263, t264, t271, 0, 0, (⟨#[]⟩ : ByteArray), wrap64 ((ji8) + t272), 0)) else (some ((⟨#[]⟩ : ByteArray), 0, 0, (⟨#[]⟩ : ByteArray), 0, 0, 0, (⟨#[]⟩ : ByteArray), 0, 1))))) else (some ((⟨#[]⟩ : ByteArray), 0, 0, (⟨#[]⟩ : ByteArray), 0, 0, 0, (⟨#[]⟩ : ByteArray), 0, t273))) = some (r1, r2, r3, r4, r5, r6, r7, r8, r9, r10) := H
 have A11 := Aside0.mk A110
 clear A110
 by_cases c12 : t273 = 0
 rotate_left
 ·rw [if_neg c12] at H
  have c12b0 : (t273 == 0) = false := beq_eq_false_iff_ne.mpr c12
  have c12b1 : (t273 != 0) = true := bne_iff_ne.mpr c12
  simp only [Option.some.injEq, Prod.mk.injEq] at H
  obtain ⟨rfl, rfl, rfl, rfl, rfl, rfl, rfl, rfl, rfl, rfl⟩ := H
  go_enter Try.func39, Try.ntmps39
  go_wp2_with (first | ((with_reducible refine gate_dst (N := 2) rfl ?_); refine box_event ?hg (N := 2) ?hd (cs := #[.string (⟨#[]⟩ : ByteArray), .int .i64 0, .float .f64 0, .string (⟨#[]⟩ : ByteArray), .int .i64 0, .int .i64 0, .float .f64 0, .string (⟨#[]⟩ : ByteArray)]) (t := 62) ?hr ?_; (case hd => rfl); (case hg => rfl); (case hr => first | (go_simp; done) | (go_simp; rfl)); intro gb253 hg w104 hbox hb; have BK253 := Aside0.mk (hbox); have GW253 := bZ HB hg; have GE253 := bZ HB hg; replace HB := bW HB hb; clear hb hbox hg) | ((with_reducible refine gate_dst (N := 5) rfl ?_); refine box_event ?hg (N := 5) ?hd (cs := #[.string (⟨#[]⟩ : ByteArray), .int .i64 0, .float .f64 0, .string (⟨#[]⟩ : ByteArray), .int .i64 0, .int .i64 0, .float .f64 0, .string (⟨#[]⟩ : ByteArray)]) (t := 62) ?hr ?_; (case hd => rfl); (case hg => rfl); (case hr => first | (go_simp; done) | (go_simp; rfl)); intro gb254 hg w105 hbox hb; have BK254 := Aside0.mk (hbox); have GW254 := bZ HB hg; have GE254 := bZ HB hg; have NB253_254 := bL BK253 hg; have NB254_253 := bG BK253 hg; replace BK253 := bB BK253 hb; replace HB := bW HB hb; clear hb hbox hg) | ((with_reducible refine gate_callee (f := 41) rfl ?_); refine gL (some 11) Try.func41 #[.slice A0 l0.length c0] ?_; (with_reducible refine (num_GetText.calls k _ _ l0 t255 t256 t257 _ ?side1 ?side2 A2.out).mono ?_); (case side1 => repeat (first | exact (Kd.C_below HR0.out HB.out) | (with_reducible refine Kd.C_alloc ?_ _) | (with_reducible refine Kd.C_drewN ?_ _) | (with_reducible refine Kd.C_drew ?_))); (case side2 => exact HC0.out); rintro e w' ⟨rfl, ⟨nd, rfl⟩⟩; refine ⟨_, rfl, ?_⟩; (try (rw [drewN_self w105]; generalize hq_ : World.drewN w105 _ = w105; have n0_ := bE BK253 hq_.symm; have n1_ := bE BK254 hq_.symm; have n2_ := bH HB hq_.symm; clear BK253 BK254 HB hq_; have BK253 := n0_; have BK254 := n1_; have HB := n2_; clear n0_ n1_ n2_)); have hnb106 := NB254_253.out; have hnc106 := NB253_254.out; obtain ⟨hcz107_0, hcz107_1, hcz107_2, hcz107_3, hcz107_4, hcz107_5, hcz107_6, hcz107_7, hfz107_0, hfz107_1, hfz107_2, hfz107_3, hfz107_4, hfz107_5, hfz107_6, hfz107_7⟩ := bf8 (w := w105) BK254) | ((with_reducible refine gate_store (t := 9) (p := 15) rfl ?_); refine store_event (t := 9) (p := 15) (v := ?vo_w108) (w1 := (w105.setCell ⟨gb254, 0, none⟩ (.string t255))) ?hg ?ho ?hn ?hr ?_; (case ho => rfl); (case hg => rfl); (case hn => rfl); (case hr => first | (go_simp; done) | (go_simp; rfl)); intro w108 hw; replace BK253 := bE BK253 hw; replace BK254 : Aside0 (w108.heap[gb254]? = some (.cells #[.string t255, .int .i64 0, .float .f64 0, .string (⟨#[]⟩ : ByteArray), .int .i64 0, .int .i64 0, .float .f64 0, .string (⟨#[]⟩ : ByteArray)] 62 (0, 0))) := bP BK254 hw; replace HB := bH HB hw; clear hw; have q109 : (t256 : Int) ≤ ((l0.length : Int) : Int) := of_decide_eq_true (by first | (with_reducible assumption) | assumption); obtain ⟨i0109, hi0109, _, hsz109, _⟩ := info_parts info5; have hroom109 : l0.length ≤ c0 := HC0.out; have hC109 : Kd.C (Kd.int .u8) _ A0 l0.length l0 := HR0.out; have q0109 : (0 : Int) ≤ (t256 : Int) := of_decide_eq_true (by first | (with_reducible assumption) | assumption); have hcut109 := cut_from (P := Try.prog) 30 5 .i64 Try.underlying30 hi0109 1 hsz109 A0 l0.length c0 t256 q0109 q109; have hr109 := Kd.C_drop (m := (t256 : Int).toNat) (c := c0) hC109 (by omega) hroom109; obtain ⟨A109, hA109⟩ : ∃ A1, A1 = (if c0 = (t256 : Int).toNat then A0 else (A0 : Option Addr).map (·.add ((t256 : Int).toNat * 1))) := ⟨_, rfl⟩; obtain ⟨c109, hc109⟩ : ∃ c1, c1 = c0 - (t256 : Int).toNat := ⟨_, rfl⟩; have hy109 : y258.length = l0.length - (t256 : Int).toNat := (by rw [Ny258.out, List.length_drop] <;> omega); rw [show (l0).drop (t256 : Int).toNat = y258 from Ny258.out.symm] at hr109; replace hr109 : Kd.C (Kd.int .u8) _ A109 y258.length y258 := (by rw [hA109]; exact hr109); rw [← hy109, ← hA109, ← hc109] at hcut109; have HR261 := Aside0.mk hr109; have HC261 := Aside0.mk (show y258.length ≤ c109 from by rw [hy109, hc109]; exact Nat.sub_le_sub_right hroom109 _); clear hr109 hC109 hroom109 hi0109 hsz109 hc109; have KY109 := Aside0.mk hy109; have KA109 := Aside0.mk hA109; clear hy109 hA109; replace q109 := eq_true q109) | ((with_reducible refine gate_callee (f := 56) rfl ?_); refine gL (some 24) Try.func56 #[.slice A109 y258.length c109] ?_; (with_reducible refine (datum_Get.calls k _ _ y258 t262 t263 t264 t265 t266 _ ?side1 ?side2 A6.out).mono ?_); (case side1 => repeat (first | exact (Kd.C_below HR261.out HB.out) | (with_reducible refine Kd.C_alloc ?_ _) | (with_reducible refine Kd.C_drewN ?_ _) | (with_reducible refine Kd.C_drew ?_))); (case side2 => exact HC261.out); rintro e w110 ⟨rfl, hb⟩; refine ⟨_, rfl, ?_⟩; replace BK253 := bB BK253 hb; replace BK254 := bB BK254 hb; replace HB := bW HB hb; (try clear hb); (try clear hb2); (try clear hk); (try clear hi); obtain ⟨hcz111_0, hcz111_1, hcz111_2, hcz111_3, hcz111_4, hcz111_5, hcz111_6, hcz111_7, hfz111_0, hfz111_1, hfz111_2, hfz111_3, hfz111_4, hfz111_5, hfz111_6, hfz111_7⟩ := bf8 (w := w110) BK254) | ((with_reducible refine gate_store (t := 54) (p := 28) rfl ?_); refine store_event (t := 54) (p := 28) (v := ?vo_w112) (w1 := (((w110.setCell ⟨gb254, 1, none⟩ (.int .i64 t262)).setCell ⟨gb254, 2, none⟩ (.float .f64 t263)).setCell ⟨gb254, 3, none⟩ (.string t264))) ?hg ?ho ?hn ?hr ?_; (case ho => rfl); (case hg => rfl); (case hn => rfl); (case hr => first | (go_simp; done) | (go_simp; rfl)); intro w112 hw; replace BK253 := bE BK253 hw; replace BK254 : Aside0 (w112.heap[gb254]? = some (.cells #[.string t255, .int .i64 t262, .float .f64 t263, .string t264, .int .i64 0, .int .i64 0, .float .f64 0, .string (⟨#[]⟩ : ByteArray)] 62 (0, 0))) := bP BK254 hw; replace HB := bH HB hw; clear hw; have q113 : ((ji8) : Int) ≤ ((l0.length : Int) : Int) := of_decide_eq_true (by first | (with_reducible assumption) | assumption); obtain ⟨i0113, hi0113, _, hsz113, _⟩ := info_parts info5; have hroom113 : l0.length ≤ c0 := HC0.out; have hC113 : Kd.C (Kd.int .u8) _ A0 l0.length l0 := HR0.out; have q0113 : (0 : Int) ≤ ((ji8) : Int) := of_decide_eq_true (by first | (with_reducible assumption) | assumption); have hcut113 := cut_from (P := Try.prog) 30 5 .i64 Try.underlying30 hi0113 1 hsz113 A0 l0.length c0 (ji8) q0113 q113; have hr113 := Kd.C_drop (m := ((ji8) : Int).toNat) (c := c0) hC113 (by omega) hroom113; obtain ⟨A113, hA113⟩ : ∃ A1, A1 = (if c0 = ((ji8) : Int).toNat then A0 else (A0 : Option Addr).map (·.add (((ji8) : Int).toNat * 1))) := ⟨_, rfl⟩; obtain ⟨c113, hc113⟩ : ∃ c1, c1 = c0 - ((ji8) : Int).toNat := ⟨_, rfl⟩; have hy113 : y267.length = l0.length - ((ji8) : Int).toNat := (by rw [Ny267.out, List.length_drop] <;> omega); rw [show (l0).drop ((ji8) : Int).toNat = y267 from Ny267.out.symm] at hr113; replace hr113 : Kd.C (Kd.int .u8) _ A113 y267.length y267 := (by rw [hA113]; exact hr113); rw [← hy113, ← hA113, ← hc113] at hcut113; have HR270 := Aside0.mk hr113; have HC270 := Aside0.mk (show y267.length ≤ c113 from by rw [hy113, hc113]; exact Nat.sub_le_sub_right hroom113 _); clear hr113 hC113 hroom113 hi0113 hsz113 hc113; have KY113 := Aside0.mk hy113; have KA113 := Aside0.mk hA113; clear hy113 hA113; replace q113 := eq_true q113) | ((with_reducible refine gate_callee (f := 55) rfl ?_); refine gL (some 40) Try.func55 #[.slice A113 y267.length c113] ?_; (with_reducible refine (num_Get.calls k _ _ y267 t271 t272 t273 _ ?side1 ?side2 A11.out).mono ?_); (case side1 => repeat (first | exact (Kd.C_below HR270.out HB.out) | (with_reducible refine Kd.C_alloc ?_ _) | (with_reducible refine Kd.C_drewN ?_ _) | (with_reducible refine Kd.C_drew ?_))); (case side2 => exact HC270.out); rintro e w' ⟨rfl, ⟨nd, rfl⟩⟩; refine ⟨_, rfl, ?_⟩; (try (rw [drewN_self w112]; generalize hq_ : World.drewN w112 _ = w112; have n0_ := bE BK253 hq_.symm; have n1_ := bE BK254 hq_.symm; have n2_ := bH HB hq_.symm; clear BK253 BK254 HB hq_; have BK253 := n0_; have BK254 := n1_; have HB := n2_; clear n0_ n1_ n2_)); obtain ⟨hcz114_0, hcz114_1, hcz114_2, hcz114_3, hcz114_4, hcz114_5, hcz114_6, hcz114_7, hfz114_0, hfz114_1, hfz114_2, hfz114_3, hfz114_4, hfz114_5, hfz114_6, hfz114_7⟩ := bf8 (w := w112) BK254; obtain ⟨hcz115_0, hcz115_1, hcz115_2, hcz115_3, hcz115_4, hcz115_5, hcz115_6, hcz115_7, hfz115_0, hfz115_1, hfz115_2, hfz115_3, hfz115_4, hfz115_5, hfz115_6, hfz115_7⟩ := bf8 (w := w112) BK253))
  refine bodyPost_ret (results_ctt rfl _ _ gb253 62 #[.string (⟨#[]⟩ : ByteArray), .int .i64 0, .float .f64 0, .string (⟨#[]⟩ : ByteArray), .int .i64 0, .int .i64 0, .float .f64 0, .string (⟨#[]⟩ : ByteArray)] (0, 0) _ rfl (bR BK253) Try.underlying62 rfl (by kernel_rfl)) rfl ?_
  exact ⟨by first | rfl | (simp [errW_none, errW_some] <;> rfl) | (simp only [← hji8]; first | rfl | (simp [errW_none, errW_some] <;> rfl)) | (simp [*, errW_none, errW_some] <;> rfl), by repeat (first | (with_reducible first | exact HB.out | apply below_alloc | apply pw_below_drewN | apply below_drew1 | refine below_set ?_ GE253.out | refine below_set ?_ GE254.out) | exact HB.out)⟩
 rw [if_pos c12] at H
 have c12b0 : (t273 == 0) = true := beq_iff_eq.mpr c12
 have c12b1 : (t273 != 0) = false := bne_eq_false_iff_eq.mpr c12
 clear c12
 by_cases c13 : t271 > 0
 rotate_left
 ·rw [if_neg c13] at H
  have c13b0 : decide (0 < t271) = false := decide_eq_false c13
  clear c13
  replace H := Option.bind_eq_some_iff.mp H
  obtain ⟨t284, A750, H⟩ := H
  replace H : (if t284 = true then (some (t255, t262, t263, t264, t271, 0, 0, (⟨#[]⟩ : ByteArray), wrap64 ((ji8) + t272), 0)) else (some ((⟨#[]⟩ : ByteArray), 0, 0, (⟨#[]⟩ : ByteArray), 0, 0, 0, (⟨#[]⟩ : ByteArray), 0, 1))) = some (r1, r2, r3, r4, r5, r6, r7, r8, r9, r10) := H
  have A75 := Aside0.mk A750
  clear A750
  by_cases c76 : t284 = true
  ·subst c76
   have H1 : (some (t255, t262, t263, t264, t271, 0, 0, (⟨#[]⟩ : ByteArray), wrap64 ((ji8) + t272), 0)) = some (r1, r2, r3, r4, r5, r6, r7, r8, r9, r10) := by rw [if_pos rfl] at H; exact H
   clear H
   have H := H1
   clear H1
   simp only [Option.some.injEq, Prod.mk.injEq] at H
   obtain ⟨rfl, rfl, rfl, rfl, rfl, rfl, rfl, rfl, rfl, rfl⟩ := H
   go_enter Try.func39, Try.ntmps39
   go_wp2_with (first | ((with_reducible refine gate_dst (N := 2) rfl ?_); refine box_event ?hg (N := 2) ?hd (cs := #[.string (⟨#[]⟩ : ByteArray), .int .i64 0, .float .f64 0, .string (⟨#[]⟩ : ByteArray), .int .i64 0, .int .i64 0, .float .f64 0, .string (⟨#[]⟩ : ByteArray)]) (t := 62) ?hr ?_; (case hd => rfl); (case hg => rfl); (case hr => first | (go_simp; done) | (go_simp; rfl)); intro gb253 hg w77 hbox hb; have BK253 := Aside0.mk (hbox); have GW253 := bZ HB hg; have GE253 := bZ HB hg; replace HB := bW HB hb; clear hb hbox hg) | ((with_reducible refine gate_dst (N := 5) rfl ?_); refine box_event ?hg (N := 5) ?hd (cs := #[.string (⟨#[]⟩ : ByteArray), .int .i64 0, .float .f64 0, .string (⟨#[]⟩ : ByteArray), .int .i64 0, .int .i64 0, .float .f64 0, .string (⟨#[]⟩ : ByteArray)]) (t := 62) ?hr ?_; (case hd => rfl); (case hg => rfl); (case hr => first | (go_simp; done) | (go_simp; rfl)); intro gb254 hg w78 hbox hb; have BK254 := Aside0.mk (hbox); have GW254 := bZ HB hg; have GE254 := bZ HB hg; have NB253_254 := bL BK253 hg; have NB254_253 := bG BK253 hg; replace BK253 := bB BK253 hb; replace HB := bW HB hb; clear hb hbox hg) | ((with_reducible refine gate_callee (f := 41) rfl ?_); refine gL (some 11) Try.func41 #[.slice A0 l0.length c0] ?_; (with_reducible refine (num_GetText.calls k _ _ l0 t255 t256 t257 _ ?side1 ?side2 A2.out).mono ?_); (case side1 => repeat (first | exact (Kd.C_below HR0.out HB.out) | (with_reducible refine Kd.C_alloc ?_ _) | (with_reducible refine Kd.C_drewN ?_ _) | (with_reducible refine Kd.C_drew ?_))); (case side2 => exact HC0.out); rintro e w' ⟨rfl, ⟨nd, rfl⟩⟩; refine ⟨_, rfl, ?_⟩; (try (rw [drewN_self w78]; generalize hq_ : World.drewN w78 _ = w78; have n0_ := bE BK253 hq_.symm; have n1_ := bE BK254 hq_.symm; have n2_ := bH HB hq_.symm; clear BK253 BK254 HB hq_; have BK253 := n0_; have BK254 := n1_; have HB := n2_; clear n0_ n1_ n2_)); have hnb79 := NB254_253.out; have hnc79 := NB253_254.out; obtain ⟨hcz80_0, hcz80_1, hcz80_2, hcz80_3, hcz80_4, hcz80_5, hcz80_6, hcz80_7, hfz80_0, hfz80_1, hfz80_2, hfz80_3, hfz80_4, hfz80_5, hfz80_6, hfz80_7⟩ := bf8 (w := w78) BK254) | ((with_reducible refine gate_store (t := 9) (p := 15) rfl ?_); refine store_event (t := 9) (p := 15) (v := ?vo_w81) (w1 := (w78.setCell ⟨gb254, 0, none⟩ (.string t255))) ?hg ?ho ?hn ?hr ?_; (case ho => rfl); (case hg => rfl); (case hn => rfl); (case hr => first | (go_simp; done) | (go_simp; rfl)); intro w81 hw; replace BK253 := bE BK253 hw; replace BK254 : Aside0 (w81.heap[gb254]? = some (.cells #[.string t255, .int .i64 0, .float .f64 0, .string (⟨#[]⟩ : ByteArray), .int .i64 0, .int .i64 0, .float .f64 0, .string (⟨#[]⟩ : ByteArray)] 62 (0, 0))) := bP BK254 hw; replace HB := bH HB hw; clear hw; have q82 : (t256 : Int) ≤ ((l0.length : Int) : Int) := of_decide_eq_true (by first | (with_reducible assumption) | assumption); obtain ⟨i082, hi082, _, hsz82, _⟩ := info_parts info5; have hroom82 : l0.length ≤ c0 := HC0.out; have hC82 : Kd.C (Kd.int .u8) _ A0 l0.length l0 := HR0.out; have q082 : (0 : Int) ≤ (t256 : Int) := of_decide_eq_true (by first | (with_reducible assumption) | assumption); have hcut82 := cut_from (P := Try.prog) 30 5 .i64 Try.underlying30 hi082 1 hsz82 A0 l0.length c0 t256 q082 q82; have hr82 := Kd.C_drop (m := (t256 : Int).toNat) (c := c0) hC82 (by omega) hroom82; obtain ⟨A82, hA82⟩ : ∃ A1, A1 = (if c0 = (t256 : Int).toNat then A0 else (A0 : Option Addr).map (·.add ((t256 : Int).toNat * 1))) := ⟨_, rfl⟩; obtain ⟨c82, hc82⟩ : ∃ c1, c1 = c0 - (t256 : Int).toNat := ⟨_, rfl⟩; have hy82 : y258.length = l0.length - (t256 : Int).toNat := (by rw [Ny258.out, List.length_drop] <;> omega); rw [show (l0).drop (t256 : Int).toNat = y258 from Ny258.out.symm] at hr82; replace hr82 : Kd.C (Kd.int .u8) _ A82 y258.length y258 := (by rw [hA82]; exact hr82); rw [← hy82, ← hA82, ← hc82] at hcut82; have HR261 := Aside0.mk hr82; have HC261 := Aside0.mk (show y258.length ≤ c82 from by rw [hy82, hc82]; exact Nat.sub_le_sub_right hroom82 _); clear hr82 hC82 hroom82 hi082 hsz82 hc82; have KY82 := Aside0.mk hy82; have KA82 := Aside0.mk hA82; clear hy82 hA82; replace q82 := eq_true q82) | ((with_reducible refine gate_callee (f := 56) rfl ?_); refine gL (some 24) Try.func56 #[.slice A82 y258.length c82] ?_; (with_reducible refine (datum_Get.calls k _ _ y258 t262 t263 t264 t265 t266 _ ?side1 ?side2 A6.out).mono ?_); (case side1 => repeat (first | exact (Kd.C_below HR261.out HB.out) | (with_reducible refine Kd.C_alloc ?_ _) | (with_reducible refine Kd.C_drewN ?_ _) | (with_reducible refine Kd.C_drew ?_))); (case side2 => exact HC261.out); rintro e w83 ⟨rfl, hb⟩; refine ⟨_, rfl, ?_⟩; replace BK253 := bB BK253 hb; replace BK254 := bB BK254 hb; replace HB := bW HB hb; (try clear hb); (try clear hb2); (try clear hk); (try clear hi); obtain ⟨hcz84_0, hcz84_1, hcz84_2, hcz84_3, hcz84_4, hcz84_5, hcz84_6, hcz84_7, hfz84_0, hfz84_1, hfz84_2, hfz84_3, hfz84_4, hfz84_5, hfz84_6, hfz84_7⟩ := bf8 (w := w83) BK254) | ((with_reducible refine gate_store (t := 54) (p := 28) rfl ?_); refine store_event (t := 54) (p := 28) (v := ?vo_w85) (w1 := (((w83.setCell ⟨gb254, 1, none⟩ (.int .i64 t262)).setCell ⟨gb254, 2, none⟩ (.float .f64 t263)).setCell ⟨gb254, 3, none⟩ (.string t264))) ?hg ?ho ?hn ?hr ?_; (case ho => rfl); (case hg => rfl); (case hn => rfl); (case hr => first | (go_simp; done) | (go_simp; rfl)); intro w85 hw; replace BK253 := bE BK253 hw; replace BK254 : Aside0 (w85.heap[gb254]? = some (.cells #[.string t255, .int .i64 t262, .float .f64 t263, .string t264, .int .i64 0, .int .i64 0, .float .f64 0, .string (⟨#[]⟩ : ByteArray)] 62 (0, 0))) := bP BK254 hw; replace HB := bH HB hw; clear hw; have q86 : ((ji8) : Int) ≤ ((l0.length : Int) : Int) := of_decide_eq_true (by first | (with_reducible assumption) | assumption); obtain ⟨i086, hi086, _, hsz86, _⟩ := info_parts info5; have hroom86 : l0.length ≤ c0 := HC0.out; have hC86 : Kd.C (Kd.int .u8) _ A0 l0.length l0 := HR0.out; have q086 : (0 : Int) ≤ ((ji8) : Int) := of_decide_eq_true (by first | (with_reducible assumption) | assumption); have hcut86 := cut_from (P := Try.prog) 30 5 .i64 Try.underlying30 hi086 1 hsz86 A0 l0.length c0 (ji8) q086 q86; have hr86 := Kd.C_drop (m := ((ji8) : Int).toNat) (c := c0) hC86 (by omega) hroom86; obtain ⟨A86, hA86⟩ : ∃ A1, A1 = (if c0 = ((ji8) : Int).toNat then A0 else (A0 : Option Addr).map (·.add (((ji8) : Int).toNat * 1))) := ⟨_, rfl⟩; obtain ⟨c86, hc86⟩ : ∃ c1, c1 = c0 - ((ji8) : Int).toNat := ⟨_, rfl⟩; have hy86 : y267.length = l0.length - ((ji8) : Int).toNat := (by rw [Ny267.out, List.length_drop] <;> omega); rw [show (l0).drop ((ji8) : Int).toNat = y267 from Ny267.out.symm] at hr86; replace hr86 : Kd.C (Kd.int .u8) _ A86 y267.length y267 := (by rw [hA86]; exact hr86); rw [← hy86, ← hA86, ← hc86] at hcut86; have HR270 := Aside0.mk hr86; have HC270 := Aside0.mk (show y267.length ≤ c86 from by rw [hy86, hc86]; exact Nat.sub_le_sub_right hroom86 _); clear hr86 hC86 hroom86 hi086 hsz86 hc86; have KY86 := Aside0.mk hy86; have KA86 := Aside0.mk hA86; clear hy86 hA86; replace q86 := eq_true q86) | ((with_reducible refine gate_callee (f := 55) rfl ?_); refine gL (some 40) Try.func55 #[.slice A86 y267.length c86] ?_; (with_reducible refine (num_Get.calls k _ _ y267 t271 t272 t273 _ ?side1 ?side2 A11.out).mono ?_); (case side1 => repeat (first | exact (Kd.C_below HR270.out HB.out) | (with_reducible refine Kd.C_alloc ?_ _) | (with_reducible refine Kd.C_drewN ?_ _) | (with_reducible refine Kd.C_drew ?_))); (case side2 => exact HC270.out); rintro e w' ⟨rfl, ⟨nd, rfl⟩⟩; refine ⟨_, rfl, ?_⟩; (try (rw [drewN_self w85]; generalize hq_ : World.drewN w85 _ = w85; have n0_ := bE BK253 hq_.symm; have n1_ := bE BK254 hq_.symm; have n2_ := bH HB hq_.symm; clear BK253 BK254 HB hq_; have BK253 := n0_; have BK254 := n1_; have HB := n2_; clear n0_ n1_ n2_)); obtain ⟨hcz87_0, hcz87_1, hcz87_2, hcz87_3, hcz87_4, hcz87_5, hcz87_6, hcz87_7, hfz87_0, hfz87_1, hfz87_2, hfz87_3, hfz87_4, hfz87_5, hfz87_6, hfz87_7⟩ := bf8 (w := w85) BK254) | ((with_reducible refine gate_callee (f := 33) rfl ?_); refine gL (some 72) Try.func33 #[.agg #[.string t255, .int .i64 t262, .float .f64 t263, .string t264, .int .i64 t271, .int .i64 0, .float .f64 0, .string (⟨#[]⟩ : ByteArray)]] ?_; (with_reducible refine (cell_May.calls k t255 t262 t263 t264 t271 0 0 (⟨#[]⟩ : ByteArray) true _ A75.out).mono ?_); rintro e w88 ⟨rfl, hb⟩; refine ⟨_, rfl, ?_⟩; replace BK253 := bB BK253 hb; replace BK254 := Aside0.mk (blk_below (g := gb254) (o := .cells #[.string t255, .int .i64 t262, .float .f64 t263, .string t264, .int .i64 t271, .int .i64 0, .float .f64 0, .string (⟨#[]⟩ : ByteArray)] 62 (0, 0)) (bR BK254) hb); replace HB := bW HB hb; (try clear hb); (try clear hb2); (try clear hk); (try clear hi); obtain ⟨hcz89_0, hcz89_1, hcz89_2, hcz89_3, hcz89_4, hcz89_5, hcz89_6, hcz89_7, hfz89_0, hfz89_1, hfz89_2, hfz89_3, hfz89_4, hfz89_5, hfz89_6, hfz89_7⟩ := bf8 (w := w88) BK254; obtain ⟨hcz90_0, hcz90_1, hcz90_2, hcz90_3, hcz90_4, hcz90_5, hcz90_6, hcz90_7, hfz90_0, hfz90_1, hfz90_2, hfz90_3, hfz90_4, hfz90_5, hfz90_6, hfz90_7⟩ := bf8 (w := w88) BK253))
   refine bodyPost_ret (results_ctt rfl _ _ gb253 62 #[.string t255, .int .i64 t262, .float .f64 t263, .string t264, .int .i64 t271, .int .i64 0, .float .f64 0, .string (⟨#[]⟩ : ByteArray)] (0, 0) _ rfl (bR BK253) Try.underlying62 rfl (by kernel_rfl)) rfl ?_
   exact ⟨by first | rfl | (simp [errW_none, errW_some] <;> rfl) | (simp only [← hji8]; first | rfl | (simp [errW_none, errW_some] <;> rfl)) | (simp [*, errW_none, errW_some] <;> rfl), by repeat (first | (with_reducible first | exact HB.out | apply below_alloc | apply pw_below_drewN | apply below_drew1 | refine below_set ?_ GE253.out | refine below_set ?_ GE254.out) | exact HB.out)⟩
  replace c76 := Bool.eq_false_iff.mpr c76
  subst c76
  have H1 : (some ((⟨#[]⟩ : ByteArray), 0, 0, (⟨#[]⟩ : ByteArray), 0, 0, 0, (⟨#[]⟩ : ByteArray), 0, 1)) = some (r1, r2, r3, r4, r5, r6, r7, r8, r9, r10) := by rw [if_neg (show ¬ (false = true) by decide)] at H; exact H
  clear H
  have H := H1
  clear H1
  simp only [Option.some.injEq, Prod.mk.injEq] at H
  obtain ⟨rfl, rfl, rfl, rfl, rfl, rfl, rfl, rfl, rfl, rfl⟩ := H
  go_enter Try.func39, Try.ntmps39
  go_wp2_with (first | ((with_reducible refine gate_dst (N := 2) rfl ?_); refine box_event ?hg (N := 2) ?hd (cs := #[.string (⟨#[]⟩ : ByteArray), .int .i64 0, .float .f64 0, .string (⟨#[]⟩ : ByteArray), .int .i64 0, .int .i64 0, .float .f64 0, .string (⟨#[]⟩ : ByteArray)]) (t := 62) ?hr ?_; (case hd => rfl); (case hg => rfl); (case hr => first | (go_simp; done) | (go_simp; rfl)); intro gb253 hg w91 hbox hb; have BK253 := Aside0.mk (hbox); have GW253 := bZ HB hg; have GE253 := bZ HB hg; replace HB := bW HB hb; clear hb hbox hg) | ((with_reducible refine gate_dst (N := 5) rfl ?_); refine box_event ?hg (N := 5) ?hd (cs := #[.string (⟨#[]⟩ : ByteArray), .int .i64 0, .float .f64 0, .string (⟨#[]⟩ : ByteArray), .int .i64 0, .int .i64 0, .float .f64 0, .string (⟨#[]⟩ : ByteArray)]) (t := 62) ?hr ?_; (case hd => rfl); (case hg => rfl); (case hr => first | (go_simp; done) | (go_simp; rfl)); intro gb254 hg w92 hbox hb; have BK254 := Aside0.mk (hbox); have GW254 := bZ HB hg; have GE254 := bZ HB hg; have NB253_254 := bL BK253 hg; have NB254_253 := bG BK253 hg; replace BK253 := bB BK253 hb; replace HB := bW HB hb; clear hb hbox hg) | ((with_reducible refine gate_callee (f := 41) rfl ?_); refine gL (some 11) Try.func41 #[.slice A0 l0.length c0] ?_; (with_reducible refine (num_GetText.calls k _ _ l0 t255 t256 t257 _ ?side1 ?side2 A2.out).mono ?_); (case side1 => repeat (first | exact (Kd.C_below HR0.out HB.out) | (with_reducible refine Kd.C_alloc ?_ _) | (with_reducible refine Kd.C_drewN ?_ _) | (with_reducible refine Kd.C_drew ?_))); (case side2 => exact HC0.out); rintro e w' ⟨rfl, ⟨nd, rfl⟩⟩; refine ⟨_, rfl, ?_⟩; (try (rw [drewN_self w92]; generalize hq_ : World.drewN w92 _ = w92; have n0_ := bE BK253 hq_.symm; have n1_ := bE BK254 hq_.symm; have n2_ := bH HB hq_.symm; clear BK253 BK254 HB hq_; have BK253 := n0_; have BK254 := n1_; have HB := n2_; clear n0_ n1_ n2_)); have hnb93 := NB254_253.out; have hnc93 := NB253_254.out; obtain ⟨hcz94_0, hcz94_1, hcz94_2, hcz94_3, hcz94_4, hcz94_5, hcz94_6, hcz94_7, hfz94_0, hfz94_1, hfz94_2, hfz94_3, hfz94_4, hfz94_5, hfz94_6, hfz94_7⟩ := bf8 (w := w92) BK254) | ((with_reducible refine gate_store (t := 9) (p := 15) rfl ?_); refine store_event (t := 9) (p := 15) (v := ?vo_w95) (w1 := (w92.setCell ⟨gb254, 0, none⟩ (.string t255))) ?hg ?ho ?hn ?hr ?_; (case ho => rfl); (case hg => rfl); (case hn => rfl); (case hr => first | (go_simp; done) | (go_simp; rfl)); intro w95 hw; replace BK253 := bE BK253 hw; replace BK254 : Aside0 (w95.heap[gb254]? = some (.cells #[.string t255, .int .i64 0, .float .f64 0, .string (⟨#[]⟩ : ByteArray), .int .i64 0, .int .i64 0, .float .f64 0, .string (⟨#[]⟩ : ByteArray)] 62 (0, 0))) := bP BK254 hw; replace HB := bH HB hw; clear hw; have q96 : (t256 : Int) ≤ ((l0.length : Int) : Int) := of_decide_eq_true (by first | (with_reducible assumption) | assumption); obtain ⟨i096, hi096, _, hsz96, _⟩ := info_parts info5; have hroom96 : l0.length ≤ c0 := HC0.out; have hC96 : Kd.C (Kd.int .u8) _ A0 l0.length l0 := HR0.out; have q096 : (0 : Int) ≤ (t256 : Int) := of_decide_eq_true (by first | (with_reducible assumption) | assumption); have hcut96 := cut_from (P := Try.prog) 30 5 .i64 Try.underlying30 hi096 1 hsz96 A0 l0.length c0 t256 q096 q96; have hr96 := Kd.C_drop (m := (t256 : Int).toNat) (c := c0) hC96 (by omega) hroom96; obtain ⟨A96, hA96⟩ : ∃ A1, A1 = (if c0 = (t256 : Int).toNat then A0 else (A0 : Option Addr).map (·.add ((t256 : Int).toNat * 1))) := ⟨_, rfl⟩; obtain ⟨c96, hc96⟩ : ∃ c1, c1 = c0 - (t256 : Int).toNat := ⟨_, rfl⟩; have hy96 : y258.length = l0.length - (t256 : Int).toNat := (by rw [Ny258.out, List.length_drop] <;> omega); rw [show (l0).drop (t256 : Int).toNat = y258 from Ny258.out.symm] at hr96; replace hr96 : Kd.C (Kd.int .u8) _ A96 y258.length y258 := (by rw [hA96]; exact hr96); rw [← hy96, ← hA96, ← hc96] at hcut96; have HR261 := Aside0.mk hr96; have HC261 := Aside0.mk (show y258.length ≤ c96 from by rw [hy96, hc96]; exact Nat.sub_le_sub_right hroom96 _); clear hr96 hC96 hroom96 hi096 hsz96 hc96; have KY96 := Aside0.mk hy96; have KA96 := Aside0.mk hA96; clear hy96 hA96; replace q96 := eq_true q96) | ((with_reducible refine gate_callee (f := 56) rfl ?_); refine gL (some 24) Try.func56 #[.slice A96 y258.length c96] ?_; (with_reducible refine (datum_Get.calls k _ _ y258 t262 t263 t264 t265 t266 _ ?side1 ?side2 A6.out).mono ?_); (case side1 => repeat (first | exact (Kd.C_below HR261.out HB.out) | (with_reducible refine Kd.C_alloc ?_ _) | (with_reducible refine Kd.C_drewN ?_ _) | (with_reducible refine Kd.C_drew ?_))); (case side2 => exact HC261.out); rintro e w97 ⟨rfl, hb⟩; refine ⟨_, rfl, ?_⟩; replace BK253 := bB BK253 hb; replace BK254 := bB BK254 hb; replace HB := bW HB hb; (try clear hb); (try clear hb2); (try clear hk); (try clear hi); obtain ⟨hcz98_0, hcz98_1, hcz98_2, hcz98_3, hcz98_4, hcz98_5, hcz98_6, hcz98_7, hfz98_0, hfz98_1, hfz98_2, hfz98_3, hfz98_4, hfz98_5, hfz98_6, hfz98_7⟩ := bf8 (w := w97) BK254) | ((with_reducible refine gate_store (t := 54) (p := 28) rfl ?_); refine store_event (t := 54) (p := 28) (v := ?vo_w99) (w1 := (((w97.setCell ⟨gb254, 1, none⟩ (.int .i64 t262)).setCell ⟨gb254, 2, none⟩ (.float .f64 t263)).setCell ⟨gb254, 3, none⟩ (.string t264))) ?hg ?ho ?hn ?hr ?_; (case ho => rfl); (case hg => rfl); (case hn => rfl); (case hr => first | (go_simp; done) | (go_simp; rfl)); intro w99 hw; replace BK253 := bE BK253 hw; replace BK254 : Aside0 (w99.heap[gb254]? = some (.cells #[.string t255, .int .i64 t262, .float .f64 t263, .string t264, .int .i64 0, .int .i64 0, .float .f64 0, .string (⟨#[]⟩ : ByteArray)] 62 (0, 0))) := bP BK254 hw; replace HB := bH HB hw; clear hw; have q100 : ((ji8) : Int) ≤ ((l0.length : Int) : Int) := of_decide_eq_true (by first | (with_reducible assumption) | assumption); obtain ⟨i0100, hi0100, _, hsz100, _⟩ := info_parts info5; have hroom100 : l0.length ≤ c0 := HC0.out; have hC100 : Kd.C (Kd.int .u8) _ A0 l0.length l0 := HR0.out; have q0100 : (0 : Int) ≤ ((ji8) : Int) := of_decide_eq_true (by first | (with_reducible assumption) | assumption); have hcut100 := cut_from (P := Try.prog) 30 5 .i64 Try.underlying30 hi0100 1 hsz100 A0 l0.length c0 (ji8) q0100 q100; have hr100 := Kd.C_drop (m := ((ji8) : Int).toNat) (c := c0) hC100 (by omega) hroom100; obtain ⟨A100, hA100⟩ : ∃ A1, A1 = (if c0 = ((ji8) : Int).toNat then A0 else (A0 : Option Addr).map (·.add (((ji8) : Int).toNat * 1))) := ⟨_, rfl⟩; obtain ⟨c100, hc100⟩ : ∃ c1, c1 = c0 - ((ji8) : Int).toNat := ⟨_, rfl⟩; have hy100 : y267.length = l0.length - ((ji8) : Int).toNat := (by rw [Ny267.out, List.length_drop] <;> omega); rw [show (l0).drop ((ji8) : Int).toNat = y267 from Ny267.out.symm] at hr100; replace hr100 : Kd.C (Kd.int .u8) _ A100 y267.length y267 := (by rw [hA100]; exact hr100); rw [← hy100, ← hA100, ← hc100] at hcut100; have HR270 := Aside0.mk hr100; have HC270 := Aside0.mk (show y267.length ≤ c100 from by rw [hy100, hc100]; exact Nat.sub_le_sub_right hroom100 _); clear hr100 hC100 hroom100 hi0100 hsz100 hc100; have KY100 := Aside0.mk hy100; have KA100 := Aside0.mk hA100; clear hy100 hA100; replace q100 := eq_true q100) | ((with_reducible refine gate_callee (f := 55) rfl ?_); refine gL (some 40) Try.func55 #[.slice A100 y267.length c100] ?_; (with_reducible refine (num_Get.calls k _ _ y267 t271 t272 t273 _ ?side1 ?side2 A11.out).mono ?_); (case side1 => repeat (first | exact (Kd.C_below HR270.out HB.out) | (with_reducible refine Kd.C_alloc ?_ _) | (with_reducible refine Kd.C_drewN ?_ _) | (with_reducible refine Kd.C_drew ?_))); (case side2 => exact HC270.out); rintro e w' ⟨rfl, ⟨nd, rfl⟩⟩; refine ⟨_, rfl, ?_⟩; (try (rw [drewN_self w99]; generalize hq_ : World.drewN w99 _ = w99; have n0_ := bE BK253 hq_.symm; have n1_ := bE BK254 hq_.symm; have n2_ := bH HB hq_.symm; clear BK253 BK254 HB hq_; have BK253 := n0_; have BK254 := n1_; have HB := n2_; clear n0_ n1_ n2_)); obtain ⟨hcz101_0, hcz101_1, hcz101_2, hcz101_3, hcz101_4, hcz101_5, hcz101_6, hcz101_7, hfz101_0, hfz101_1, hfz101_2, hfz101_3, hfz101_4, hfz101_5, hfz101_6, hfz101_7⟩ := bf8 (w := w99) BK254) | ((with_reducible refine gate_callee (f := 33) rfl ?_); refine gL (some 72) Try.func33 #[.agg #[.string t255, .int .i64 t262, .float .f64 t263, .string t264, .int .i64 t271, .int .i64 0, .float .f64 0, .string (⟨#[]⟩ : ByteArray)]] ?_; (with_reducible refine (cell_May.calls k t255 t262 t263 t264 t271 0 0 (⟨#[]⟩ : ByteArray) false _ A75.out).mono ?_); rintro e w102 ⟨rfl, hb⟩; refine ⟨_, rfl, ?_⟩; replace BK253 := bB BK253 hb; replace BK254 := Aside0.mk (blk_below (g := gb254) (o := .cells #[.string t255, .int .i64 t262, .float .f64 t263, .string t264, .int .i64 t271, .int .i64 0, .float .f64 0, .string (⟨#[]⟩ : ByteArray)] 62 (0, 0)) (bR BK254) hb); replace HB := bW HB hb; (try clear hb); (try clear hb2); (try clear hk); (try clear hi); obtain ⟨hcz103_0, hcz103_1, hcz103_2, hcz103_3, hcz103_4, hcz103_5, hcz103_6, hcz103_7, hfz103_0, hfz103_1, hfz103_2, hfz103_3, hfz103_4, hfz103_5, hfz103_6, hfz103_7⟩ := bf8 (w := w102) BK253))
  refine bodyPost_ret (results_ctt rfl _ _ gb253 62 #[.string (⟨#[]⟩ : ByteArray), .int .i64 0, .float .f64 0, .string (⟨#[]⟩ : ByteArray), .int .i64 0, .int .i64 0, .float .f64 0, .string (⟨#[]⟩ : ByteArray)] (0, 0) _ rfl (bR BK253) Try.underlying62 rfl (by kernel_rfl)) rfl ?_
  exact ⟨by first | rfl | (simp [errW_none, errW_some] <;> rfl) | (simp only [← hji8]; first | rfl | (simp [errW_none, errW_some] <;> rfl)) | (simp [*, errW_none, errW_some] <;> rfl), by repeat (first | (with_reducible first | exact HB.out | apply below_alloc | apply pw_below_drewN | apply below_drew1 | refine below_set ?_ GE253.out | refine below_set ?_ GE254.out) | exact HB.out)⟩
 rw [if_pos c13] at H
 have c13b0 : decide (0 < t271) = true := decide_eq_true c13
 clear c13
 obtain ⟨ji14, hji14⟩ : ∃ j_ : Int, (wrap64 ((ji8) + t272)) = j_ := ⟨_, rfl⟩
 replace H : (if 0 ≤ (ji14) then (if (ji14) ≤ (l0.length : Int) then ((datum_Get.f k (l0.drop ((ji14) : Int).toNat)).bind fun bt278 => (if bt278.2.2.2.2 = 0 then ((cell_May.f k t255 t262 t263 t264 t271 bt278.1 bt278.2.1 bt278.2.2.1).bind fun t283 => (if t283 = true then (some (t255, t262, t263, t264, t271, bt278.1, bt278.2.1, bt278.2.2.1, wrap64 ((ji14) + bt278.2.2.2.1), 0)) else (some ((⟨#[]⟩ : ByteArray), 0, 0, (⟨#[]⟩ : ByteArray), 0, 0, 0, (⟨#[]⟩ : ByteArray), 0, 1)))) else (some ((⟨#[]⟩ : ByteArray), 0, 0, (⟨#[]⟩ : ByteArray), 0, 0, 0, (⟨#[]⟩ : ByteArray), 0, bt278.2.2.2.2)))) else (none)) else (none)) = some (r1, r2, r3, r4, r5, r6, r7, r8, r9, r10) := by first | (rw [hji14] at H; exact H) | (simp only [hji14] at H ⊢; exact H)
 (try rw [hji14] at A2)
 (try rw [hji14] at A6)
 (try rw [hji14] at A11)
 have hji14w : (IntKind.i64.wrap ((ji8) + t272)) = ji14 := (i64_w _).trans hji14
 by_cases c15 : 0 ≤ (ji14)
 rotate_left
 ·rw [if_neg c15] at H
  exact absurd H (by simp)
 rw [if_pos c15] at H
 have c15b0 := eq_true c15
 have c15b1 : decide (0 ≤ (ji14)) = true := decide_eq_true c15
 clear c15
 by_cases c16 : (ji14) ≤ (l0.length : Int)
 rotate_left
 ·rw [if_neg c16] at H
  exact absurd H (by simp)
 rw [if_pos c16] at H
 have c16b0 := eq_true c16
 have c16b1 : decide ((ji14) ≤ (l0.length : Int)) = true := decide_eq_true c16
 clear c16
 obtain ⟨y274, hy274⟩ : ∃ y_ : List Int, y_ = (l0.drop ((ji14) : Int).toNat) := ⟨_, rfl⟩
 replace H : ((datum_Get.f k y274).bind fun bt278 => (if bt278.2.2.2.2 = 0 then ((cell_May.f k t255 t262 t263 t264 t271 bt278.1 bt278.2.1 bt278.2.2.1).bind fun t283 => (if t283 = true then (some (t255, t262, t263, t264, t271, bt278.1, bt278.2.1, bt278.2.2.1, wrap64 ((ji14) + bt278.2.2.2.1), 0)) else (some ((⟨#[]⟩ : ByteArray), 0, 0, (⟨#[]⟩ : ByteArray), 0, 0, 0, (⟨#[]⟩ : ByteArray), 0, 1)))) else (some ((⟨#[]⟩ : ByteArray), 0, 0, (⟨#[]⟩ : ByteArray), 0, 0, 0, (⟨#[]⟩ : ByteArray), 0, bt278.2.2.2.2)))) = some (r1, r2, r3, r4, r5, r6, r7, r8, r9, r10) := by first | (rw [hy274]; with_reducible exact H) | (have H2_ := (Option.bind_some _ _).symm.trans H; rw [hy274]; with_reducible exact H2_) | (have H2_ := (Option.bind_some _ _).symm.trans H; with_reducible exact H2_) | with_reducible exact H | (rw [hy274]; exact H) | exact H
 have Ny274 := Aside0.mk hy274
 clear hy274
 replace H := Option.bind_eq_some_iff.mp H
 obtain ⟨⟨t278, t279, t280, t281, t282⟩, A170, H⟩ := H
 replace H : (if t282 = 0 then ((cell_May.f k t255 t262 t263 t264 t271 t278 t279 t280).bind fun t283 => (if t283 = true then (some (t255, t262, t263, t264, t271, t278, t279, t280, wrap64 ((ji14) + t281), 0)) else (some ((⟨#[]⟩ : ByteArray), 0, 0, (⟨#[]⟩ : ByteArray), 0, 0, 0, (⟨#[]⟩ : ByteArray), 0, 1)))) else (some ((⟨#[]⟩ : ByteArray), 0, 0, (⟨#[]⟩ : ByteArray), 0, 0, 0, (⟨#[]⟩ : ByteArray), 0, t282))) = some (r1, r2, r3, r4, r5, r6, r7, r8, r9, r10) := H
 have A17 := Aside0.mk A170
 clear A170
 by_cases c18 : t282 = 0
 rotate_left
 ·rw [if_neg c18] at H
  have c18b0 : (t282 == 0) = false := beq_eq_false_iff_ne.mpr c18
  have c18b1 : (t282 != 0) = true := bne_iff_ne.mpr c18
  simp only [Option.some.injEq, Prod.mk.injEq] at H
  obtain ⟨rfl, rfl, rfl, rfl, rfl, rfl, rfl, rfl, rfl, rfl⟩ := H
  go_enter Try.func39, Try.ntmps39
  go_wp2_with (first | ((with_reducible refine gate_dst (N := 2) rfl ?_); refine box_event ?hg (N := 2) ?hd (cs := #[.string (⟨#[]⟩ : ByteArray), .int .i64 0, .float .f64 0, .string (⟨#[]⟩ : ByteArray), .int .i64 0, .int .i64 0, .float .f64 0, .string (⟨#[]⟩ : ByteArray)]) (t := 62) ?hr ?_; (case hd => rfl); (case hg => rfl); (case hr => first | (go_simp; done) | (go_simp; rfl)); intro gb253 hg w58 hbox hb; have BK253 := Aside0.mk (hbox); have GW253 := bZ HB hg; have GE253 := bZ HB hg; replace HB := bW HB hb; clear hb hbox hg) | ((with_reducible refine gate_dst (N := 5) rfl ?_); refine box_event ?hg (N := 5) ?hd (cs := #[.string (⟨#[]⟩ : ByteArray), .int .i64 0, .float .f64 0, .string (⟨#[]⟩ : ByteArray), .int .i64 0, .int .i64 0, .float .f64 0, .string (⟨#[]⟩ : ByteArray)]) (t := 62) ?hr ?_; (case hd => rfl); (case hg => rfl); (case hr => first | (go_simp; done) | (go_simp; rfl)); intro gb254 hg w59 hbox hb; have BK254 := Aside0.mk (hbox); have GW254 := bZ HB hg; have GE254 := bZ HB hg; have NB253_254 := bL BK253 hg; have NB254_253 := bG BK253 hg; replace BK253 := bB BK253 hb; replace HB := bW HB hb; clear hb hbox hg) | ((with_reducible refine gate_callee (f := 41) rfl ?_); refine gL (some 11) Try.func41 #[.slice A0 l0.length c0] ?_; (with_reducible refine (num_GetText.calls k _ _ l0 t255 t256 t257 _ ?side1 ?side2 A2.out).mono ?_); (case side1 => repeat (first | exact (Kd.C_below HR0.out HB.out) | (with_reducible refine Kd.C_alloc ?_ _) | (with_reducible refine Kd.C_drewN ?_ _) | (with_reducible refine Kd.C_drew ?_))); (case side2 => exact HC0.out); rintro e w' ⟨rfl, ⟨nd, rfl⟩⟩; refine ⟨_, rfl, ?_⟩; (try (rw [drewN_self w59]; generalize hq_ : World.drewN w59 _ = w59; have n0_ := bE BK253 hq_.symm; have n1_ := bE BK254 hq_.symm; have n2_ := bH HB hq_.symm; clear BK253 BK254 HB hq_; have BK253 := n0_; have BK254 := n1_; have HB := n2_; clear n0_ n1_ n2_)); have hnb60 := NB254_253.out; have hnc60 := NB253_254.out; obtain ⟨hcz61_0, hcz61_1, hcz61_2, hcz61_3, hcz61_4, hcz61_5, hcz61_6, hcz61_7, hfz61_0, hfz61_1, hfz61_2, hfz61_3, hfz61_4, hfz61_5, hfz61_6, hfz61_7⟩ := bf8 (w := w59) BK254) | ((with_reducible refine gate_store (t := 9) (p := 15) rfl ?_); refine store_event (t := 9) (p := 15) (v := ?vo_w62) (w1 := (w59.setCell ⟨gb254, 0, none⟩ (.string t255))) ?hg ?ho ?hn ?hr ?_; (case ho => rfl); (case hg => rfl); (case hn => rfl); (case hr => first | (go_simp; done) | (go_simp; rfl)); intro w62 hw; replace BK253 := bE BK253 hw; replace BK254 : Aside0 (w62.heap[gb254]? = some (.cells #[.string t255, .int .i64 0, .float .f64 0, .string (⟨#[]⟩ : ByteArray), .int .i64 0, .int .i64 0, .float .f64 0, .string (⟨#[]⟩ : ByteArray)] 62 (0, 0))) := bP BK254 hw; replace HB := bH HB hw; clear hw; have q63 : (t256 : Int) ≤ ((l0.length : Int) : Int) := of_decide_eq_true (by first | (with_reducible assumption) | assumption); obtain ⟨i063, hi063, _, hsz63, _⟩ := info_parts info5; have hroom63 : l0.length ≤ c0 := HC0.out; have hC63 : Kd.C (Kd.int .u8) _ A0 l0.length l0 := HR0.out; have q063 : (0 : Int) ≤ (t256 : Int) := of_decide_eq_true (by first | (with_reducible assumption) | assumption); have hcut63 := cut_from (P := Try.prog) 30 5 .i64 Try.underlying30 hi063 1 hsz63 A0 l0.length c0 t256 q063 q63; have hr63 := Kd.C_drop (m := (t256 : Int).toNat) (c := c0) hC63 (by omega) hroom63; obtain ⟨A63, hA63⟩ : ∃ A1, A1 = (if c0 = (t256 : Int).toNat then A0 else (A0 : Option Addr).map (·.add ((t256 : Int).toNat * 1))) := ⟨_, rfl⟩; obtain ⟨c63, hc63⟩ : ∃ c1, c1 = c0 - (t256 : Int).toNat := ⟨_, rfl⟩; have hy63 : y258.length = l0.length - (t256 : Int).toNat := (by rw [Ny258.out, List.length_drop] <;> omega); rw [show (l0).drop (t256 : Int).toNat = y258 from Ny258.out.symm] at hr63; replace hr63 : Kd.C (Kd.int .u8) _ A63 y258.length y258 := (by rw [hA63]; exact hr63); rw [← hy63, ← hA63, ← hc63] at hcut63; have HR261 := Aside0.mk hr63; have HC261 := Aside0.mk (show y258.length ≤ c63 from by rw [hy63, hc63]; exact Nat.sub_le_sub_right hroom63 _); clear hr63 hC63 hroom63 hi063 hsz63 hc63; have KY63 := Aside0.mk hy63; have KA63 := Aside0.mk hA63; clear hy63 hA63; replace q63 := eq_true q63) | ((with_reducible refine gate_callee (f := 56) rfl ?_); refine gL (some 24) Try.func56 #[.slice A63 y258.length c63] ?_; (with_reducible refine (datum_Get.calls k _ _ y258 t262 t263 t264 t265 t266 _ ?side1 ?side2 A6.out).mono ?_); (case side1 => repeat (first | exact (Kd.C_below HR261.out HB.out) | (with_reducible refine Kd.C_alloc ?_ _) | (with_reducible refine Kd.C_drewN ?_ _) | (with_reducible refine Kd.C_drew ?_))); (case side2 => exact HC261.out); rintro e w64 ⟨rfl, hb⟩; refine ⟨_, rfl, ?_⟩; replace BK253 := bB BK253 hb; replace BK254 := bB BK254 hb; replace HB := bW HB hb; (try clear hb); (try clear hb2); (try clear hk); (try clear hi); obtain ⟨hcz65_0, hcz65_1, hcz65_2, hcz65_3, hcz65_4, hcz65_5, hcz65_6, hcz65_7, hfz65_0, hfz65_1, hfz65_2, hfz65_3, hfz65_4, hfz65_5, hfz65_6, hfz65_7⟩ := bf8 (w := w64) BK254) | ((with_reducible refine gate_store (t := 54) (p := 28) rfl ?_); refine store_event (t := 54) (p := 28) (v := ?vo_w66) (w1 := (((w64.setCell ⟨gb254, 1, none⟩ (.int .i64 t262)).setCell ⟨gb254, 2, none⟩ (.float .f64 t263)).setCell ⟨gb254, 3, none⟩ (.string t264))) ?hg ?ho ?hn ?hr ?_; (case ho => rfl); (case hg => rfl); (case hn => rfl); (case hr => first | (go_simp; done) | (go_simp; rfl)); intro w66 hw; replace BK253 := bE BK253 hw; replace BK254 : Aside0 (w66.heap[gb254]? = some (.cells #[.string t255, .int .i64 t262, .float .f64 t263, .string t264, .int .i64 0, .int .i64 0, .float .f64 0, .string (⟨#[]⟩ : ByteArray)] 62 (0, 0))) := bP BK254 hw; replace HB := bH HB hw; clear hw; have q67 : ((ji8) : Int) ≤ ((l0.length : Int) : Int) := of_decide_eq_true (by first | (with_reducible assumption) | assumption); obtain ⟨i067, hi067, _, hsz67, _⟩ := info_parts info5; have hroom67 : l0.length ≤ c0 := HC0.out; have hC67 : Kd.C (Kd.int .u8) _ A0 l0.length l0 := HR0.out; have q067 : (0 : Int) ≤ ((ji8) : Int) := of_decide_eq_true (by first | (with_reducible assumption) | assumption); have hcut67 := cut_from (P := Try.prog) 30 5 .i64 Try.underlying30 hi067 1 hsz67 A0 l0.length c0 (ji8) q067 q67; have hr67 := Kd.C_drop (m := ((ji8) : Int).toNat) (c := c0) hC67 (by omega) hroom67; obtain ⟨A67, hA67⟩ : ∃ A1, A1 = (if c0 = ((ji8) : Int).toNat then A0 else (A0 : Option Addr).map (·.add (((ji8) : Int).toNat * 1))) := ⟨_, rfl⟩; obtain ⟨c67, hc67⟩ : ∃ c1, c1 = c0 - ((ji8) : Int).toNat := ⟨_, rfl⟩; have hy67 : y267.length = l0.length - ((ji8) : Int).toNat := (by rw [Ny267.out, List.length_drop] <;> omega); rw [show (l0).drop ((ji8) : Int).toNat = y267 from Ny267.out.symm] at hr67; replace hr67 : Kd.C (Kd.int .u8) _ A67 y267.length y267 := (by rw [hA67]; exact hr67); rw [← hy67, ← hA67, ← hc67] at hcut67; have HR270 := Aside0.mk hr67; have HC270 := Aside0.mk (show y267.length ≤ c67 from by rw [hy67, hc67]; exact Nat.sub_le_sub_right hroom67 _); clear hr67 hC67 hroom67 hi067 hsz67 hc67; have KY67 := Aside0.mk hy67; have KA67 := Aside0.mk hA67; clear hy67 hA67; replace q67 := eq_true q67) | ((with_reducible refine gate_callee (f := 55) rfl ?_); refine gL (some 40) Try.func55 #[.slice A67 y267.length c67] ?_; (with_reducible refine (num_Get.calls k _ _ y267 t271 t272 t273 _ ?side1 ?side2 A11.out).mono ?_); (case side1 => repeat (first | exact (Kd.C_below HR270.out HB.out) | (with_reducible refine Kd.C_alloc ?_ _) | (with_reducible refine Kd.C_drewN ?_ _) | (with_reducible refine Kd.C_drew ?_))); (case side2 => exact HC270.out); rintro e w' ⟨rfl, ⟨nd, rfl⟩⟩; refine ⟨_, rfl, ?_⟩; (try (rw [drewN_self w66]; generalize hq_ : World.drewN w66 _ = w66; have n0_ := bE BK253 hq_.symm; have n1_ := bE BK254 hq_.symm; have n2_ := bH HB hq_.symm; clear BK253 BK254 HB hq_; have BK253 := n0_; have BK254 := n1_; have HB := n2_; clear n0_ n1_ n2_)); obtain ⟨hcz68_0, hcz68_1, hcz68_2, hcz68_3, hcz68_4, hcz68_5, hcz68_6, hcz68_7, hfz68_0, hfz68_1, hfz68_2, hfz68_3, hfz68_4, hfz68_5, hfz68_6, hfz68_7⟩ := bf8 (w := w66) BK254) | ((with_reducible refine gate_store (t := 2) (p := 44) rfl ?_); refine store_event (t := 2) (p := 44) (v := ?vo_w69) (w1 := (w66.setCell ⟨gb254, 4, none⟩ (.int .i64 t271))) ?hg ?ho ?hn ?hr ?_; (case ho => rfl); (case hg => rfl); (case hn => rfl); (case hr => first | (go_simp; done) | (go_simp; rfl)); intro w69 hw; replace BK253 := bE BK253 hw; replace BK254 : Aside0 (w69.heap[gb254]? = some (.cells #[.string t255, .int .i64 t262, .float .f64 t263, .string t264, .int .i64 t271, .int .i64 0, .float .f64 0, .string (⟨#[]⟩ : ByteArray)] 62 (0, 0))) := bP BK254 hw; replace HB := bH HB hw; clear hw; obtain ⟨hcz70_0, hcz70_1, hcz70_2, hcz70_3, hcz70_4, hcz70_5, hcz70_6, hcz70_7, hfz70_0, hfz70_1, hfz70_2, hfz70_3, hfz70_4, hfz70_5, hfz70_6, hfz70_7⟩ := bf8 (w := w69) BK254; have q71 : ((ji14) : Int) ≤ ((l0.length : Int) : Int) := of_decide_eq_true (by first | (with_reducible assumption) | assumption); obtain ⟨i071, hi071, _, hsz71, _⟩ := info_parts info5; have hroom71 : l0.length ≤ c0 := HC0.out; have hC71 : Kd.C (Kd.int .u8) _ A0 l0.length l0 := HR0.out; have q071 : (0 : Int) ≤ ((ji14) : Int) := of_decide_eq_true (by first | (with_reducible assumption) | assumption); have hcut71 := cut_from (P := Try.prog) 30 5 .i64 Try.underlying30 hi071 1 hsz71 A0 l0.length c0 (ji14) q071 q71; have hr71 := Kd.C_drop (m := ((ji14) : Int).toNat) (c := c0) hC71 (by omega) hroom71; obtain ⟨A71, hA71⟩ : ∃ A1, A1 = (if c0 = ((ji14) : Int).toNat then A0 else (A0 : Option Addr).map (·.add (((ji14) : Int).toNat * 1))) := ⟨_, rfl⟩; obtain ⟨c71, hc71⟩ : ∃ c1, c1 = c0 - ((ji14) : Int).toNat := ⟨_, rfl⟩; have hy71 : y274.length = l0.length - ((ji14) : Int).toNat := (by rw [Ny274.out, List.length_drop] <;> omega); rw [show (l0).drop ((ji14) : Int).toNat = y274 from Ny274.out.symm] at hr71; replace hr71 : Kd.C (Kd.int .u8) _ A71 y274.length y274 := (by rw [hA71]; exact hr71); rw [← hy71, ← hA71, ← hc71] at hcut71; have HR277 := Aside0.mk hr71; have HC277 := Aside0.mk (show y274.length ≤ c71 from by rw [hy71, hc71]; exact Nat.sub_le_sub_right hroom71 _); clear hr71 hC71 hroom71 hi071 hsz71 hc71; have KY71 := Aside0.mk hy71; have KA71 := Aside0.mk hA71; clear hy71 hA71; replace q71 := eq_true q71) | ((with_reducible refine gate_callee (f := 56) rfl ?_); refine gL (some 59) Try.func56 #[.slice A71 y274.length c71] ?_; (with_reducible refine (datum_Get.calls k _ _ y274 t278 t279 t280 t281 t282 _ ?side1 ?side2 A17.out).mono ?_); (case side1 => repeat (first | exact (Kd.C_below HR277.out HB.out) | (with_reducible refine Kd.C_alloc ?_ _) | (with_reducible refine Kd.C_drewN ?_ _) | (with_reducible refine Kd.C_drew ?_))); (case side2 => exact HC277.out); rintro e w72 ⟨rfl, hb⟩; refine ⟨_, rfl, ?_⟩; replace BK253 := bB BK253 hb; replace BK254 := bB BK254 hb; replace HB := bW HB hb; (try clear hb); (try clear hb2); (try clear hk); (try clear hi); obtain ⟨hcz73_0, hcz73_1, hcz73_2, hcz73_3, hcz73_4, hcz73_5, hcz73_6, hcz73_7, hfz73_0, hfz73_1, hfz73_2, hfz73_3, hfz73_4, hfz73_5, hfz73_6, hfz73_7⟩ := bf8 (w := w72) BK254; obtain ⟨hcz74_0, hcz74_1, hcz74_2, hcz74_3, hcz74_4, hcz74_5, hcz74_6, hcz74_7, hfz74_0, hfz74_1, hfz74_2, hfz74_3, hfz74_4, hfz74_5, hfz74_6, hfz74_7⟩ := bf8 (w := w72) BK253))
  refine bodyPost_ret (results_ctt rfl _ _ gb253 62 #[.string (⟨#[]⟩ : ByteArray), .int .i64 0, .float .f64 0, .string (⟨#[]⟩ : ByteArray), .int .i64 0, .int .i64 0, .float .f64 0, .string (⟨#[]⟩ : ByteArray)] (0, 0) _ rfl (bR BK253) Try.underlying62 rfl (by kernel_rfl)) rfl ?_
  exact ⟨by first | rfl | (simp [errW_none, errW_some] <;> rfl) | (simp only [← hji8, ← hji14]; first | rfl | (simp [errW_none, errW_some] <;> rfl)) | (simp [*, errW_none, errW_some] <;> rfl), by repeat (first | (with_reducible first | exact HB.out | apply below_alloc | apply pw_below_drewN | apply below_drew1 | refine below_set ?_ GE253.out | refine below_set ?_ GE254.out) | exact HB.out)⟩
 rw [if_pos c18] at H
 have c18b0 : (t282 == 0) = true := beq_iff_eq.mpr c18
 have c18b1 : (t282 != 0) = false := bne_eq_false_iff_eq.mpr c18
 clear c18
 replace H := Option.bind_eq_some_iff.mp H
 obtain ⟨t283, A190, H⟩ := H
 replace H : (if t283 = true then (some (t255, t262, t263, t264, t271, t278, t279, t280, wrap64 ((ji14) + t281), 0)) else (some ((⟨#[]⟩ : ByteArray), 0, 0, (⟨#[]⟩ : ByteArray), 0, 0, 0, (⟨#[]⟩ : ByteArray), 0, 1))) = some (r1, r2, r3, r4, r5, r6, r7, r8, r9, r10) := H
 have A19 := Aside0.mk A190
 clear A190
 by_cases c20 : t283 = true
 rotate_left
 ·replace c20 := Bool.eq_false_iff.mpr c20
  subst c20
  have H1 : (some ((⟨#[]⟩ : ByteArray), 0, 0, (⟨#[]⟩ : ByteArray), 0, 0, 0, (⟨#[]⟩ : ByteArray), 0, 1)) = some (r1, r2, r3, r4, r5, r6, r7, r8, r9, r10) := by rw [if_neg (show ¬ (false = true) by decide)] at H; exact H
  clear H
  have H := H1
  clear H1
  simp only [Option.some.injEq, Prod.mk.injEq] at H
  obtain ⟨rfl, rfl, rfl, rfl, rfl, rfl, rfl, rfl, rfl, rfl⟩ := H
  go_enter Try.func39, Try.ntmps39
  go_wp2_with (first | ((with_reducible refine gate_dst (N := 2) rfl ?_); refine box_event ?hg (N := 2) ?hd (cs := #[.string (⟨#[]⟩ : ByteArray), .int .i64 0, .float .f64 0, .string (⟨#[]⟩ : ByteArray), .int .i64 0, .int .i64 0, .float .f64 0, .string (⟨#[]⟩ : ByteArray)]) (t := 62) ?hr ?_; (case hd => rfl); (case hg => rfl); (case hr => first | (go_simp; done) | (go_simp; rfl)); intro gb253 hg w40 hbox hb; have BK253 := Aside0.mk (hbox); have GW253 := bZ HB hg; have GE253 := bZ HB hg; replace HB := bW HB hb; clear hb hbox hg) | ((with_reducible refine gate_dst (N := 5) rfl ?_); refine box_event ?hg (N := 5) ?hd (cs := #[.string (⟨#[]⟩ : ByteArray), .int .i64 0, .float .f64 0, .string (⟨#[]⟩ : ByteArray), .int .i64 0, .int .i64 0, .float .f64 0, .string (⟨#[]⟩ : ByteArray)]) (t := 62) ?hr ?_; (case hd => rfl); (case hg => rfl); (case hr => first | (go_simp; done) | (go_simp; rfl)); intro gb254 hg w41 hbox hb; have BK254 := Aside0.mk (hbox); have GW254 := bZ HB hg; have GE254 := bZ HB hg; have NB253_254 := bL BK253 hg; have NB254_253 := bG BK253 hg; replace BK253 := bB BK253 hb; replace HB := bW HB hb; clear hb hbox hg) | ((with_reducible refine gate_callee (f := 41) rfl ?_); refine gL (some 11) Try.func41 #[.slice A0 l0.length c0] ?_; (with_reducible refine (num_GetText.calls k _ _ l0 t255 t256 t257 _ ?side1 ?side2 A2.out).mono ?_); (case side1 => repeat (first | exact (Kd.C_below HR0.out HB.out) | (with_reducible refine Kd.C_alloc ?_ _) | (with_reducible refine Kd.C_drewN ?_ _) | (with_reducible refine Kd.C_drew ?_))); (case side2 => exact HC0.out); rintro e w' ⟨rfl, ⟨nd, rfl⟩⟩; refine ⟨_, rfl, ?_⟩; (try (rw [drewN_self w41]; generalize hq_ : World.drewN w41 _ = w41; have n0_ := bE BK253 hq_.symm; have n1_ := bE BK254 hq_.symm; have n2_ := bH HB hq_.symm; clear BK253 BK254 HB hq_; have BK253 := n0_; have BK254 := n1_; have HB := n2_; clear n0_ n1_ n2_)); have hnb42 := NB254_253.out; have hnc42 := NB253_254.out; obtain ⟨hcz43_0, hcz43_1, hcz43_2, hcz43_3, hcz43_4, hcz43_5, hcz43_6, hcz43_7, hfz43_0, hfz43_1, hfz43_2, hfz43_3, hfz43_4, hfz43_5, hfz43_6, hfz43_7⟩ := bf8 (w := w41) BK254) | ((with_reducible refine gate_store (t := 9) (p := 15) rfl ?_); refine store_event (t := 9) (p := 15) (v := ?vo_w44) (w1 := (w41.setCell ⟨gb254, 0, none⟩ (.string t255))) ?hg ?ho ?hn ?hr ?_; (case ho => rfl); (case hg => rfl); (case hn => rfl); (case hr => first | (go_simp; done) | (go_simp; rfl)); intro w44 hw; replace BK253 := bE BK253 hw; replace BK254 : Aside0 (w44.heap[gb254]? = some (.cells #[.string t255, .int .i64 0, .float .f64 0, .string (⟨#[]⟩ : ByteArray), .int .i64 0, .int .i64 0, .float .f64 0, .string (⟨#[]⟩ : ByteArray)] 62 (0, 0))) := bP BK254 hw; replace HB := bH HB hw; clear hw; have q45 : (t256 : Int) ≤ ((l0.length : Int) : Int) := of_decide_eq_true (by first | (with_reducible assumption) | assumption); obtain ⟨i045, hi045, _, hsz45, _⟩ := info_parts info5; have hroom45 : l0.length ≤ c0 := HC0.out; have hC45 : Kd.C (Kd.int .u8) _ A0 l0.length l0 := HR0.out; have q045 : (0 : Int) ≤ (t256 : Int) := of_decide_eq_true (by first | (with_reducible assumption) | assumption); have hcut45 := cut_from (P := Try.prog) 30 5 .i64 Try.underlying30 hi045 1 hsz45 A0 l0.length c0 t256 q045 q45; have hr45 := Kd.C_drop (m := (t256 : Int).toNat) (c := c0) hC45 (by omega) hroom45; obtain ⟨A45, hA45⟩ : ∃ A1, A1 = (if c0 = (t256 : Int).toNat then A0 else (A0 : Option Addr).map (·.add ((t256 : Int).toNat * 1))) := ⟨_, rfl⟩; obtain ⟨c45, hc45⟩ : ∃ c1, c1 = c0 - (t256 : Int).toNat := ⟨_, rfl⟩; have hy45 : y258.length = l0.length - (t256 : Int).toNat := (by rw [Ny258.out, List.length_drop] <;> omega); rw [show (l0).drop (t256 : Int).toNat = y258 from Ny258.out.symm] at hr45; replace hr45 : Kd.C (Kd.int .u8) _ A45 y258.length y258 := (by rw [hA45]; exact hr45); rw [← hy45, ← hA45, ← hc45] at hcut45; have HR261 := Aside0.mk hr45; have HC261 := Aside0.mk (show y258.length ≤ c45 from by rw [hy45, hc45]; exact Nat.sub_le_sub_right hroom45 _); clear hr45 hC45 hroom45 hi045 hsz45 hc45; have KY45 := Aside0.mk hy45; have KA45 := Aside0.mk hA45; clear hy45 hA45; replace q45 := eq_true q45) | ((with_reducible refine gate_callee (f := 56) rfl ?_); refine gL (some 24) Try.func56 #[.slice A45 y258.length c45] ?_; (with_reducible refine (datum_Get.calls k _ _ y258 t262 t263 t264 t265 t266 _ ?side1 ?side2 A6.out).mono ?_); (case side1 => repeat (first | exact (Kd.C_below HR261.out HB.out) | (with_reducible refine Kd.C_alloc ?_ _) | (with_reducible refine Kd.C_drewN ?_ _) | (with_reducible refine Kd.C_drew ?_))); (case side2 => exact HC261.out); rintro e w46 ⟨rfl, hb⟩; refine ⟨_, rfl, ?_⟩; replace BK253 := bB BK253 hb; replace BK254 := bB BK254 hb; replace HB := bW HB hb; (try clear hb); (try clear hb2); (try clear hk); (try clear hi); obtain ⟨hcz47_0, hcz47_1, hcz47_2, hcz47_3, hcz47_4, hcz47_5, hcz47_6, hcz47_7, hfz47_0, hfz47_1, hfz47_2, hfz47_3, hfz47_4, hfz47_5, hfz47_6, hfz47_7⟩ := bf8 (w := w46) BK254) | ((with_reducible refine gate_store (t := 54) (p := 28) rfl ?_); refine store_event (t := 54) (p := 28) (v := ?vo_w48) (w1 := (((w46.setCell ⟨gb254, 1, none⟩ (.int .i64 t262)).setCell ⟨gb254, 2, none⟩ (.float .f64 t263)).setCell ⟨gb254, 3, none⟩ (.string t264))) ?hg ?ho ?hn ?hr ?_; (case ho => rfl); (case hg => rfl); (case hn => rfl); (case hr => first | (go_simp; done) | (go_simp; rfl)); intro w48 hw; replace BK253 := bE BK253 hw; replace BK254 : Aside0 (w48.heap[gb254]? = some (.cells #[.string t255, .int .i64 t262, .float .f64 t263, .string t264, .int .i64 0, .int .i64 0, .float .f64 0, .string (⟨#[]⟩ : ByteArray)] 62 (0, 0))) := bP BK254 hw; replace HB := bH HB hw; clear hw; have q49 : ((ji8) : Int) ≤ ((l0.length : Int) : Int) := of_decide_eq_true (by first | (with_reducible assumption) | assumption); obtain ⟨i049, hi049, _, hsz49, _⟩ := info_parts info5; have hroom49 : l0.length ≤ c0 := HC0.out; have hC49 : Kd.C (Kd.int .u8) _ A0 l0.length l0 := HR0.out; have q049 : (0 : Int) ≤ ((ji8) : Int) := of_decide_eq_true (by first | (with_reducible assumption) | assumption); have hcut49 := cut_from (P := Try.prog) 30 5 .i64 Try.underlying30 hi049 1 hsz49 A0 l0.length c0 (ji8) q049 q49; have hr49 := Kd.C_drop (m := ((ji8) : Int).toNat) (c := c0) hC49 (by omega) hroom49; obtain ⟨A49, hA49⟩ : ∃ A1, A1 = (if c0 = ((ji8) : Int).toNat then A0 else (A0 : Option Addr).map (·.add (((ji8) : Int).toNat * 1))) := ⟨_, rfl⟩; obtain ⟨c49, hc49⟩ : ∃ c1, c1 = c0 - ((ji8) : Int).toNat := ⟨_, rfl⟩; have hy49 : y267.length = l0.length - ((ji8) : Int).toNat := (by rw [Ny267.out, List.length_drop] <;> omega); rw [show (l0).drop ((ji8) : Int).toNat = y267 from Ny267.out.symm] at hr49; replace hr49 : Kd.C (Kd.int .u8) _ A49 y267.length y267 := (by rw [hA49]; exact hr49); rw [← hy49, ← hA49, ← hc49] at hcut49; have HR270 := Aside0.mk hr49; have HC270 := Aside0.mk (show y267.length ≤ c49 from by rw [hy49, hc49]; exact Nat.sub_le_sub_right hroom49 _); clear hr49 hC49 hroom49 hi049 hsz49 hc49; have KY49 := Aside0.mk hy49; have KA49 := Aside0.mk hA49; clear hy49 hA49; replace q49 := eq_true q49) | ((with_reducible refine gate_callee (f := 55) rfl ?_); refine gL (some 40) Try.func55 #[.slice A49 y267.length c49] ?_; (with_reducible refine (num_Get.calls k _ _ y267 t271 t272 t273 _ ?side1 ?side2 A11.out).mono ?_); (case side1 => repeat (first | exact (Kd.C_below HR270.out HB.out) | (with_reducible refine Kd.C_alloc ?_ _) | (with_reducible refine Kd.C_drewN ?_ _) | (with_reducible refine Kd.C_drew ?_))); (case side2 => exact HC270.out); rintro e w' ⟨rfl, ⟨nd, rfl⟩⟩; refine ⟨_, rfl, ?_⟩; (try (rw [drewN_self w48]; generalize hq_ : World.drewN w48 _ = w48; have n0_ := bE BK253 hq_.symm; have n1_ := bE BK254 hq_.symm; have n2_ := bH HB hq_.symm; clear BK253 BK254 HB hq_; have BK253 := n0_; have BK254 := n1_; have HB := n2_; clear n0_ n1_ n2_)); obtain ⟨hcz50_0, hcz50_1, hcz50_2, hcz50_3, hcz50_4, hcz50_5, hcz50_6, hcz50_7, hfz50_0, hfz50_1, hfz50_2, hfz50_3, hfz50_4, hfz50_5, hfz50_6, hfz50_7⟩ := bf8 (w := w48) BK254) | ((with_reducible refine gate_store (t := 2) (p := 44) rfl ?_); refine store_event (t := 2) (p := 44) (v := ?vo_w51) (w1 := (w48.setCell ⟨gb254, 4, none⟩ (.int .i64 t271))) ?hg ?ho ?hn ?hr ?_; (case ho => rfl); (case hg => rfl); (case hn => rfl); (case hr => first | (go_simp; done) | (go_simp; rfl)); intro w51 hw; replace BK253 := bE BK253 hw; replace BK254 : Aside0 (w51.heap[gb254]? = some (.cells #[.string t255, .int .i64 t262, .float .f64 t263, .string t264, .int .i64 t271, .int .i64 0, .float .f64 0, .string (⟨#[]⟩ : ByteArray)] 62 (0, 0))) := bP BK254 hw; replace HB := bH HB hw; clear hw; obtain ⟨hcz52_0, hcz52_1, hcz52_2, hcz52_3, hcz52_4, hcz52_5, hcz52_6, hcz52_7, hfz52_0, hfz52_1, hfz52_2, hfz52_3, hfz52_4, hfz52_5, hfz52_6, hfz52_7⟩ := bf8 (w := w51) BK254; have q53 : ((ji14) : Int) ≤ ((l0.length : Int) : Int) := of_decide_eq_true (by first | (with_reducible assumption) | assumption); obtain ⟨i053, hi053, _, hsz53, _⟩ := info_parts info5; have hroom53 : l0.length ≤ c0 := HC0.out; have hC53 : Kd.C (Kd.int .u8) _ A0 l0.length l0 := HR0.out; have q053 : (0 : Int) ≤ ((ji14) : Int) := of_decide_eq_true (by first | (with_reducible assumption) | assumption); have hcut53 := cut_from (P := Try.prog) 30 5 .i64 Try.underlying30 hi053 1 hsz53 A0 l0.length c0 (ji14) q053 q53; have hr53 := Kd.C_drop (m := ((ji14) : Int).toNat) (c := c0) hC53 (by omega) hroom53; obtain ⟨A53, hA53⟩ : ∃ A1, A1 = (if c0 = ((ji14) : Int).toNat then A0 else (A0 : Option Addr).map (·.add (((ji14) : Int).toNat * 1))) := ⟨_, rfl⟩; obtain ⟨c53, hc53⟩ : ∃ c1, c1 = c0 - ((ji14) : Int).toNat := ⟨_, rfl⟩; have hy53 : y274.length = l0.length - ((ji14) : Int).toNat := (by rw [Ny274.out, List.length_drop] <;> omega); rw [show (l0).drop ((ji14) : Int).toNat = y274 from Ny274.out.symm] at hr53; replace hr53 : Kd.C (Kd.int .u8) _ A53 y274.length y274 := (by rw [hA53]; exact hr53); rw [← hy53, ← hA53, ← hc53] at hcut53; have HR277 := Aside0.mk hr53; have HC277 := Aside0.mk (show y274.length ≤ c53 from by rw [hy53, hc53]; exact Nat.sub_le_sub_right hroom53 _); clear hr53 hC53 hroom53 hi053 hsz53 hc53; have KY53 := Aside0.mk hy53; have KA53 := Aside0.mk hA53; clear hy53 hA53; replace q53 := eq_true q53) | ((with_reducible refine gate_callee (f := 56) rfl ?_); refine gL (some 59) Try.func56 #[.slice A53 y274.length c53] ?_; (with_reducible refine (datum_Get.calls k _ _ y274 t278 t279 t280 t281 t282 _ ?side1 ?side2 A17.out).mono ?_); (case side1 => repeat (first | exact (Kd.C_below HR277.out HB.out) | (with_reducible refine Kd.C_alloc ?_ _) | (with_reducible refine Kd.C_drewN ?_ _) | (with_reducible refine Kd.C_drew ?_))); (case side2 => exact HC277.out); rintro e w54 ⟨rfl, hb⟩; refine ⟨_, rfl, ?_⟩; replace BK253 := bB BK253 hb; replace BK254 := bB BK254 hb; replace HB := bW HB hb; (try clear hb); (try clear hb2); (try clear hk); (try clear hi); obtain ⟨hcz55_0, hcz55_1, hcz55_2, hcz55_3, hcz55_4, hcz55_5, hcz55_6, hcz55_7, hfz55_0, hfz55_1, hfz55_2, hfz55_3, hfz55_4, hfz55_5, hfz55_6, hfz55_7⟩ := bf8 (w := w54) BK254) | ((with_reducible refine gate_callee (f := 33) rfl ?_); refine gL (some 72) Try.func33 #[.agg #[.string t255, .int .i64 t262, .float .f64 t263, .string t264, .int .i64 t271, .int .i64 t278, .float .f64 t279, .string t280]] ?_; (with_reducible refine (cell_May.calls k t255 t262 t263 t264 t271 t278 t279 t280 false _ A19.out).mono ?_); rintro e w56 ⟨rfl, hb⟩; refine ⟨_, rfl, ?_⟩; replace BK253 := bB BK253 hb; replace BK254 := Aside0.mk (blk_below (g := gb254) (o := .cells #[.string t255, .int .i64 t262, .float .f64 t263, .string t264, .int .i64 t271, .int .i64 t278, .float .f64 t279, .string t280] 62 (0, 0)) (bR BK254) hb); replace HB := bW HB hb; (try clear hb); (try clear hb2); (try clear hk); (try clear hi); obtain ⟨hcz57_0, hcz57_1, hcz57_2, hcz57_3, hcz57_4, hcz57_5, hcz57_6, hcz57_7, hfz57_0, hfz57_1, hfz57_2, hfz57_3, hfz57_4, hfz57_5, hfz57_6, hfz57_7⟩ := bf8 (w := w56) BK253))
  refine bodyPost_ret (results_ctt rfl _ _ gb253 62 #[.string (⟨#[]⟩ : ByteArray), .int .i64 0, .float .f64 0, .string (⟨#[]⟩ : ByteArray), .int .i64 0, .int .i64 0, .float .f64 0, .string (⟨#[]⟩ : ByteArray)] (0, 0) _ rfl (bR BK253) Try.underlying62 rfl (by kernel_rfl)) rfl ?_
  exact ⟨by first | rfl | (simp [errW_none, errW_some] <;> rfl) | (simp only [← hji8, ← hji14]; first | rfl | (simp [errW_none, errW_some] <;> rfl)) | (simp [*, errW_none, errW_some] <;> rfl), by repeat (first | (with_reducible first | exact HB.out | apply below_alloc | apply pw_below_drewN | apply below_drew1 | refine below_set ?_ GE253.out | refine below_set ?_ GE254.out) | exact HB.out)⟩
 subst c20
 have H1 : (some (t255, t262, t263, t264, t271, t278, t279, t280, wrap64 ((ji14) + t281), 0)) = some (r1, r2, r3, r4, r5, r6, r7, r8, r9, r10) := by rw [if_pos rfl] at H; exact H
 clear H
 have H := H1
 clear H1
 simp only [Option.some.injEq, Prod.mk.injEq] at H
 obtain ⟨rfl, rfl, rfl, rfl, rfl, rfl, rfl, rfl, rfl, rfl⟩ := H
 go_enter Try.func39, Try.ntmps39
 go_wp2_with (first | ((with_reducible refine gate_dst (N := 2) rfl ?_); refine box_event ?hg (N := 2) ?hd (cs := #[.string (⟨#[]⟩ : ByteArray), .int .i64 0, .float .f64 0, .string (⟨#[]⟩ : ByteArray), .int .i64 0, .int .i64 0, .float .f64 0, .string (⟨#[]⟩ : ByteArray)]) (t := 62) ?hr ?_; (case hd => rfl); (case hg => rfl); (case hr => first | (go_simp; done) | (go_simp; rfl)); intro gb253 hg w21 hbox hb; have BK253 := Aside0.mk (hbox); have GW253 := bZ HB hg; have GE253 := bZ HB hg; replace HB := bW HB hb; clear hb hbox hg) | ((with_reducible refine gate_dst (N := 5) rfl ?_); refine box_event ?hg (N := 5) ?hd (cs := #[.string (⟨#[]⟩ : ByteArray), .int .i64 0, .float .f64 0, .string (⟨#[]⟩ : ByteArray), .int .i64 0, .int .i64 0, .float .f64 0, .string (⟨#[]⟩ : ByteArray)]) (t := 62) ?hr ?_; (case hd => rfl); (case hg => rfl); (case hr => first | (go_simp; done) | (go_simp; rfl)); intro gb254 hg w22 hbox hb; have BK254 := Aside0.mk (hbox); have GW254 := bZ HB hg; have GE254 := bZ HB hg; have NB253_254 := bL BK253 hg; have NB254_253 := bG BK253 hg; replace BK253 := bB BK253 hb; replace HB := bW HB hb; clear hb hbox hg) | ((with_reducible refine gate_callee (f := 41) rfl ?_); refine gL (some 11) Try.func41 #[.slice A0 l0.length c0] ?_; (with_reducible refine (num_GetText.calls k _ _ l0 t255 t256 t257 _ ?side1 ?side2 A2.out).mono ?_); (case side1 => repeat (first | exact (Kd.C_below HR0.out HB.out) | (with_reducible refine Kd.C_alloc ?_ _) | (with_reducible refine Kd.C_drewN ?_ _) | (with_reducible refine Kd.C_drew ?_))); (case side2 => exact HC0.out); rintro e w' ⟨rfl, ⟨nd, rfl⟩⟩; refine ⟨_, rfl, ?_⟩; (try (rw [drewN_self w22]; generalize hq_ : World.drewN w22 _ = w22; have n0_ := bE BK253 hq_.symm; have n1_ := bE BK254 hq_.symm; have n2_ := bH HB hq_.symm; clear BK253 BK254 HB hq_; have BK253 := n0_; have BK254 := n1_; have HB := n2_; clear n0_ n1_ n2_)); have hnb23 := NB254_253.out; have hnc23 := NB253_254.out; obtain ⟨hcz24_0, hcz24_1, hcz24_2, hcz24_3, hcz24_4, hcz24_5, hcz24_6, hcz24_7, hfz24_0, hfz24_1, hfz24_2, hfz24_3, hfz24_4, hfz24_5, hfz24_6, hfz24_7⟩ := bf8 (w := w22) BK254) | ((with_reducible refine gate_store (t := 9) (p := 15) rfl ?_); refine store_event (t := 9) (p := 15) (v := ?vo_w25) (w1 := (w22.setCell ⟨gb254, 0, none⟩ (.string t255))) ?hg ?ho ?hn ?hr ?_; (case ho => rfl); (case hg => rfl); (case hn => rfl); (case hr => first | (go_simp; done) | (go_simp; rfl)); intro w25 hw; replace BK253 := bE BK253 hw; replace BK254 : Aside0 (w25.heap[gb254]? = some (.cells #[.string t255, .int .i64 0, .float .f64 0, .string (⟨#[]⟩ : ByteArray), .int .i64 0, .int .i64 0, .float .f64 0, .string (⟨#[]⟩ : ByteArray)] 62 (0, 0))) := bP BK254 hw; replace HB := bH HB hw; clear hw; have q26 : (t256 : Int) ≤ ((l0.length : Int) : Int) := of_decide_eq_true (by first | (with_reducible assumption) | assumption); obtain ⟨i026, hi026, _, hsz26, _⟩ := info_parts info5; have hroom26 : l0.length ≤ c0 := HC0.out; have hC26 : Kd.C (Kd.int .u8) _ A0 l0.length l0 := HR0.out; have q026 : (0 : Int) ≤ (t256 : Int) := of_decide_eq_true (by first | (with_reducible assumption) | assumption); have hcut26 := cut_from (P := Try.prog) 30 5 .i64 Try.underlying30 hi026 1 hsz26 A0 l0.length c0 t256 q026 q26; have hr26 := Kd.C_drop (m := (t256 : Int).toNat) (c := c0) hC26 (by omega) hroom26; obtain ⟨A26, hA26⟩ : ∃ A1, A1 = (if c0 = (t256 : Int).toNat then A0 else (A0 : Option Addr).map (·.add ((t256 : Int).toNat * 1))) := ⟨_, rfl⟩; obtain ⟨c26, hc26⟩ : ∃ c1, c1 = c0 - (t256 : Int).toNat := ⟨_, rfl⟩; have hy26 : y258.length = l0.length - (t256 : Int).toNat := (by rw [Ny258.out, List.length_drop] <;> omega); rw [show (l0).drop (t256 : Int).toNat = y258 from Ny258.out.symm] at hr26; replace hr26 : Kd.C (Kd.int .u8) _ A26 y258.length y258 := (by rw [hA26]; exact hr26); rw [← hy26, ← hA26, ← hc26] at hcut26; have HR261 := Aside0.mk hr26; have HC261 := Aside0.mk (show y258.length ≤ c26 from by rw [hy26, hc26]; exact Nat.sub_le_sub_right hroom26 _); clear hr26 hC26 hroom26 hi026 hsz26 hc26; have KY26 := Aside0.mk hy26; have KA26 := Aside0.mk hA26; clear hy26 hA26; replace q26 := eq_true q26) | ((with_reducible refine gate_callee (f := 56) rfl ?_); refine gL (some 24) Try.func56 #[.slice A26 y258.length c26] ?_; (with_reducible refine (datum_Get.calls k _ _ y258 t262 t263 t264 t265 t266 _ ?side1 ?side2 A6.out).mono ?_); (case side1 => repeat (first | exact (Kd.C_below HR261.out HB.out) | (with_reducible refine Kd.C_alloc ?_ _) | (with_reducible refine Kd.C_drewN ?_ _) | (with_reducible refine Kd.C_drew ?_))); (case side2 => exact HC261.out); rintro e w27 ⟨rfl, hb⟩; refine ⟨_, rfl, ?_⟩; replace BK253 := bB BK253 hb; replace BK254 := bB BK254 hb; replace HB := bW HB hb; (try clear hb); (try clear hb2); (try clear hk); (try clear hi); obtain ⟨hcz28_0, hcz28_1, hcz28_2, hcz28_3, hcz28_4, hcz28_5, hcz28_6, hcz28_7, hfz28_0, hfz28_1, hfz28_2, hfz28_3, hfz28_4, hfz28_5, hfz28_6, hfz28_7⟩ := bf8 (w := w27) BK254) | ((with_reducible refine gate_store (t := 54) (p := 28) rfl ?_); refine store_event (t := 54) (p := 28) (v := ?vo_w29) (w1 := (((w27.setCell ⟨gb254, 1, none⟩ (.int .i64 t262)).setCell ⟨gb254, 2, none⟩ (.float .f64 t263)).setCell ⟨gb254, 3, none⟩ (.string t264))) ?hg ?ho ?hn ?hr ?_; (case ho => rfl); (case hg => rfl); (case hn => rfl); (case hr => first | (go_simp; done) | (go_simp; rfl)); intro w29 hw; replace BK253 := bE BK253 hw; replace BK254 : Aside0 (w29.heap[gb254]? = some (.cells #[.string t255, .int .i64 t262, .float .f64 t263, .string t264, .int .i64 0, .int .i64 0, .float .f64 0, .string (⟨#[]⟩ : ByteArray)] 62 (0, 0))) := bP BK254 hw; replace HB := bH HB hw; clear hw; have q30 : ((ji8) : Int) ≤ ((l0.length : Int) : Int) := of_decide_eq_true (by first | (with_reducible assumption) | assumption); obtain ⟨i030, hi030, _, hsz30, _⟩ := info_parts info5; have hroom30 : l0.length ≤ c0 := HC0.out; have hC30 : Kd.C (Kd.int .u8) _ A0 l0.length l0 := HR0.out; have q030 : (0 : Int) ≤ ((ji8) : Int) := of_decide_eq_true (by first | (with_reducible assumption) | assumption); have hcut30 := cut_from (P := Try.prog) 30 5 .i64 Try.underlying30 hi030 1 hsz30 A0 l0.length c0 (ji8) q030 q30; have hr30 := Kd.C_drop (m := ((ji8) : Int).toNat) (c := c0) hC30 (by omega) hroom30; obtain ⟨A30, hA30⟩ : ∃ A1, A1 = (if c0 = ((ji8) : Int).toNat then A0 else (A0 : Option Addr).map (·.add (((ji8) : Int).toNat * 1))) := ⟨_, rfl⟩; obtain ⟨c30, hc30⟩ : ∃ c1, c1 = c0 - ((ji8) : Int).toNat := ⟨_, rfl⟩; have hy30 : y267.length = l0.length - ((ji8) : Int).toNat := (by rw [Ny267.out, List.length_drop] <;> omega); rw [show (l0).drop ((ji8) : Int).toNat = y267 from Ny267.out.symm] at hr30; replace hr30 : Kd.C (Kd.int .u8) _ A30 y267.length y267 := (by rw [hA30]; exact hr30); rw [← hy30, ← hA30, ← hc30] at hcut30; have HR270 := Aside0.mk hr30; have HC270 := Aside0.mk (show y267.length ≤ c30 from by rw [hy30, hc30]; exact Nat.sub_le_sub_right hroom30 _); clear hr30 hC30 hroom30 hi030 hsz30 hc30; have KY30 := Aside0.mk hy30; have KA30 := Aside0.mk hA30; clear hy30 hA30; replace q30 := eq_true q30) | ((with_reducible refine gate_callee (f := 55) rfl ?_); refine gL (some 40) Try.func55 #[.slice A30 y267.length c30] ?_; (with_reducible refine (num_Get.calls k _ _ y267 t271 t272 t273 _ ?side1 ?side2 A11.out).mono ?_); (case side1 => repeat (first | exact (Kd.C_below HR270.out HB.out) | (with_reducible refine Kd.C_alloc ?_ _) | (with_reducible refine Kd.C_drewN ?_ _) | (with_reducible refine Kd.C_drew ?_))); (case side2 => exact HC270.out); rintro e w' ⟨rfl, ⟨nd, rfl⟩⟩; refine ⟨_, rfl, ?_⟩; (try (rw [drewN_self w29]; generalize hq_ : World.drewN w29 _ = w29; have n0_ := bE BK253 hq_.symm; have n1_ := bE BK254 hq_.symm; have n2_ := bH HB hq_.symm; clear BK253 BK254 HB hq_; have BK253 := n0_; have BK254 := n1_; have HB := n2_; clear n0_ n1_ n2_)); obtain ⟨hcz31_0, hcz31_1, hcz31_2, hcz31_3, hcz31_4, hcz31_5, hcz31_6, hcz31_7, hfz31_0, hfz31_1, hfz31_2, hfz31_3, hfz31_4, hfz31_5, hfz31_6, hfz31_7⟩ := bf8 (w := w29) BK254) | ((with_reducible refine gate_store (t := 2) (p := 44) rfl ?_); refine store_event (t := 2) (p := 44) (v := ?vo_w32) (w1 := (w29.setCell ⟨gb254, 4, none⟩ (.int .i64 t271))) ?hg ?ho ?hn ?hr ?_; (case ho => rfl); (case hg => rfl); (case hn => rfl); (case hr => first | (go_simp; done) | (go_simp; rfl)); intro w32 hw; replace BK253 := bE BK253 hw; replace BK254 : Aside0 (w32.heap[gb254]? = some (.cells #[.string t255, .int .i64 t262, .float .f64 t263, .string t264, .int .i64 t271, .int .i64 0, .float .f64 0, .string (⟨#[]⟩ : ByteArray)] 62 (0, 0))) := bP BK254 hw; replace HB := bH HB hw; clear hw; obtain ⟨hcz33_0, hcz33_1, hcz33_2, hcz33_3, hcz33_4, hcz33_5, hcz33_6, hcz33_7, hfz33_0, hfz33_1, hfz33_2, hfz33_3, hfz33_4, hfz33_5, hfz33_6, hfz33_7⟩ := bf8 (w := w32) BK254; have q34 : ((ji14) : Int) ≤ ((l0.length : Int) : Int) := of_decide_eq_true (by first | (with_reducible assumption) | assumption); obtain ⟨i034, hi034, _, hsz34, _⟩ := info_parts info5; have hroom34 : l0.length ≤ c0 := HC0.out; have hC34 : Kd.C (Kd.int .u8) _ A0 l0.length l0 := HR0.out; have q034 : (0 : Int) ≤ ((ji14) : Int) := of_decide_eq_true (by first | (with_reducible assumption) | assumption); have hcut34 := cut_from (P := Try.prog) 30 5 .i64 Try.underlying30 hi034 1 hsz34 A0 l0.length c0 (ji14) q034 q34; have hr34 := Kd.C_drop (m := ((ji14) : Int).toNat) (c := c0) hC34 (by omega) hroom34; obtain ⟨A34, hA34⟩ : ∃ A1, A1 = (if c0 = ((ji14) : Int).toNat then A0 else (A0 : Option Addr).map (·.add (((ji14) : Int).toNat * 1))) := ⟨_, rfl⟩; obtain ⟨c34, hc34⟩ : ∃ c1, c1 = c0 - ((ji14) : Int).toNat := ⟨_, rfl⟩; have hy34 : y274.length = l0.length - ((ji14) : Int).toNat := (by rw [Ny274.out, List.length_drop] <;> omega); rw [show (l0).drop ((ji14) : Int).toNat = y274 from Ny274.out.symm] at hr34; replace hr34 : Kd.C (Kd.int .u8) _ A34 y274.length y274 := (by rw [hA34]; exact hr34); rw [← hy34, ← hA34, ← hc34] at hcut34; have HR277 := Aside0.mk hr34; have HC277 := Aside0.mk (show y274.length ≤ c34 from by rw [hy34, hc34]; exact Nat.sub_le_sub_right hroom34 _); clear hr34 hC34 hroom34 hi034 hsz34 hc34; have KY34 := Aside0.mk hy34; have KA34 := Aside0.mk hA34; clear hy34 hA34; replace q34 := eq_true q34) | ((with_reducible refine gate_callee (f := 56) rfl ?_); refine gL (some 59) Try.func56 #[.slice A34 y274.length c34] ?_; (with_reducible refine (datum_Get.calls k _ _ y274 t278 t279 t280 t281 t282 _ ?side1 ?side2 A17.out).mono ?_); (case side1 => repeat (first | exact (Kd.C_below HR277.out HB.out) | (with_reducible refine Kd.C_alloc ?_ _) | (with_reducible refine Kd.C_drewN ?_ _) | (with_reducible refine Kd.C_drew ?_))); (case side2 => exact HC277.out); rintro e w35 ⟨rfl, hb⟩; refine ⟨_, rfl, ?_⟩; replace BK253 := bB BK253 hb; replace BK254 := bB BK254 hb; replace HB := bW HB hb; (try clear hb); (try clear hb2); (try clear hk); (try clear hi); obtain ⟨hcz36_0, hcz36_1, hcz36_2, hcz36_3, hcz36_4, hcz36_5, hcz36_6, hcz36_7, hfz36_0, hfz36_1, hfz36_2, hfz36_3, hfz36_4, hfz36_5, hfz36_6, hfz36_7⟩ := bf8 (w := w35) BK254) | ((with_reducible refine gate_callee (f := 33) rfl ?_); refine gL (some 72) Try.func33 #[.agg #[.string t255, .int .i64 t262, .float .f64 t263, .string t264, .int .i64 t271, .int .i64 t278, .float .f64 t279, .string t280]] ?_; (with_reducible refine (cell_May.calls k t255 t262 t263 t264 t271 t278 t279 t280 true _ A19.out).mono ?_); rintro e w37 ⟨rfl, hb⟩; refine ⟨_, rfl, ?_⟩; replace BK253 := bB BK253 hb; replace BK254 := Aside0.mk (blk_below (g := gb254) (o := .cells #[.string t255, .int .i64 t262, .float .f64 t263, .string t264, .int .i64 t271, .int .i64 t278, .float .f64 t279, .string t280] 62 (0, 0)) (bR BK254) hb); replace HB := bW HB hb; (try clear hb); (try clear hb2); (try clear hk); (try clear hi); obtain ⟨hcz38_0, hcz38_1, hcz38_2, hcz38_3, hcz38_4, hcz38_5, hcz38_6, hcz38_7, hfz38_0, hfz38_1, hfz38_2, hfz38_3, hfz38_4, hfz38_5, hfz38_6, hfz38_7⟩ := bf8 (w := w37) BK254; obtain ⟨hcz39_0, hcz39_1, hcz39_2, hcz39_3, hcz39_4, hcz39_5, hcz39_6, hcz39_7, hfz39_0, hfz39_1, hfz39_2, hfz39_3, hfz39_4, hfz39_5, hfz39_6, hfz39_7⟩ := bf8 (w := w37) BK253))
 refine bodyPost_ret (results_ctt rfl _ _ gb253 62 #[.string t255, .int .i64 t262, .float .f64 t263, .string t264, .int .i64 t271, .int .i64 t278, .float .f64 t279, .string t280] (0, 0) _ rfl (bR BK253) Try.underlying62 rfl (by kernel_rfl)) rfl ?_
 exact ⟨by first | rfl | (simp [errW_none, errW_some] <;> rfl) | (simp only [← hji8, ← hji14]; first | rfl | (simp [errW_none, errW_some] <;> rfl)) | (simp [*, errW_none, errW_some] <;> rfl), by repeat (first | (with_reducible first | exact HB.out | apply below_alloc | apply pw_below_drewN | apply below_drew1 | refine below_set ?_ GE253.out | refine below_set ?_ GE254.out) | exact HB.out)⟩
end Go.Proofs.Ytmmjpieafbjggaa.P
end
section
namespace Go.Proofs.Ytmmjpieafbjggaa.P
open Go.RowKit Go.Proofs.YtmmjpieafbjggaaW.PrintWords Go.Proofs.YtmmjpieafbjggaaW.PrintLast Go.Proofs.YtmmjpieafbjggaaW.PrintMore
attribute [local go_sem] max2_int min2_int max_two min_two max_three min_three max_four min_four   -- for this text's walks alone
attribute [local go_sem] x_str_gtr x_str_leq x_str_geq ext_bits ext_frombits ext_neg x_store_float Instr.field asAgg
set_option linter.unusedVariables false
set_option linter.unusedSimpArgs false
def bytes_Equal.f (l0 : List Int) (l1 : List Int) : Option (Bool) := some ((strOfNums l0).toList == (strOfNums l1).toList)
set_option maxHeartbeats 8000000 in
set_option maxRecDepth 100000 in
theorem bytes_Equal.calls (A0 : Option Addr) (c0 : Nat) (l0 : List Int) (A1 : Option Addr) (c1 : Nat) (l1 : List Int) (r : Bool) (w : World) (hr0 : Kd.C (Kd.int .u8) w A0 l0.length l0) (hc0 : l0.length ≤ c0) (hr1 : Kd.C (Kd.int .u8) w A1 l1.length l1) (hc1 : l1.length ≤ c1) (h : bytes_Equal.f l0 l1 = some r) :
  Calls Try.prog 42 #[.slice A0 l0.length c0, .slice A1 l1.length c1] w fun e w' => e = .returned (.bool r) ∧ Drawn0 w w' := by
 have HR0 := Aside0.mk hr0
 have HC0 := Aside0.mk hc0
 clear hr0 hc0
 have HR1 := Aside0.mk hr1
 have HC1 := Aside0.mk hc1
 clear hr1 hc1
 have H : (some ((strOfNums l0).toList == (strOfNums l1).toList)) = some r := h
 clear h
 obtain rfl := Option.some.inj H
 have hcv3 := Kd.x_C_string (P := Try.prog) (A := A0) (c := c0) Try.underlying30 Try.underlying5 Try.underlying9 HR0.out
 have hcv4 := Kd.x_C_string (P := Try.prog) (A := A1) (c := c1) Try.underlying30 Try.underlying5 Try.underlying9 HR1.out
 go_enter Try.func42, Try.ntmps42
 go_wp2
 go_ret
 exact ⟨by first | rfl | (simp; done) | (simp [*]; done), by repeat (first | exact Drawn0.refl _ | apply Drawn0.step)⟩
end Go.Proofs.Ytmmjpieafbjggaa.P
end
section
set_option linter.unusedVariables false
set_option linter.unusedSimpArgs false
namespace Go.Proofs.Ytmmjpieafbjggaa.P
open Go.RowKit Go.Proofs.YtmmjpieafbjggaaW.PrintWords Go.Proofs.YtmmjpieafbjggaaW.PrintLast Go.Proofs.YtmmjpieafbjggaaW.PrintMore
attribute [local go_sem] max2_int min2_int max_two min_two max_three min_three max_four min_four
attribute [local go_sem] x_str_gtr x_str_leq x_str_geq ext_bits ext_frombits ext_neg x_store_float Instr.field asAgg
/-- The cells of a leaf. -/
def node_Decode.l0 : Nat → List Int → Bool → Int → Bool → List S62 → Option (List Int × Bool × List S62)
 | 0, _, _, _, _, _ => none
 | k + 1, l, bad, kk, leaf, cs => if kk > 0 then (if bad = true then some (l, bad, cs) else (if leaf = true then ((cell_Get.f k l).bind fun t => ((tookF l bad t.2.2.2.2.2.2.2.2.1 t.2.2.2.2.2.2.2.2.2).bind fun s => (if cs.length < 1599289640401 then (node_Decode.l0 k s.1 s.2 (wrap64 (kk - 1)) leaf (cs ++ [(⟨t.1, (⟨t.2.1, t.2.2.1, t.2.2.2.1⟩ : S54), t.2.2.2.2.1, (⟨t.2.2.2.2.2.1, t.2.2.2.2.2.2.1, t.2.2.2.2.2.2.2.1⟩ : S54)⟩ : S62)])) else none))) else some (l, bad, cs))) else some (l, bad, cs)
/-- The kids of an inner node. -/
def node_Decode.l1 : Nat → List Int → Bool → Int → Int → List Int → Option (List Int × Bool × List Int)
 | 0, _, _, _, _, _ => none
 | k + 1, l, bad, i, kk, ks => if i < kk then (if bad = true then some (l, bad, ks) else ((numF k l bad).bind fun t => (if ks.length < 17592186044416 then (node_Decode.l1 k t.2.1 t.2.2 (wrap64 (i + 1)) kk (ks ++ [t.1])) else none))) else some (l, bad, ks)
/-- The keys of an inner node. -/
def node_Decode.l2 : Nat → List Int → Bool → Int → Int → List ByteArray → Option (List Int × Bool × List ByteArray)
 | 0, _, _, _, _, _ => none
 | k + 1, l, bad, i, kk, ks => if i < kk then (if bad = true then some (l, bad, ks) else ((num_GetText.f k l).bind fun t => ((tookF l bad t.2.1 t.2.2).bind fun s => (if ks.length < 8796093022208 then (node_Decode.l2 k s.1 s.2 (wrap64 (i + 1)) kk (ks ++ [t.1])) else none)))) else some (l, bad, ks)
/-- What was read is told only if it goes to the same bytes. -/
def node_Decode.fin (k : Nat) (b : List Int) (bad : Bool) (leaf : Bool) (cs : List S62) (keys : List ByteArray) (kids : List Int) : Option (Bool × List S62 × List ByteArray × List Int × Int) :=
  (node_Encode.f k leaf cs keys kids).bind fun c => if bad = true then some (false, [], [], [], 8) else (if c.2 = 0 then ((bytes_Equal.f c.1 b).bind fun q => (if q = true then some (leaf, cs, keys, kids, 0) else some (false, [], [], [], 8))) else some (false, [], [], [], 8))
def node_Decode.f (k : Nat) (b : List Int) : Option (Bool × List S62 × List ByteArray × List Int × Int) :=
  if (b.length : Int) = 256 then ((numF k (b.drop 1) false).bind fun t => ((node_Decode.l0 k t.2.1 t.2.2 t.1 (rd b 0 == 1) []).bind fun s => (if (rd b 0 == 1) = true then (node_Decode.fin k b s.2.1 true s.2.2 [] []) else ((numF k (b.drop 1) false).bind fun u => ((node_Decode.l1 k u.2.1 u.2.2 0 u.1 []).bind fun v => ((node_Decode.l2 k v.1 v.2.1 1 u.1 []).bind fun x => (node_Decode.fin k b x.2.1 false s.2.2 x.2.2 v.2.2))))))) else some (false, [], [], [], 8)
theorem node_Decode.mono_l0 : ∀ k l bad kk leaf cs, LeO (node_Decode.l0 k l bad kk leaf cs) (node_Decode.l0 (k + 1) l bad kk leaf cs)
 | 0 => fun _ _ _ _ _ r h => by simp [node_Decode.l0] at h
 | k + 1 => fun l bad kk leaf cs => by
  have ih := node_Decode.mono_l0 k
  unfold node_Decode.l0
  refine LeO.ite (LeO.ite (LeO.refl _) (LeO.ite (LeO.bind (cell_Get.mono _ _) (fun _ => LeO.bind (LeO.refl _) (fun _ => LeO.ite (ih _ _ _ _ _) (LeO.none _)))) (LeO.refl _))) (LeO.refl _)
theorem node_Decode.mono_l1 : ∀ k l bad i kk ks, LeO (node_Decode.l1 k l bad i kk ks) (node_Decode.l1 (k + 1) l bad i kk ks)
 | 0 => fun _ _ _ _ _ r h => by simp [node_Decode.l1] at h
 | k + 1 => fun l bad i kk ks => by
  have ih := node_Decode.mono_l1 k
  unfold node_Decode.l1
  refine LeO.ite (LeO.ite (LeO.refl _) (LeO.bind (numF_mono _ _ _) (fun _ => LeO.ite (ih _ _ _ _ _) (LeO.none _)))) (LeO.refl _)
theorem node_Decode.mono_l2 : ∀ k l bad i kk ks, LeO (node_Decode.l2 k l bad i kk ks) (node_Decode.l2 (k + 1) l bad i kk ks)
 | 0 => fun _ _ _ _ _ r h => by simp [node_Decode.l2] at h
 | k + 1 => fun l bad i kk ks => by
  have ih := node_Decode.mono_l2 k
  unfold node_Decode.l2
  refine LeO.ite (LeO.ite (LeO.refl _) (LeO.bind (num_GetText.mono _ _) (fun _ => LeO.bind (LeO.refl _) (fun _ => LeO.ite (ih _ _ _ _ _) (LeO.none _))))) (LeO.refl _)
theorem node_Decode.mono_fin (b bad leaf cs keys kids k) : LeO (node_Decode.fin k b bad leaf cs keys kids) (node_Decode.fin (k + 1) b bad leaf cs keys kids) := by
  unfold node_Decode.fin
  exact LeO.bind (node_Encode.mono _ _ _ _ _) (fun _ => LeO.refl _)
theorem node_Decode.mono (b : List Int) (k : Nat) : LeO (node_Decode.f k b) (node_Decode.f (k + 1) b) := by
  unfold node_Decode.f
  exact LeO.ite (LeO.bind (numF_mono _ _ _) (fun _ => LeO.bind (node_Decode.mono_l0 _ _ _ _ _ _) (fun _ => LeO.ite (node_Decode.mono_fin _ _ _ _ _ _ _) (LeO.bind (numF_mono _ _ _) (fun _ => LeO.bind (node_Decode.mono_l1 _ _ _ _ _ _) (fun _ => LeO.bind (node_Decode.mono_l2 _ _ _ _ _ _) (fun _ => node_Decode.mono_fin _ _ _ _ _ _ _))))))) (LeO.refl _)
theorem R_elderB2 {α : Type} {d : Kd α} {e base : Nat} {w : World} {ok : Nat → Prop} {v : Value} {xs : List α} (h : d.R e w base ok v xs) (a : Nat) (ha : w.heap.size ≤ a) : d.R e w base (fun k => ok k ∧ k ≠ a) v xs := Kd.R_mono (Kd.R_bound h) (fun k hk => ⟨hk.1, by have := hk.2.2.1; omega⟩)
theorem R_apartT {α β : Type} {d : Kd α} {d' : Kd β} {e e' base base' : Nat} {W : World} {ok ok' : Nat → Prop} {u v : Value} {xs : List α} {ys : List β} (h : d.R e W base ok u xs) (hv : d'.R e' W base' ok' v ys) (ht : ∀ q, q ∈ e :: d.E → e' ≠ q) : d.R e W base (fun k => ok k ∧ some k ≠ v.ownBlock) u xs := Kd.R_mono (Kd.R_bound h) (fun k hk => ⟨hk.1, by obtain ⟨_, _, _, q, hq, cells, hc⟩ := hk; exact Kd.R_ne hv hc (ht q hq)⟩)
def node_Decode.T17 : Bool × List (List Nat × List Nat) := (true, [([], []), ([0], [0]), ([], []), ([2], [2]), ([3], [3]), ([1, 4, 3], [1, 4]), ([0, 1, 2, 3, 4, 5], []), ([6, 5, 5, 0, 1, 2, 3, 4, 5], [5, 6])])
def node_Decode.B17 : List Nat := [0, 1, 0, 4, 12, 31, 63, 127]
theorem node_Decode.tab17 : rtab .any (opsOf Try.f21 17) = node_Decode.T17 := by kernel_rfl
theorem node_Decode.bits17 : waitsOk node_Decode.T17.2 node_Decode.B17 = true := by kernel_rfl
/-- A new box for the reader. -/
theorem Rdr.mk' {w0 w : World} {g : Nat} {A : Option Addr} {c : Nat} {l : List Int} {bad : Bool} (h : w.heap[g]? = some (.cells #[.slice A l.length c, .bool bad] 75 (0, 0))) (hr : Kd.C (Kd.int .u8) w0 A l.length l) (hc : l.length ≤ c) : Rdr w0 w g l bad := ⟨A, c, h, hr, hc⟩
theorem Rdr.out_ {w0 w : World} {g : Nat} {A : Option Addr} {c : Nat} {l : List Int} {bad : Bool} (h : w.heap[g]? = some (.cells #[.slice A l.length c, .bool bad] 75 (0, 0))) (hr : Kd.C (Kd.int .u8) w0 A l.length l) (hc : l.length ≤ c) : Aside0 (Rdr w0 w g l bad) := ⟨⟨A, c, h, hr, hc⟩⟩
theorem Rdr.kept {w0 w w1 : World} {g : Nat} {l : List Int} {bad : Bool} {S : Nat → Prop} (h : Rdr w0 w g l bad) (k : Kept w w1 S) (hs : ¬ S g) : Rdr w0 w1 g l bad := by
  obtain ⟨A, c, h1, h2, h3⟩ := h
  exact ⟨A, c, blk_kept h1 k hs, h2, h3⟩
theorem Rdr.below {w0 w w1 : World} {g : Nat} {l : List Int} {bad : Bool} (h : Rdr w0 w g l bad) (k : Below w.heap.size w w1) : Rdr w0 w1 g l bad := by
  obtain ⟨A, c, h1, h2, h3⟩ := h
  exact ⟨A, c, blk_below h1 k, h2, h3⟩
set_option maxHeartbeats 8000000 in
set_option maxRecDepth 100000 in
theorem node_Decode.calls (k : Nat) (A0 : Option Addr) (c0 : Nat) (l0 : List Int) (r1 : Bool) (r2 : List S62) (r3 : List ByteArray) (r4 : List Int) (r5 : Int) (w : World) (hr0 : Kd.C (Kd.int .u8) w A0 l0.length l0) (hc0 : l0.length ≤ c0) (h : node_Decode.f k l0 = some (r1, r2, r3, r4, r5)) :
  Calls Try.prog 21 #[.slice A0 l0.length c0] w fun e w' => ∃ v1_ v2_ v3_ : Value, e = .returned (.tuple #[.agg #[.bool r1, v1_, v2_, v3_], .int .i64 r5]) ∧ Kd.R k62 62 w' w.heap.size (fun _ => True) v1_ r2 ∧ Kd.R Kd.string 9 w' w.heap.size (fun _ => True) v2_ r3 ∧ Kd.R (Kd.int .i64) 3 w' w.heap.size (fun _ => True) v3_ r4 ∧ Below w.heap.size w w' := by
  have hu36 := Try.underlying36
  have hu62 := Try.underlying62
  have HR0 := Aside0.mk hr0
  have HC0 := Aside0.mk hc0
  clear hr0 hc0
  have HB := Aside0.mk (Below.refl w.heap.size w)
  unfold node_Decode.f at h
  by_cases c1 : (l0.length : Int) = 256
  rotate_left
  · rw [if_neg c1] at h
    have c1b : ((l0.length : Int) != 256) = true := bne_iff_ne.mpr c1
    have c1b2 : (l0.length != 256) = true := bne_iff_ne.mpr (by omega)
    clear c1
    obtain ⟨rfl, rfl, rfl, rfl, rfl⟩ : false = r1 ∧ [] = r2 ∧ [] = r3 ∧ [] = r4 ∧ 8 = r5 := by
      have := Option.some.inj h
      simpa using this
    clear h
    go_enter Try.func21, Try.ntmps21
    go_wp2_with (first | ((with_reducible refine gate_dst (N := 2) rfl ?_); refine box_event ?hg (N := 2) ?hd (cs := #[.bool false, .slice none 0 0, .slice none 0 0, .slice none 0 0]) (t := 36) ?hr ?_; (case hd => rfl); (case hg => rfl); (case hr => first | (go_simp; done) | (go_simp; rfl)); intro gb2 hg w2 hbox hb; have BK2 := Aside0.mk (hbox); have GW2 := bZ HB hg; replace HB := bW HB hb; clear hb hbox hg; obtain ⟨hcz_0, hcz_1, hcz_2, hcz_3, hfz_0, hfz_1, hfz_2, hfz_3⟩ := bf4 (w := w2) BK2))
    refine bodyPost_ret (results_ct rfl _ _ gb2 36 #[.bool false, .slice none 0 0, .slice none 0 0, .slice none 0 0] (0, 0) _ rfl (bR BK2) Try.underlying36 rfl (by kernel_rfl)) rfl ?_
    exact ⟨_, _, _, rfl, Kd.R_nil _ _ _ _ _, Kd.R_nil _ _ _ _ _, Kd.R_nil _ _ _ _ _, bC HB⟩
  rw [if_pos c1] at h
  have c1b : ((l0.length : Int) != 256) = false := bne_eq_false_iff_eq.mpr c1
  have c1b2 : (l0.length != 256) = false := bne_eq_false_iff_eq.mpr (by omega)
  obtain ⟨⟨x1, l1, b1⟩, hA1, h⟩ := Option.bind_eq_some_iff.1 h
  obtain ⟨⟨l2, b2, cs⟩, hA2, h⟩ := Option.bind_eq_some_iff.1 h
  obtain ⟨y, hy⟩ : ∃ y : List Int, y = l0.drop 1 := ⟨_, rfl⟩
  obtain ⟨leaf, hleaf⟩ : ∃ leaf : Bool, leaf = (rd l0 0 == 1) := ⟨_, rfl⟩
  rw [← hy] at hA1 h
  rw [← hleaf] at hA2 h
  have hl0 : (rd l0 0 == 1) = leaf := hleaf.symm
  clear hleaf
  have A1 := Aside0.mk hA1
  have A2 := Aside0.mk hA2
  have H := Aside0.mk h
  clear hA1 hA2 h
  obtain ⟨ad, e0, hx0⟩ := Kd.at_int HR0.out 0 (by decide) (by omega)
  cases e0
  replace hx0 : w.cell? ad = some (.int .u8 (rd l0 0)) := hx0
  have hcy : ∃ (A1 : Option Addr) (c1 : Nat), (∀ W : World, (Instr.slice 30 (Value.slice (some ad) l0.length c0) (some (Value.int .i64 1)) none none).run Try.prog W = .ok (.slice A1 y.length c1) W) ∧ Kd.C (Kd.int .u8) w A1 y.length y ∧ y.length ≤ c1 := by
    obtain ⟨i0, hi0, _, hsz, _⟩ := info_parts (P := Try.prog) info5
    have hcut := cut_from (P := Try.prog) 30 5 .i64 Try.underlying30 hi0 1 hsz (some ad) l0.length c0 1 (by decide) (by omega)
    have hr1 := Kd.C_drop (m := (1 : Int).toNat) (c := c0) HR0.out (by omega) HC0.out
    have hl : y.length = l0.length - (1 : Int).toNat := by rw [hy]; exact List.length_drop
    have he : l0.drop (1 : Int).toNat = y := hy.symm
    rw [he] at hr1
    refine ⟨_, c0 - (1 : Int).toNat, fun W => ?_, hr1, ?_⟩
    · rw [hl]; exact hcut W
    · have := HC0.out
      omega
  obtain ⟨Ay, cy, hcut, hry, hcy⟩ := hcy
  have HRY := Aside0.mk hry
  have HCY := Aside0.mk hcy
  clear hry hcy hy
  go_enter Try.func21, Try.ntmps21
  go_upto_block 0 with (first | ((with_reducible refine gate_dst (N := 2) rfl ?_); refine box_event ?hg (N := 2) ?hd (cs := #[.bool false, .slice none 0 0, .slice none 0 0, .slice none 0 0]) (t := 36) ?hr ?_; (case hd => rfl); (case hg => rfl); (case hr => first | (go_simp; done) | (go_simp; rfl)); intro gb2 hg w2 hbox hb; have BK2 := Aside0.mk (hbox); have GW2 := bZ HB hg; replace HB := bW HB hb; clear hb hbox hg) | ((with_reducible refine gate_dst (N := 25) rfl ?_); refine box_event ?hg (N := 25) ?hd (cs := #[.slice Ay y.length cy, .bool false]) (t := 75) ?hr ?_; (case hd => rfl); (case hg => rfl); (case hr => first | (go_simp; done) | (go_simp; rfl)); intro gb25 hg w25 hbox hb; have BK25 := Aside0.mk (hbox); have GW25 := bZ HB hg; have NB2_25 := bL BK2 hg; have NB25_2 := bG BK2 hg; replace BK2 := bB BK2 hb; replace HB := bW HB hb; clear hb hbox hg; have hx1 := (HB.out.cell (World.block_lt_of_cell? w _ hx0)).trans hx0) | ((with_reducible refine gate_dst (N := 5) rfl ?_); refine box_event ?hg (N := 5) ?hd (cs := #[.bool false, .slice none 0 0, .slice none 0 0, .slice none 0 0]) (t := 36) ?hr ?_; (case hd => rfl); (case hg => rfl); (case hr => first | (go_simp; done) | (go_simp; rfl)); intro gb5 hg w5 hbox hb; have BK5 := Aside0.mk (hbox); have GW5 := bZ HB hg; have NB2_5 := bL BK2 hg; have NB5_2 := bG BK2 hg; have NB25_5 := bL BK25 hg; have NB5_25 := bG BK25 hg; replace BK2 := bB BK2 hb; replace BK25 := bB BK25 hb; replace HB := bW HB hb; clear hb hbox hg; have hx2 := (HB.out.cell (World.block_lt_of_cell? w _ hx0)).trans hx0; obtain ⟨hcz_0, hcz_1, hcz_2, hcz_3, hfz_0, hfz_1, hfz_2, hfz_3⟩ := bf4 (w := w5) BK5) | ((with_reducible refine gate_callee (f := 38) rfl ?_); refine goesL_ (some 32) rfl rfl Try.func38 (by kernel_rfl) rfl #[.pointer (some ⟨gb25, 0, none⟩)] rfl (by (try simp only [List.map_toArray, List.map_cons, List.map_nil]); first | done | rfl | (simp only [List.length_drop, List.length_take]; rfl)) ?_; (with_reducible refine (num_calls (w0 := w) k gb25 y false ?t1 GW25.out ?t3 x1 l1 b1 A1.out).mono ?_); (case t1 => exact bC HB); (case t3 => exact Rdr.mk' (bQ BK25) HRY.out HCY.out); rintro e w6 ⟨rfl, hr6, hk6, hb6⟩; refine ⟨_, rfl, ?_⟩; have RD := Aside0.mk hr6; replace HB := Aside0.mk hb6; replace BK2 := Aside0.mk (blk_kept (bQ BK2) hk6 NB2_25.out); replace BK5 := Aside0.mk (blk_kept (o := .cells #[.bool leaf, .slice none 0 0, .slice none 0 0, .slice none 0 0] 36 (0, 0)) (bR BK5) hk6 NB5_25.out); clear hr6 hk6 hb6 BK25))
  go_cut [6] (fun v6 wc => ∃ vc : Value, Aside0 (Rdr w wc gb25 l2 b2) ∧ Aside0 (wc.heap[gb2]? = some (.cells #[.bool false, .slice none 0 0, .slice none 0 0, .slice none 0 0] 36 (0, 0))) ∧ Aside0 (wc.heap[gb5]? = some (.cells #[.bool leaf, vc, .slice none 0 0, .slice none 0 0] 36 (0, 0))) ∧ Aside0 (Kd.R k62 62 wc w.heap.size (fun _ => True) vc cs) ∧ Aside0 (Below w.heap.size w wc))
  case first =>
    go_wp2_with fail
    go_loopg [6] k (fun kq v6 w' => ∃ (kk : Int) (l : List Int) (bad : Bool) (xs : List S62) (vc : Value), v6 = .int .i64 kk ∧ Aside0 (node_Decode.l0 kq l bad kk leaf xs = some (l2, b2, cs)) ∧ Aside0 (kq ≤ k) ∧ Aside0 (Rdr w w' gb25 l bad) ∧ Aside0 (w'.heap[gb2]? = some (.cells #[.bool false, .slice none 0 0, .slice none 0 0, .slice none 0 0] 36 (0, 0))) ∧ Aside0 (w'.heap[gb5]? = some (.cells #[.bool leaf, vc, .slice none 0 0, .slice none 0 0] 36 (0, 0))) ∧ Aside0 (Kd.R k62 62 w' w.heap.size (fun _ => True) vc xs) ∧ Aside0 (Below w.heap.size w w'))
    case atStart => exact ⟨x1, l1, b1, [], .slice none 0 0, rfl, A2, ⟨Nat.le_refl _⟩, RD, BK2, BK5, ⟨Kd.R_nil _ _ _ _ _⟩, HB⟩
    case round =>
      obtain ⟨kk, l, bad, xs, vc, rfl, HA, HK, RD, BK2, BK5, HO, HB⟩ := hrel
      cases gk with
      | zero => exact absurd HA.out (by simp [node_Decode.l0])
      | succ k1 =>
        have HF := HA.out
        clear HA
        simp only [node_Decode.l0] at HF
        obtain ⟨Ar, cr, hbr, hrr, hcr⟩ := RD.out
        have BK25 := Aside0.mk hbr
        have HRr := Aside0.mk hrr
        have HCr := Aside0.mk hcr
        clear hbr hrr hcr RD
        obtain ⟨hr_0, hr_1, hrf_0, hrf_1⟩ := bf2 (w := wr) BK25
        obtain ⟨hn_0, hn_1, hn_2, hn_3, hnf_0, hnf_1, hnf_2, hnf_3⟩ := bf4 (w := wr) BK5
        by_cases c2 : kk > 0
        · rw [if_pos c2] at HF
          have c2b : decide (0 < kk) = true := decide_eq_true c2
          clear c2
          cases bad
          · rw [if_neg (by decide)] at HF
            cases leaf
            · rw [if_neg (by decide)] at HF
              obtain ⟨rfl, rfl, rfl⟩ : l = l2 ∧ false = b2 ∧ xs = cs := by
                have := Option.some.inj HF
                simp only [Prod.mk.injEq] at this
                exact this
              go_wp2_with fail
              go_meet
              exact ⟨vc, Rdr.out_ BK25.out HRr.out HCr.out, BK2, BK5, HO, HB⟩
            · rw [if_pos rfl] at HF
              obtain ⟨⟨t1, t2, t3, t4, t5, t6, t7, t8, t9, t10⟩, hC, HF⟩ := Option.bind_eq_some_iff.1 HF
              obtain ⟨⟨l3, b3⟩, hT, HF⟩ := Option.bind_eq_some_iff.1 HF
              by_cases c3 : xs.length < 1599289640401
              · rw [if_pos c3] at HF
                have AC := Aside0.mk hC
                have AT := Aside0.mk hT
                obtain ⟨zs, hzs⟩ : ∃ zs : List S62, zs = xs ++ [(⟨t1, (⟨t2, t3, t4⟩ : S54), t5, (⟨t6, t7, t8⟩ : S54)⟩ : S62)] := ⟨_, rfl⟩
                have Nz := Aside0.mk hzs
                have HF' : Aside0 (node_Decode.l0 k1 l3 b3 (wrap64 (kk - 1)) true zs = some (l2, b2, cs)) := ⟨by rw [hzs]; exact HF⟩
                have LM := Aside0.mk c3
                clear hC hT HF c3 hzs
                go_wp2_with (first | ((with_reducible refine gate_callee (f := 39) rfl ?_); refine goesL_ (some 53) rfl rfl Try.func39 (by kernel_rfl) rfl #[.slice Ar l.length cr] rfl (by (try simp only [List.map_toArray, List.map_cons, List.map_nil]); first | done | rfl | (simp only [List.length_drop, List.length_take]; rfl)) ?_; (with_reducible refine (cell_Get.calls k1 _ _ l t1 t2 t3 t4 t5 t6 t7 t8 t9 t10 _ ?s1 ?s2 AC.out).mono ?_); (case s1 => exact Kd.C_below HRr.out (bC HB)); (case s2 => exact HCr.out); rintro e w11 ⟨rfl, hb⟩; refine ⟨_, rfl, ?_⟩; replace BK2 := bB BK2 hb; replace BK25 := bB BK25 hb; replace BK5 := bB BK5 hb; replace HO := Aside0.mk (Kd.R_below (by (with_reducible repeat (first | apply Kd.R_alloc | apply Kd.R_drewN | apply Kd.R_drew)); exact HO.out) hb); replace HB := bW HB hb; clear hb) | ((with_reducible refine gate_dst (N := 7) rfl ?_); refine box_event ?hg (N := 7) ?hd (cs := #[.string (⟨#[]⟩ : ByteArray), .int .i64 0, .float .f64 0, .string (⟨#[]⟩ : ByteArray), .int .i64 0, .int .i64 0, .float .f64 0, .string (⟨#[]⟩ : ByteArray)]) (t := 62) ?hr ?_; (case hd => rfl); (case hg => rfl); (case hr => first | (go_simp; done) | (go_simp; rfl)); intro gb7 hg w12 hbox hb; have BK7 := Aside0.mk (hbox); have GW7 := bZ HB hg; have NB2_7 := bL BK2 hg; have NB7_2 := bG BK2 hg; have NB25_7 := bL BK25 hg; have NB7_25 := bG BK25 hg; have NB5_7 := bL BK5 hg; have NB7_5 := bG BK5 hg; replace BK2 := bB BK2 hb; replace BK25 := bB BK25 hb; replace BK5 := bB BK5 hb; replace HO := Aside0.mk (Kd.R_below (R_elderB2 (by (with_reducible repeat (first | apply Kd.R_alloc | apply Kd.R_drewN | apply Kd.R_drew)); exact HO.out) gb7 (Nat.le_of_eq hg.symm)) hb); replace HB := bW HB hb; clear hb hbox hg; obtain ⟨hz_0, hz_1, hz_2, hz_3, hz_4, hz_5, hz_6, hz_7, hzf_0, hzf_1, hzf_2, hzf_3, hzf_4, hzf_5, hzf_6, hzf_7⟩ := bf8 (w := w12) BK7) | ((with_reducible refine gate_callee (f := 40) rfl ?_); refine goesL_ (some 60) rfl rfl Try.func40 (by kernel_rfl) rfl #[.pointer (some ⟨gb25, 0, none⟩), .int .i64 t9, .int .i64 t10] rfl (by (try simp only [List.map_toArray, List.map_cons, List.map_nil]); first | done | rfl | (simp only [List.length_drop, List.length_take]; rfl)) ?_; (with_reducible refine (took_calls (w0 := w) gb25 l false t9 t10 ?t1 GW25.out ?t3 (l3, b3) AT.out).mono ?_); (case t1 => exact bC HB); (case t3 => exact Rdr.mk' (bQ BK25) HRr.out HCr.out); rintro e w13 ⟨rfl, hr6, hk6, hb6⟩; refine ⟨_, rfl, ?_⟩; replace HO := Aside0.mk (Kd.R_mono (ok' := fun _ => True) (Kd.R_kept (Kd.R_far (p := ⟨gb7, 7, none⟩) (Kd.R_far (p := ⟨gb7, 6, none⟩) (Kd.R_far (p := ⟨gb7, 5, none⟩) (Kd.R_far (p := ⟨gb7, 4, none⟩) (Kd.R_far (p := ⟨gb7, 3, none⟩) (Kd.R_far (p := ⟨gb7, 2, none⟩) (Kd.R_far (p := ⟨gb7, 1, none⟩) (Kd.R_far (p := ⟨gb7, 0, none⟩) (Kd.R_types HO.out BK25.out (by decide)) (fun _ hk => hk.1.2) (.string t1)) (fun _ hk => hk.1.2) (.int .i64 t2)) (fun _ hk => hk.1.2) (.float .f64 t3)) (fun _ hk => hk.1.2) (.string t4)) (fun _ hk => hk.1.2) (.int .i64 t5)) (fun _ hk => hk.1.2) (.int .i64 t6)) (fun _ hk => hk.1.2) (.float .f64 t7)) (fun _ hk => hk.1.2) (.string t8)) hk6 (fun _ hk => hk.2)) (fun _ _ => trivial)); replace HB := Aside0.mk hb6; replace BK2 := Aside0.mk (blk_kept (bQ BK2) hk6 NB2_25.out); replace BK5 := Aside0.mk (blk_kept (bQ BK5) hk6 NB5_25.out); replace BK7 := Aside0.mk (blk_kept (o := .cells #[.string t1, .int .i64 t2, .float .f64 t3, .string t4, .int .i64 t5, .int .i64 t6, .float .f64 t7, .string t8] 62 (0, 0)) (bR BK7) hk6 NB7_25.out); clear BK25 HRr HCr hb6 hk6; obtain ⟨Ar2, cr2, hbr2, hrr2, hcr2⟩ := hr6; have BK25 := Aside0.mk hbr2; have HRr := Aside0.mk hrr2; have HCr := Aside0.mk hcr2; clear hbr2 hrr2 hcr2; obtain ⟨hy_0, hy_1, hy_2, hy_3, hyf_0, hyf_1, hyf_2, hyf_3⟩ := bf4 (w := w13) BK5; obtain ⟨hu_0, hu_1, hu_2, hu_3, hu_4, hu_5, hu_6, hu_7, huf_0, huf_1, huf_2, huf_3, huf_4, huf_5, huf_6, huf_7⟩ := bf8 (w := w13) BK7) | ((with_reducible refine gate_builtin (b := .append) (xs := #[.tmp 62, .tmp 64]) rfl ?_); at_builtin; refine Kd.R_append k62 (w0 := w) w.heap.size rfl (.tmp 62) (.tmp 64) 34 62 (.agg #[.string (⟨#[]⟩ : ByteArray), .int .i64 0, .float .f64 0, .string (⟨#[]⟩ : ByteArray), .int .i64 0, .int .i64 0, .float .f64 0, .string (⟨#[]⟩ : ByteArray)]) 88 rfl Try.underlying34 info62 rfl (by decide) (by omega) vc xs (⟨t1, (⟨t2, t3, t4⟩ : S54), t5, (⟨t6, t7, t8⟩ : S54)⟩ : S62) [.string t1, .int .i64 t2, .float .f64 t3, .string t4, .int .i64 t5, .int .i64 t6, .float .f64 t7, .string t8] (fun _ => True) (fun _ => False) rfl rfl ?aP (fun _ hk => hk.elim) ?aF ?aO ?aB ?aS ?aL ?_; (case aP => exact k62_mkM _ _ _ (⟨t1, (⟨t2, t3, t4⟩ : S54), t5, (⟨t6, t7, t8⟩ : S54)⟩ : S62)); (case aB => exact (bC HB)); (case aF => exact (fun _ _ => trivial)); (case aO => exact (by (with_reducible repeat (first | apply Kd.R_alloc | apply Kd.R_drewN | apply Kd.R_drew)); exact HO.out)); (case aS => exact (below_size (bC HB))); (case aL => have := LM.out; omega); intro v14 w14 ho hb hg hat; rw [← Nz.out] at ho; have HO2 := Aside0.mk ho; replace BK2 := Aside0.mk (blk_grown (bQ BK2) hg (Kd.R_ne HO.out BK2.out (by decide))); replace BK5 := Aside0.mk (blk_grown (bQ BK5) hg (Kd.R_ne HO.out BK5.out (by decide))); replace BK25 := Aside0.mk (blk_grown (bQ BK25) hg (Kd.R_ne HO.out BK25.out (by decide))); replace HB := Aside0.mk hb; clear HO; have HO := HO2; clear HO2 ho hb hg hat; obtain ⟨Ao, co, eo⟩ := Kd.R_slice HO.out; subst eo; obtain ⟨hv_0, hv_1, hv_2, hv_3, hvf_0, hvf_1, hvf_2, hvf_3⟩ := bf4 (w := w14) BK5))
                go_roundg k1
                case measure => have := HK.out; omega
                case rel =>
                  refine ⟨wrap64 (kk - 1), l3, b3, zs, .slice Ao zs.length co, rfl, HF', ⟨by have := HK.out; omega⟩, ?_, ?_, ?_, ?_, ?_⟩
                  · exact ⟨Rdr.mk' (bQ BK25) HRr.out HCr.out⟩
                  · exact ⟨bQ BK2⟩
                  · exact ⟨bR BK5⟩
                  · exact ⟨Kd.R_mono (Kd.R_far (p := ⟨gb5, 1, none⟩) (Kd.R_types HO.out BK5.out (by decide)) (fun _ hk => hk.2) _) (fun _ _ => trivial)⟩
                  · exact ⟨bC HB⟩
              · rw [if_neg c3] at HF; cases HF
          · rw [if_pos rfl] at HF
            obtain ⟨rfl, rfl, rfl⟩ : l = l2 ∧ true = b2 ∧ xs = cs := by
              have := Option.some.inj HF
              simp only [Prod.mk.injEq] at this
              exact this
            go_wp2_with fail
            go_meet
            exact ⟨vc, Rdr.out_ BK25.out HRr.out HCr.out, BK2, BK5, HO, HB⟩
        · rw [if_neg c2] at HF
          have c2b : decide (0 < kk) = false := decide_eq_false c2
          clear c2
          obtain ⟨rfl, rfl, rfl⟩ : l = l2 ∧ bad = b2 ∧ xs = cs := by
            have := Option.some.inj HF
            simp only [Prod.mk.injEq] at this
            exact this
          go_wp2_with fail
          go_meet
          exact ⟨vc, Rdr.out_ BK25.out HRr.out HCr.out, BK2, BK5, HO, HB⟩
  case rest =>
    obtain ⟨vc, RD, BK2, BK5, HO, HB⟩ := hcut
    have HF := H.out
    clear H
    obtain ⟨Ar, cr, hbr, hrr, hcr⟩ := RD.out
    have BK25 := Aside0.mk hbr
    clear hbr hrr hcr RD
    obtain ⟨hr_0, hr_1, hrf_0, hrf_1⟩ := bf2 (w := wc) BK25
    obtain ⟨hn_0, hn_1, hn_2, hn_3, hnf_0, hnf_1, hnf_2, hnf_3⟩ := bf4 (w := wc) BK5
    cases leaf
    · rw [if_neg (by decide)] at HF
      obtain ⟨⟨x2, l4, b4⟩, hU, HF⟩ := Option.bind_eq_some_iff.1 HF
      obtain ⟨⟨l5, b5, kids⟩, hV, HF⟩ := Option.bind_eq_some_iff.1 HF
      obtain ⟨⟨l6, b6, keys⟩, hW, HF⟩ := Option.bind_eq_some_iff.1 HF
      dsimp only at hU hV hW HF
      have AU := Aside0.mk hU
      have AV := Aside0.mk hV
      have AW := Aside0.mk hW
      have HFi := Aside0.mk HF
      clear hU hV hW HF
      go_upto_block 2 with (first | ((with_reducible refine gate_dst (N := 73) rfl ?_); refine box_event ?hg (N := 73) ?hd (cs := #[.slice Ay y.length cy, .bool false]) (t := 75) ?hr ?_; (case hd => rfl); (case hg => rfl); (case hr => first | (go_simp; done) | (go_simp; rfl)); intro gb73 hg w30 hbox hb; have BK73 := Aside0.mk (hbox); have GW73 := bZ HB hg; have NB2_73 := bL BK2 hg; have NB73_2 := bG BK2 hg; have NB5_73 := bL BK5 hg; have NB73_5 := bG BK5 hg; replace BK2 := bB BK2 hb; replace BK5 := bB BK5 hb; replace HO := Aside0.mk (Kd.R_below (by (with_reducible repeat (first | apply Kd.R_alloc | apply Kd.R_drewN | apply Kd.R_drew)); exact HO.out) hb); replace HB := bW HB hb; clear hb hbox hg) | ((with_reducible refine gate_callee (f := 38) rfl ?_); refine goesL_ (some 75) rfl rfl Try.func38 (by kernel_rfl) rfl #[.pointer (some ⟨gb73, 0, none⟩)] rfl (by (try simp only [List.map_toArray, List.map_cons, List.map_nil]); first | done | rfl | (simp only [List.length_drop, List.length_take]; rfl)) ?_; (with_reducible refine (num_calls (w0 := w) k gb73 y false ?t1 GW73.out ?t3 x2 l4 b4 AU.out).mono ?_); (case t1 => exact bC HB); (case t3 => exact Rdr.mk' (bQ BK73) HRY.out HCY.out); rintro e w31 ⟨rfl, hr6, hk6, hb6⟩; refine ⟨_, rfl, ?_⟩; have RD := Aside0.mk hr6; replace HO := Aside0.mk (Kd.R_mono (ok' := fun _ => True) (Kd.R_kept (Kd.R_types HO.out BK73.out (by decide)) hk6 (fun _ hk => hk.2)) (fun _ _ => trivial)); replace HB := Aside0.mk hb6; replace BK2 := Aside0.mk (blk_kept (bQ BK2) hk6 NB2_73.out); replace BK5 := Aside0.mk (blk_kept (bQ BK5) hk6 NB5_73.out); clear hr6 hk6 hb6 BK73))
      clear hr_0 hr_1 hrf_0 hrf_1 hn_0 hn_1 hn_2 hn_3 hnf_0 hnf_1 hnf_2 hnf_3
      go_cut [11] (fun v11 wd => ∃ vi : Value, Aside0 (Rdr w wd gb73 l5 b5) ∧ Aside0 (wd.heap[gb2]? = some (.cells #[.bool false, .slice none 0 0, .slice none 0 0, .slice none 0 0] 36 (0, 0))) ∧ Aside0 (wd.heap[gb5]? = some (.cells #[.bool false, vc, .slice none 0 0, vi] 36 (0, 0))) ∧ Aside0 (Kd.R k62 62 wd w.heap.size (fun _ => True) vc cs) ∧ Aside0 (Kd.R (Kd.int .i64) 3 wd w.heap.size (fun _ => True) vi kids) ∧ Aside0 (Below w.heap.size w wd))
      case first =>
        go_wp2_with fail
        go_loopg [11] k (fun kq v11 w' => ∃ (ii : Int) (l : List Int) (bad : Bool) (ks : List Int) (vi : Value), v11 = .int .i64 ii ∧ Aside0 (node_Decode.l1 kq l bad ii x2 ks = some (l5, b5, kids)) ∧ Aside0 (kq ≤ k) ∧ Aside0 (Rdr w w' gb73 l bad) ∧ Aside0 (w'.heap[gb2]? = some (.cells #[.bool false, .slice none 0 0, .slice none 0 0, .slice none 0 0] 36 (0, 0))) ∧ Aside0 (w'.heap[gb5]? = some (.cells #[.bool false, vc, .slice none 0 0, vi] 36 (0, 0))) ∧ Aside0 (Kd.R k62 62 w' w.heap.size (fun _ => True) vc cs) ∧ Aside0 (Kd.R (Kd.int .i64) 3 w' w.heap.size (fun _ => True) vi ks) ∧ Aside0 (Below w.heap.size w w'))
        case atStart => exact ⟨0, l4, b4, [], .slice none 0 0, rfl, AV, ⟨Nat.le_refl _⟩, RD, BK2, BK5, HO, ⟨Kd.R_nil _ _ _ _ _⟩, HB⟩
        case round =>
          obtain ⟨ii, l, bad, ks, vi, rfl, HA, HK, RD, BK2, BK5, HO, HOI, HB⟩ := hrel
          cases gk with
          | zero => exact absurd HA.out (by simp [node_Decode.l1])
          | succ k1 =>
            have HF := HA.out
            clear HA
            simp only [node_Decode.l1] at HF
            obtain ⟨Ar, cr, hbr, hrr, hcr⟩ := RD.out
            have BK73 := Aside0.mk hbr
            have HRr := Aside0.mk hrr
            have HCr := Aside0.mk hcr
            clear hbr hrr hcr
            obtain ⟨hr_0, hr_1, hrf_0, hrf_1⟩ := bf2 (w := wr) BK73
            obtain ⟨hn_0, hn_1, hn_2, hn_3, hnf_0, hnf_1, hnf_2, hnf_3⟩ := bf4 (w := wr) BK5
            by_cases c2 : ii < x2
            · rw [if_pos c2] at HF
              have c2b : decide (ii < x2) = true := decide_eq_true c2
              clear c2
              cases bad
              · rw [if_neg (by decide)] at HF
                obtain ⟨⟨t1, l7, b7⟩, hN, HF⟩ := Option.bind_eq_some_iff.1 HF
                by_cases c3 : ks.length < 17592186044416
                · rw [if_pos c3] at HF
                  have AN := Aside0.mk hN
                  have LM := Aside0.mk c3
                  obtain ⟨zs, hzs⟩ : ∃ zs : List Int, zs = ks ++ [t1] := ⟨_, rfl⟩
                  have Nz := Aside0.mk hzs
                  have HF' : Aside0 (node_Decode.l1 k1 l7 b7 (wrap64 (ii + 1)) x2 zs = some (l5, b5, kids)) := ⟨by rw [hzs]; exact HF⟩
                  clear hN HF c3 hzs
                  go_upto_region 17 with fail
                  replace HO := Aside0.mk (Kd.R_drew HO.out)
                  replace HOI := Aside0.mk (Kd.R_drew HOI.out)
                  replace BK2 := Aside0.mk (blk_drew BK2.out)
                  replace BK5 := Aside0.mk (blk_drew BK5.out)
                  replace BK73 := Aside0.mk (blk_drew BK73.out)
                  replace HB := Aside0.mk (below_drew1 HB.out)
                  refine start_ (n := 8) (S := fun w' => w'.cell? ⟨gb5, 0, none⟩ = some (.bool false) ∧ w'.cell? ⟨gb5, 1, none⟩ = some vc ∧ w'.cell? ⟨gb5, 2, none⟩ = some (.slice none 0 0) ∧ w'.cell? ⟨gb5, 3, none⟩ = some vi) (ds := [7]) #[false, false, false, false, false, false, false, false] (by kernel_rfl) rfl rfl (be4 BK5) (fun hHeld => ?_)
                  refine with_tabW node_Decode.tab17 node_Decode.bits17 (fun HT_ HW_ => ?_)
                  generalize wr.drew = w17 at HO HOI BK2 BK5 BK73 HB hHeld ⊢
                  refine pure_ (i := 0) (N := some 88) (v := ?_) (a' := ?_) #[true, false, false, false, false, false, false, false] rfl rfl (any_of HT_.out (by kernel_rfl)) (fun _ _ _ h => h) (Or.inl ⟨by rfl, ?_⟩) ?_ ?_
                  rotate_left
                  · intro w'
                    go_simp
                    with_reducible rfl
                  rotate_left
                  · simp only [Act.put, List.setIfInBounds_toArray, List.set_cons_zero, List.set_cons_succ, i64_w, i32_w]
                    rfl
                  refine pure_ (i := 2) (N := some 90) (v := ?_) (a' := ?_) #[true, false, true, false, false, false, false, false] rfl rfl (any_of HT_.out (by kernel_rfl)) (fun _ _ _ h => h) (Or.inl ⟨by rfl, ?_⟩) ?_ ?_
                  rotate_left
                  · intro w'
                    go_simp
                    with_reducible rfl
                  rotate_left
                  · simp only [Act.put, List.setIfInBounds_toArray, List.set_cons_zero, List.set_cons_succ, i64_w, i32_w]
                    rfl
                  refine take_ (i := 1) (N := some 89) (v := ?_) (a' := ?_) #[true, true, true, false, false, false, false, false] rfl rfl (take_ofW HT_.out HW_.out (by kernel_rfl)) (fun _ _ _ h => h) (Or.inl ⟨by rfl, ?_⟩) hHeld ?_ ?_
                  rotate_left
                  · rintro w' ⟨s0, s1, s2, s3⟩
                    go_simp
                    with_reducible rfl
                  rotate_left
                  · simp only [Act.put, List.setIfInBounds_toArray, List.set_cons_zero, List.set_cons_succ, i64_w, i32_w]
                    rfl
                  refine one_ (i := 3) (N := some 91) #[true, true, true, true, false, false, false, false] rfl rfl (one_of HT_.out (by kernel_rfl)) (by decide) (fun K hK => ?_)
                  refine goes_ Try.func38 (by kernel_rfl) rfl #[.pointer (some ⟨gb73, 0, none⟩)] (by rfl) rfl rfl (by (try simp only [List.map_toArray, List.map_cons, List.map_nil]); first | done | rfl | (simp only [List.length_drop, List.length_take]; rfl)) ?_
                  with_reducible refine (num_calls (w0 := w) k1 gb73 l false HB.out GW73.out (Rdr.mk' BK73.out HRr.out HCr.out) t1 l7 b7 AN.out).mono ?_
                  rintro e w18 ⟨rfl, hr6, hk6, hb6⟩
                  refine ⟨_, rfl, ?_⟩
                  replace HO := Aside0.mk (Kd.R_mono (ok' := fun _ => True) (Kd.R_kept (Kd.R_types HO.out BK73.out (by decide)) hk6 (fun _ hk => hk.2)) (fun _ _ => trivial))
                  replace HOI := Aside0.mk (Kd.R_mono (ok' := fun _ => True) (Kd.R_kept (Kd.R_types HOI.out BK73.out (by decide)) hk6 (fun _ hk => hk.2)) (fun _ _ => trivial))
                  replace HB := Aside0.mk hb6
                  replace BK2 := Aside0.mk (blk_kept BK2.out hk6 NB2_73.out)
                  replace BK5 := Aside0.mk (blk_kept BK5.out hk6 NB5_73.out)
                  clear BK73 HRr HCr hk6 hb6
                  obtain ⟨Ar2, cr2, hbr2, hrr2, hcr2⟩ := hr6
                  have BK73 := Aside0.mk hbr2
                  have HRr := Aside0.mk hrr2
                  have HCr := Aside0.mk hcr2
                  clear hbr2 hrr2 hcr2
                  refine hK.out _ _ (be4 BK5) (fun hHeld => ?_)
                  clear hK K
                  refine norm_ (a' := ?_) ?_ ?_
                  rotate_left
                  · show Act.put _ (some 91) _ = _
                    simp only [Act.put, List.setIfInBounds_toArray, List.set_cons_zero, List.set_cons_succ, i64_w, i32_w]
                    rfl
                  refine one_ (i := 4) (N := some 92) #[true, true, true, true, true, false, false, false] rfl rfl (one_of HT_.out (by kernel_rfl)) (by decide) (fun K hK => ?_)
                  refine value_ (w1 := ?_) (v := ?_) (by rfl) rfl ?_ ?_
                  rotate_left 2
                  · go_simp
                    constructor
                    · rfl
                    · rfl
                  refine hK.out _ _ ⟨(blk_cell (blk_alloc BK5.out _) 0).trans rfl, (blk_cell (blk_alloc BK5.out _) 1).trans rfl, (blk_cell (blk_alloc BK5.out _) 2).trans rfl, (blk_cell (blk_alloc BK5.out _) 3).trans rfl⟩ (fun hHeld => ?_)
                  clear hK K
                  refine norm_ (a' := ?_) ?_ ?_
                  rotate_left
                  · show Act.put _ (some 92) _ = _
                    simp only [Act.put, List.setIfInBounds_toArray, List.set_cons_zero, List.set_cons_succ, i64_w, i32_w]
                    rfl
                  refine one_ (i := 5) (N := some 93) #[true, true, true, true, true, true, false, false] rfl rfl (one_of HT_.out (by kernel_rfl)) (by decide) (fun K hK => ?_)
                  refine Kd.R_append_step (Kd.int .i64) (w0 := w) w.heap.size (by rfl) (.tmp 89) (.tmp 92) 24 3 (.int .i64 0) 8 rfl Try.underlying24 info3 rfl (by decide) (by omega) vi ks t1 [.int .i64 t1] (fun _ => True) (fun _ => False) rfl rfl ?aP (fun _ hk => hk.elim) ?aF ?aO ?aB ?aS ?aL ?_
                  (case aP => exact rfl)
                  (case aB => exact HB.out)
                  (case aF => exact (fun _ _ => trivial))
                  (case aO => exact HOI.out)
                  (case aS => exact (below_size HB.out))
                  (case aL => have := LM.out; omega)
                  intro v19 w19 ho hb hg hat
                  rw [← Nz.out] at ho
                  have HOI2 := Aside0.mk ho
                  replace HO := Aside0.mk (Kd.R_mono (ok' := fun _ => True) (Kd.R_after (R_apartT HO.out HOI.out (by decide)) hg hat) (fun _ _ => trivial))
                  replace BK2 := Aside0.mk (blk_grown BK2.out hg (Kd.R_ne HOI.out BK2.out (by decide)))
                  replace BK5 := Aside0.mk (blk_grown BK5.out hg (Kd.R_ne HOI.out BK5.out (by decide)))
                  replace BK73 := Aside0.mk (blk_grown BK73.out hg (Kd.R_ne HOI.out BK73.out (by decide)))
                  replace HB := Aside0.mk hb
                  clear HOI
                  have HOI := HOI2
                  clear HOI2 ho hb hg hat
                  obtain ⟨Ao, co, eo⟩ := Kd.R_slice HOI.out
                  subst eo
                  refine hK.out _ _ (be4 BK5) (fun hHeld => ?_)
                  clear hK K
                  refine norm_ (a' := ?_) ?_ ?_
                  rotate_left
                  · show Act.put _ (some 93) _ = _
                    simp only [Act.put, List.setIfInBounds_toArray, List.set_cons_zero, List.set_cons_succ, i64_w, i32_w]
                    rfl
                  refine pure_ (i := 6) (N := some 94) (v := ?_) (a' := ?_) #[true, true, true, true, true, true, true, false] rfl rfl (any_of HT_.out (by kernel_rfl)) (fun _ _ _ h => h) (Or.inl ⟨by rfl, ?_⟩) ?_ ?_
                  rotate_left
                  · intro w'
                    go_simp
                    with_reducible rfl
                  rotate_left
                  · simp only [Act.put, List.setIfInBounds_toArray, List.set_cons_zero, List.set_cons_succ, i64_w, i32_w]
                    rfl
                  refine last_ (i := 7) (N := none) #[true, true, true, true, true, true, true, true] rfl rfl (one_of HT_.out (by kernel_rfl)) (by decide) (fun K hK => ?_)
                  have hs21 : w19.cell? ⟨gb5, 3, none⟩ = some vi := (blk_cell BK5.out 3).trans rfl
                  have hfs21 := blk_frozen BK5.out 3
                  with_reducible refine skip_ (w1 := ?_) (by with_unfolding_all rfl) (by with_unfolding_all rfl) ?_ ?_
                  rotate_left
                  · go_simp
                    rfl
                  refine hK.out _ _ ?_
                  clear hK K
                  refine done_ (done_of HT_.out (by kernel_rfl)) ?_
                  try go_wp2
                  go_roundg k1
                  case measure => have := HK.out; omega
                  case rel =>
                    refine ⟨wrap64 (ii + 1), l7, b7, zs, .slice Ao zs.length co, rfl, HF', ⟨by have := HK.out; omega⟩, ?_, ?_, ?_, ?_, ?_, ?_⟩
                    · exact ⟨Rdr.mk' (bQ BK73) HRr.out HCr.out⟩
                    · exact ⟨bQ BK2⟩
                    · exact ⟨bR BK5⟩
                    · exact ⟨Kd.R_mono (Kd.R_far (p := ⟨gb5, 3, none⟩) (Kd.R_types HO.out BK5.out (by decide)) (fun _ hk => hk.2) _) (fun _ _ => trivial)⟩
                    · exact ⟨Kd.R_mono (Kd.R_far (p := ⟨gb5, 3, none⟩) (Kd.R_types HOI.out BK5.out (by decide)) (fun _ hk => hk.2) _) (fun _ _ => trivial)⟩
                    · exact ⟨bC HB⟩
                · rw [if_neg c3] at HF; cases HF
              · rw [if_pos rfl] at HF
                obtain ⟨rfl, rfl, rfl⟩ : l = l5 ∧ true = b5 ∧ ks = kids := by
                  have := Option.some.inj HF
                  simp only [Prod.mk.injEq] at this
                  exact this
                go_wp2_with fail
                go_meet
                exact ⟨vi, Rdr.out_ BK73.out HRr.out HCr.out, BK2, BK5, HO, HOI, HB⟩
            · rw [if_neg c2] at HF
              have c2b : decide (ii < x2) = false := decide_eq_false c2
              clear c2
              obtain ⟨rfl, rfl, rfl⟩ : l = l5 ∧ bad = b5 ∧ ks = kids := by
                have := Option.some.inj HF
                simp only [Prod.mk.injEq] at this
                exact this
              go_wp2_with fail
              go_meet
              exact ⟨vi, Rdr.out_ BK73.out HRr.out HCr.out, BK2, BK5, HO, HOI, HB⟩
      case rest =>
        obtain ⟨vi, RD, BK2, BK5, HO, HOI, HB⟩ := hcut
        go_upto_block 4 with fail
        go_cut [12] (fun v12 we => ∃ vk : Value, Aside0 (Rdr w we gb73 l6 b6) ∧ Aside0 (we.heap[gb2]? = some (.cells #[.bool false, .slice none 0 0, .slice none 0 0, .slice none 0 0] 36 (0, 0))) ∧ Aside0 (we.heap[gb5]? = some (.cells #[.bool false, vc, vk, vi] 36 (0, 0))) ∧ Aside0 (Kd.R k62 62 we w.heap.size (fun _ => True) vc cs) ∧ Aside0 (Kd.R (Kd.int .i64) 3 we w.heap.size (fun _ => True) vi kids) ∧ Aside0 (Kd.R Kd.string 9 we w.heap.size (fun _ => True) vk keys) ∧ Aside0 (Below w.heap.size w we))
        case first =>
          go_wp2_with fail
          go_loopg [12] k (fun kq v12 w' => ∃ (ii : Int) (l : List Int) (bad : Bool) (ks : List ByteArray) (vk : Value), v12 = .int .i64 ii ∧ Aside0 (node_Decode.l2 kq l bad ii x2 ks = some (l6, b6, keys)) ∧ Aside0 (kq ≤ k) ∧ Aside0 (Rdr w w' gb73 l bad) ∧ Aside0 (w'.heap[gb2]? = some (.cells #[.bool false, .slice none 0 0, .slice none 0 0, .slice none 0 0] 36 (0, 0))) ∧ Aside0 (w'.heap[gb5]? = some (.cells #[.bool false, vc, vk, vi] 36 (0, 0))) ∧ Aside0 (Kd.R k62 62 w' w.heap.size (fun _ => True) vc cs) ∧ Aside0 (Kd.R (Kd.int .i64) 3 w' w.heap.size (fun _ => True) vi kids) ∧ Aside0 (Kd.R Kd.string 9 w' w.heap.size (fun _ => True) vk ks) ∧ Aside0 (Below w.heap.size w w'))
          case atStart => exact ⟨1, l5, b5, [], .slice none 0 0, rfl, AW, ⟨Nat.le_refl _⟩, RD, BK2, BK5, HO, HOI, ⟨Kd.R_nil _ _ _ _ _⟩, HB⟩
          case round =>
            obtain ⟨ii, l, bad, ks, vk, rfl, HA, HK, RD, BK2, BK5, HO, HOI, HOK, HB⟩ := hrel
            cases gk with
            | zero => exact absurd HA.out (by simp [node_Decode.l2])
            | succ k1 =>
              have HF := HA.out
              clear HA
              simp only [node_Decode.l2] at HF
              obtain ⟨Ar, cr, hbr, hrr, hcr⟩ := RD.out
              have BK73 := Aside0.mk hbr
              have HRr := Aside0.mk hrr
              have HCr := Aside0.mk hcr
              clear hbr hrr hcr
              obtain ⟨hr_0, hr_1, hrf_0, hrf_1⟩ := bf2 (w := wr) BK73
              obtain ⟨hn_0, hn_1, hn_2, hn_3, hnf_0, hnf_1, hnf_2, hnf_3⟩ := bf4 (w := wr) BK5
              by_cases c2 : ii < x2
              · rw [if_pos c2] at HF
                have c2b : decide (ii < x2) = true := decide_eq_true c2
                clear c2
                cases bad
                · rw [if_neg (by decide)] at HF
                  obtain ⟨⟨t1, t2, t3⟩, hC, HF⟩ := Option.bind_eq_some_iff.1 HF
                  obtain ⟨⟨l3, b3⟩, hT, HF⟩ := Option.bind_eq_some_iff.1 HF
                  dsimp only at hC hT HF
                  by_cases c3 : ks.length < 8796093022208
                  · rw [if_pos c3] at HF
                    have AC := Aside0.mk hC
                    have AT := Aside0.mk hT
                    have LM := Aside0.mk c3
                    obtain ⟨zs, hzs⟩ : ∃ zs : List ByteArray, zs = ks ++ [t1] := ⟨_, rfl⟩
                    have Nz := Aside0.mk hzs
                    have HF' : Aside0 (node_Decode.l2 k1 l3 b3 (wrap64 (ii + 1)) x2 zs = some (l6, b6, keys)) := ⟨by rw [hzs]; exact HF⟩
                    clear hC hT HF c3 hzs
                    go_wp2_with (first | ((with_reducible refine gate_callee (f := 41) rfl ?_); refine goesL_ (some 112) rfl rfl Try.func41 (by kernel_rfl) rfl #[.slice Ar l.length cr] rfl (by (try simp only [List.map_toArray, List.map_cons, List.map_nil]); first | done | rfl | (simp only [List.length_drop, List.length_take]; rfl)) ?_; (with_reducible refine (num_GetText.calls k1 _ _ l t1 t2 t3 _ ?s1 ?s2 AC.out).mono ?_); (case s1 => exact Kd.C_below HRr.out (bC HB)); (case s2 => exact HCr.out); rintro e w' ⟨rfl, ⟨nd, rfl⟩⟩; refine ⟨_, rfl, ?_⟩) | ((with_reducible refine gate_callee (f := 40) rfl ?_); refine goesL_ (some 119) rfl rfl Try.func40 (by kernel_rfl) rfl #[.pointer (some ⟨gb73, 0, none⟩), .int .i64 t2, .int .i64 t3] rfl (by (try simp only [List.map_toArray, List.map_cons, List.map_nil]); first | done | rfl | (simp only [List.length_drop, List.length_take]; rfl)) ?_; (with_reducible refine (took_calls (w0 := w) gb73 l false t2 t3 ?t1 GW73.out ?t3 (l3, b3) AT.out).mono ?_); (case t1 => exact bC HB); (case t3 => exact Rdr.mk' (bQ BK73) HRr.out HCr.out); rintro e w13 ⟨rfl, hr6, hk6, hb6⟩; refine ⟨_, rfl, ?_⟩; replace HO := Aside0.mk (Kd.R_mono (ok' := fun _ => True) (Kd.R_kept (ok := fun k_ => True ∧ k_ ≠ gb73) (by (with_reducible repeat (first | apply Kd.R_alloc | apply Kd.R_drewN | apply Kd.R_drew)); exact Kd.R_types HO.out BK73.out (by decide)) hk6 (fun _ hk => hk.2)) (fun _ _ => trivial)); replace HOI := Aside0.mk (Kd.R_mono (ok' := fun _ => True) (Kd.R_kept (ok := fun k_ => True ∧ k_ ≠ gb73) (by (with_reducible repeat (first | apply Kd.R_alloc | apply Kd.R_drewN | apply Kd.R_drew)); exact Kd.R_types HOI.out BK73.out (by decide)) hk6 (fun _ hk => hk.2)) (fun _ _ => trivial)); replace HOK := Aside0.mk (Kd.R_mono (ok' := fun _ => True) (Kd.R_kept (ok := fun k_ => True ∧ k_ ≠ gb73) (by (with_reducible repeat (first | apply Kd.R_alloc | apply Kd.R_drewN | apply Kd.R_drew)); exact Kd.R_types HOK.out BK73.out (by decide)) hk6 (fun _ hk => hk.2)) (fun _ _ => trivial)); replace HB := Aside0.mk hb6; replace BK2 := Aside0.mk (blk_kept (bQ BK2) hk6 NB2_73.out); replace BK5 := Aside0.mk (blk_kept (bQ BK5) hk6 NB5_73.out); clear BK73 HRr HCr hb6 hk6; obtain ⟨Ar2, cr2, hbr2, hrr2, hcr2⟩ := hr6; have BK73 := Aside0.mk hbr2; have HRr := Aside0.mk hrr2; have HCr := Aside0.mk hcr2; clear hbr2 hrr2 hcr2; obtain ⟨hy_0, hy_1, hy_2, hy_3, hyf_0, hyf_1, hyf_2, hyf_3⟩ := bf4 (w := w13) BK5) | ((with_reducible refine gate_builtin (b := .append) (xs := #[.tmp 121, .tmp 123]) rfl ?_); at_builtin; refine Kd.R_append Kd.string (w0 := w) w.heap.size rfl (.tmp 121) (.tmp 123) 23 9 (.string (⟨#[]⟩ : ByteArray)) 16 rfl Try.underlying23 info9 rfl (by decide) (by omega) vk ks t1 [.string t1] (fun _ => True) (fun _ => False) rfl rfl ?aP (fun _ hk => hk.elim) ?aF ?aO ?aB ?aS ?aL ?_; (case aP => exact rfl); (case aB => exact (bC HB)); (case aF => exact (fun _ _ => trivial)); (case aO => exact HOK.out); (case aS => exact (below_size (bC HB))); (case aL => have := LM.out; omega); intro v14 w14 ho hb hg hat; rw [← Nz.out] at ho; have HOK2 := Aside0.mk ho; replace HO := Aside0.mk (Kd.R_mono (ok' := fun _ => True) (Kd.R_after (R_apartT HO.out HOK.out (by decide)) hg hat) (fun _ _ => trivial)); replace HOI := Aside0.mk (Kd.R_mono (ok' := fun _ => True) (Kd.R_after (R_apartT HOI.out HOK.out (by decide)) hg hat) (fun _ _ => trivial)); replace BK2 := Aside0.mk (blk_grown (bQ BK2) hg (Kd.R_ne HOK.out BK2.out (by decide))); replace BK5 := Aside0.mk (blk_grown (bQ BK5) hg (Kd.R_ne HOK.out BK5.out (by decide))); replace BK73 := Aside0.mk (blk_grown (bQ BK73) hg (Kd.R_ne HOK.out BK73.out (by decide))); replace HB := Aside0.mk hb; clear HOK; have HOK := HOK2; clear HOK2 ho hb hg hat; obtain ⟨Ao, co, eo⟩ := Kd.R_slice HOK.out; subst eo; obtain ⟨hv_0, hv_1, hv_2, hv_3, hvf_0, hvf_1, hvf_2, hvf_3⟩ := bf4 (w := w14) BK5))
                    go_roundg k1
                    case measure => have := HK.out; omega
                    case rel =>
                      refine ⟨wrap64 (ii + 1), l3, b3, zs, .slice Ao zs.length co, rfl, HF', ⟨by have := HK.out; omega⟩, ?_, ?_, ?_, ?_, ?_, ?_, ?_⟩
                      · exact ⟨Rdr.mk' (bQ BK73) HRr.out HCr.out⟩
                      · exact ⟨bQ BK2⟩
                      · exact ⟨bR BK5⟩
                      · exact ⟨Kd.R_mono (Kd.R_far (p := ⟨gb5, 2, none⟩) (Kd.R_types HO.out BK5.out (by decide)) (fun _ hk => hk.2) _) (fun _ _ => trivial)⟩
                      · exact ⟨Kd.R_mono (Kd.R_far (p := ⟨gb5, 2, none⟩) (Kd.R_types HOI.out BK5.out (by decide)) (fun _ hk => hk.2) _) (fun _ _ => trivial)⟩
                      · exact ⟨Kd.R_mono (Kd.R_far (p := ⟨gb5, 2, none⟩) (Kd.R_types HOK.out BK5.out (by decide)) (fun _ hk => hk.2) _) (fun _ _ => trivial)⟩
                      · exact ⟨bC HB⟩
                  · rw [if_neg c3] at HF; cases HF
                · rw [if_pos rfl] at HF
                  obtain ⟨rfl, rfl, rfl⟩ : l = l6 ∧ true = b6 ∧ ks = keys := by
                    have := Option.some.inj HF
                    simp only [Prod.mk.injEq] at this
                    exact this
                  go_wp2_with fail
                  go_meet
                  exact ⟨vk, Rdr.out_ BK73.out HRr.out HCr.out, BK2, BK5, HO, HOI, HOK, HB⟩
              · rw [if_neg c2] at HF
                have c2b : decide (ii < x2) = false := decide_eq_false c2
                clear c2
                obtain ⟨rfl, rfl, rfl⟩ : l = l6 ∧ bad = b6 ∧ ks = keys := by
                  have := Option.some.inj HF
                  simp only [Prod.mk.injEq] at this
                  exact this
                go_wp2_with fail
                go_meet
                exact ⟨vk, Rdr.out_ BK73.out HRr.out HCr.out, BK2, BK5, HO, HOI, HOK, HB⟩
        case rest =>
          obtain ⟨vk, RD, BK2, BK5, HO, HOI, HOK, HB⟩ := hcut
          have HF := HFi.out
          obtain ⟨Ar, cr, hbr, hrr, hcr⟩ := RD.out
          have BK73 := Aside0.mk hbr
          clear hbr hrr hcr RD
          obtain ⟨hr_0, hr_1, hrf_0, hrf_1⟩ := bf2 (w := wc) BK73
          obtain ⟨hn_0, hn_1, hn_2, hn_3, hnf_0, hnf_1, hnf_2, hnf_3⟩ := bf4 (w := wc) BK5
          obtain ⟨bz, hbz⟩ : ∃ bz, bz = b6 := ⟨_, rfl⟩
          subst hbz
          unfold node_Decode.fin at HF
          obtain ⟨⟨ec, ee⟩, hE, HF⟩ := Option.bind_eq_some_iff.1 HF
          dsimp only at hE HF
          have AE := Aside0.mk hE
          clear hE
          obtain ⟨Ac, cc, eoc⟩ := Kd.R_slice HO.out
          subst eoc
          obtain ⟨Ak, ck, eok⟩ := Kd.R_slice HOK.out
          subst eok
          obtain ⟨Ai, ci, eoi⟩ := Kd.R_slice HOI.out
          subst eoi
          cases bz
          · rw [if_neg (by decide)] at HF
            by_cases c5 : ee = 0
            · rw [if_pos c5] at HF
              have c5b0 : (ee == 0) = true := beq_iff_eq.mpr c5
              have c5b1 : (ee != 0) = false := bne_eq_false_iff_eq.mpr c5
              clear c5
              obtain ⟨q, hQ, HF⟩ := Option.bind_eq_some_iff.1 HF
              have AQ := Aside0.mk hQ
              clear hQ
              cases q
              · rw [if_neg (by decide)] at HF
                obtain ⟨rfl, rfl, rfl, rfl, rfl⟩ : false = r1 ∧ [] = r2 ∧ [] = r3 ∧ [] = r4 ∧ 8 = r5 := by
                  have := Option.some.inj HF
                  simpa using this
                go_wp2_with (first | ((with_reducible refine gate_callee (f := 19) rfl ?_); refine goesL_ (some 128) rfl rfl Try.func19 (by kernel_rfl) rfl #[.agg #[.bool false, .slice Ac cs.length cc, .slice Ak keys.length ck, .slice Ai kids.length ci]] rfl (by (try simp only [List.map_toArray, List.map_cons, List.map_nil]); first | done | rfl | (simp only [List.length_drop, List.length_take]; rfl)) ?_; refine (node_Encode.calls k false Ac cc cs Ak ck keys Ai ci kids ec ee _ ?e1 ?e2 ?e3 ?e4 ?e5 ?e6 AE.out).mono ?_; (case e1 => exact (Kd.R_reads' (by (with_reducible repeat (first | apply Kd.R_alloc | apply Kd.R_drewN | apply Kd.R_drew)); exact HO.out)).2.2); (case e2 => exact (Kd.R_reads' HO.out).2.1); (case e3 => exact (Kd.R_reads' (by (with_reducible repeat (first | apply Kd.R_alloc | apply Kd.R_drewN | apply Kd.R_drew)); exact HOK.out)).2.2); (case e4 => exact (Kd.R_reads' HOK.out).2.1); (case e5 => exact (Kd.R_reads' (by (with_reducible repeat (first | apply Kd.R_alloc | apply Kd.R_drewN | apply Kd.R_drew)); exact HOI.out)).2.2); (case e6 => exact (Kd.R_reads' HOI.out).2.1); rintro e w21 ⟨v0, rfl, hoc, hb⟩; refine ⟨_, rfl, ?_⟩; have HOE := Aside0.mk (Kd.R_lower hoc (below_size (bC HB))); replace HO := Aside0.mk (Kd.R_below (by (with_reducible repeat (first | apply Kd.R_alloc | apply Kd.R_drewN | apply Kd.R_drew)); exact HO.out) hb); replace HOK := Aside0.mk (Kd.R_below (by (with_reducible repeat (first | apply Kd.R_alloc | apply Kd.R_drewN | apply Kd.R_drew)); exact HOK.out) hb); replace HOI := Aside0.mk (Kd.R_below (by (with_reducible repeat (first | apply Kd.R_alloc | apply Kd.R_drewN | apply Kd.R_drew)); exact HOI.out) hb); replace BK2 := bB BK2 hb; replace BK5 := bB BK5 hb; replace BK73 := bB BK73 hb; replace HB := bW HB hb; clear hb hoc; obtain ⟨Ae, ce, eoe⟩ := Kd.R_slice HOE.out; subst eoe; obtain ⟨hs_0, hs_1, hsf_0, hsf_1⟩ := bf2 (w := w21) BK73; obtain ⟨hi_0, hi_1, hi_2, hi_3, hif_0, hif_1, hif_2, hif_3⟩ := bf4 (w := w21) BK5; obtain ⟨ho_0, ho_1, ho_2, ho_3, hof_0, hof_1, hof_2, hof_3⟩ := bf4 (w := w21) BK2) | (go_at_call 42; (with_reducible refine (bytes_Equal.calls _ _ ec _ _ l0 _ _ ?q1 ?q2 ?q3 ?q4 AQ.out).mono ?_); (case q1 => exact (Kd.R_reads' (by (with_reducible repeat (first | apply Kd.R_alloc | apply Kd.R_drewN | apply Kd.R_drew)); exact HOE.out)).2.2); (case q2 => exact (Kd.R_reads' HOE.out).2.1); (case q3 => exact Kd.C_below HR0.out (bC HB)); (case q4 => exact HC0.out); rintro e w' ⟨rfl, ⟨nd, rfl⟩⟩; (try clear hk)))
                refine bodyPost_ret (results_ct rfl _ _ gb2 36 #[.bool false, .slice none 0 0, .slice none 0 0, .slice none 0 0] (0, 0) _ rfl (bR BK2) Try.underlying36 rfl (by kernel_rfl)) rfl ?_
                exact ⟨_, _, _, rfl, Kd.R_nil _ _ _ _ _, Kd.R_nil _ _ _ _ _, Kd.R_nil _ _ _ _ _, bC HB⟩
              · rw [if_pos rfl] at HF
                obtain ⟨rfl, rfl, rfl, rfl, rfl⟩ : false = r1 ∧ cs = r2 ∧ keys = r3 ∧ kids = r4 ∧ 0 = r5 := by
                  have := Option.some.inj HF
                  simpa using this
                go_wp2_with (first | ((with_reducible refine gate_callee (f := 19) rfl ?_); refine goesL_ (some 128) rfl rfl Try.func19 (by kernel_rfl) rfl #[.agg #[.bool false, .slice Ac cs.length cc, .slice Ak keys.length ck, .slice Ai kids.length ci]] rfl (by (try simp only [List.map_toArray, List.map_cons, List.map_nil]); first | done | rfl | (simp only [List.length_drop, List.length_take]; rfl)) ?_; refine (node_Encode.calls k false Ac cc cs Ak ck keys Ai ci kids ec ee _ ?e1 ?e2 ?e3 ?e4 ?e5 ?e6 AE.out).mono ?_; (case e1 => exact (Kd.R_reads' (by (with_reducible repeat (first | apply Kd.R_alloc | apply Kd.R_drewN | apply Kd.R_drew)); exact HO.out)).2.2); (case e2 => exact (Kd.R_reads' HO.out).2.1); (case e3 => exact (Kd.R_reads' (by (with_reducible repeat (first | apply Kd.R_alloc | apply Kd.R_drewN | apply Kd.R_drew)); exact HOK.out)).2.2); (case e4 => exact (Kd.R_reads' HOK.out).2.1); (case e5 => exact (Kd.R_reads' (by (with_reducible repeat (first | apply Kd.R_alloc | apply Kd.R_drewN | apply Kd.R_drew)); exact HOI.out)).2.2); (case e6 => exact (Kd.R_reads' HOI.out).2.1); rintro e w21 ⟨v0, rfl, hoc, hb⟩; refine ⟨_, rfl, ?_⟩; have HOE := Aside0.mk (Kd.R_lower hoc (below_size (bC HB))); replace HO := Aside0.mk (Kd.R_below (by (with_reducible repeat (first | apply Kd.R_alloc | apply Kd.R_drewN | apply Kd.R_drew)); exact HO.out) hb); replace HOK := Aside0.mk (Kd.R_below (by (with_reducible repeat (first | apply Kd.R_alloc | apply Kd.R_drewN | apply Kd.R_drew)); exact HOK.out) hb); replace HOI := Aside0.mk (Kd.R_below (by (with_reducible repeat (first | apply Kd.R_alloc | apply Kd.R_drewN | apply Kd.R_drew)); exact HOI.out) hb); replace BK2 := bB BK2 hb; replace BK5 := bB BK5 hb; replace BK73 := bB BK73 hb; replace HB := bW HB hb; clear hb hoc; obtain ⟨Ae, ce, eoe⟩ := Kd.R_slice HOE.out; subst eoe; obtain ⟨hs_0, hs_1, hsf_0, hsf_1⟩ := bf2 (w := w21) BK73; obtain ⟨hi_0, hi_1, hi_2, hi_3, hif_0, hif_1, hif_2, hif_3⟩ := bf4 (w := w21) BK5; obtain ⟨ho_0, ho_1, ho_2, ho_3, hof_0, hof_1, hof_2, hof_3⟩ := bf4 (w := w21) BK2) | (go_at_call 42; (with_reducible refine (bytes_Equal.calls _ _ ec _ _ l0 _ _ ?q1 ?q2 ?q3 ?q4 AQ.out).mono ?_); (case q1 => exact (Kd.R_reads' (by (with_reducible repeat (first | apply Kd.R_alloc | apply Kd.R_drewN | apply Kd.R_drew)); exact HOE.out)).2.2); (case q2 => exact (Kd.R_reads' HOE.out).2.1); (case q3 => exact Kd.C_below HR0.out (bC HB)); (case q4 => exact HC0.out); rintro e w' ⟨rfl, ⟨nd, rfl⟩⟩; (try clear hk)))
                refine bodyPost_ret (results_ct rfl _ _ gb2 36 #[.bool false, .slice Ac cs.length cc, .slice Ak keys.length ck, .slice Ai kids.length ci] (0, 0) _ rfl (bR BK2) Try.underlying36 rfl (by kernel_rfl)) rfl ?_
                exact ⟨_, _, _, rfl, (by (with_reducible repeat (first | apply Kd.R_alloc | apply Kd.R_drewN | apply Kd.R_drew)); exact Kd.R_mono (Kd.R_far (ok := fun k_ => True ∧ k_ ≠ gb2) (p := ⟨gb2, 3, none⟩) (Kd.R_far (ok := fun k_ => True ∧ k_ ≠ gb2) (p := ⟨gb2, 2, none⟩) (Kd.R_far (ok := fun k_ => True ∧ k_ ≠ gb2) (p := ⟨gb2, 1, none⟩) (Kd.R_far (ok := fun k_ => True ∧ k_ ≠ gb2) (p := ⟨gb2, 0, none⟩) (by (with_reducible repeat (first | apply Kd.R_alloc | apply Kd.R_drewN | apply Kd.R_drew)); exact Kd.R_types HO.out BK2.out (by decide)) (fun _ hk => hk.2) (.bool false)) (fun _ hk => hk.2) (.slice Ac cs.length cc)) (fun _ hk => hk.2) (.slice Ak keys.length ck)) (fun _ hk => hk.2) (.slice Ai kids.length ci)) (fun _ _ => trivial)), (by (with_reducible repeat (first | apply Kd.R_alloc | apply Kd.R_drewN | apply Kd.R_drew)); exact Kd.R_mono (Kd.R_far (ok := fun k_ => True ∧ k_ ≠ gb2) (p := ⟨gb2, 3, none⟩) (Kd.R_far (ok := fun k_ => True ∧ k_ ≠ gb2) (p := ⟨gb2, 2, none⟩) (Kd.R_far (ok := fun k_ => True ∧ k_ ≠ gb2) (p := ⟨gb2, 1, none⟩) (Kd.R_far (ok := fun k_ => True ∧ k_ ≠ gb2) (p := ⟨gb2, 0, none⟩) (by (with_reducible repeat (first | apply Kd.R_alloc | apply Kd.R_drewN | apply Kd.R_drew)); exact Kd.R_types HOK.out BK2.out (by decide)) (fun _ hk => hk.2) (.bool false)) (fun _ hk => hk.2) (.slice Ac cs.length cc)) (fun _ hk => hk.2) (.slice Ak keys.length ck)) (fun _ hk => hk.2) (.slice Ai kids.length ci)) (fun _ _ => trivial)), (by (with_reducible repeat (first | apply Kd.R_alloc | apply Kd.R_drewN | apply Kd.R_drew)); exact Kd.R_mono (Kd.R_far (ok := fun k_ => True ∧ k_ ≠ gb2) (p := ⟨gb2, 3, none⟩) (Kd.R_far (ok := fun k_ => True ∧ k_ ≠ gb2) (p := ⟨gb2, 2, none⟩) (Kd.R_far (ok := fun k_ => True ∧ k_ ≠ gb2) (p := ⟨gb2, 1, none⟩) (Kd.R_far (ok := fun k_ => True ∧ k_ ≠ gb2) (p := ⟨gb2, 0, none⟩) (by (with_reducible repeat (first | apply Kd.R_alloc | apply Kd.R_drewN | apply Kd.R_drew)); exact Kd.R_types HOI.out BK2.out (by decide)) (fun _ hk => hk.2) (.bool false)) (fun _ hk => hk.2) (.slice Ac cs.length cc)) (fun _ hk => hk.2) (.slice Ak keys.length ck)) (fun _ hk => hk.2) (.slice Ai kids.length ci)) (fun _ _ => trivial)), bC HB⟩
            · rw [if_neg c5] at HF
              have c5b0 : (ee == 0) = false := beq_eq_false_iff_ne.mpr c5
              have c5b1 : (ee != 0) = true := bne_iff_ne.mpr c5
              clear c5
              obtain ⟨rfl, rfl, rfl, rfl, rfl⟩ : false = r1 ∧ [] = r2 ∧ [] = r3 ∧ [] = r4 ∧ 8 = r5 := by
                have := Option.some.inj HF
                simpa using this
              go_wp2_with (first | ((with_reducible refine gate_callee (f := 19) rfl ?_); refine goesL_ (some 128) rfl rfl Try.func19 (by kernel_rfl) rfl #[.agg #[.bool false, .slice Ac cs.length cc, .slice Ak keys.length ck, .slice Ai kids.length ci]] rfl (by (try simp only [List.map_toArray, List.map_cons, List.map_nil]); first | done | rfl | (simp only [List.length_drop, List.length_take]; rfl)) ?_; refine (node_Encode.calls k false Ac cc cs Ak ck keys Ai ci kids ec ee _ ?e1 ?e2 ?e3 ?e4 ?e5 ?e6 AE.out).mono ?_; (case e1 => exact (Kd.R_reads' (by (with_reducible repeat (first | apply Kd.R_alloc | apply Kd.R_drewN | apply Kd.R_drew)); exact HO.out)).2.2); (case e2 => exact (Kd.R_reads' HO.out).2.1); (case e3 => exact (Kd.R_reads' (by (with_reducible repeat (first | apply Kd.R_alloc | apply Kd.R_drewN | apply Kd.R_drew)); exact HOK.out)).2.2); (case e4 => exact (Kd.R_reads' HOK.out).2.1); (case e5 => exact (Kd.R_reads' (by (with_reducible repeat (first | apply Kd.R_alloc | apply Kd.R_drewN | apply Kd.R_drew)); exact HOI.out)).2.2); (case e6 => exact (Kd.R_reads' HOI.out).2.1); rintro e w21 ⟨v0, rfl, hoc, hb⟩; refine ⟨_, rfl, ?_⟩; have HOE := Aside0.mk (Kd.R_lower hoc (below_size (bC HB))); replace HO := Aside0.mk (Kd.R_below (by (with_reducible repeat (first | apply Kd.R_alloc | apply Kd.R_drewN | apply Kd.R_drew)); exact HO.out) hb); replace HOK := Aside0.mk (Kd.R_below (by (with_reducible repeat (first | apply Kd.R_alloc | apply Kd.R_drewN | apply Kd.R_drew)); exact HOK.out) hb); replace HOI := Aside0.mk (Kd.R_below (by (with_reducible repeat (first | apply Kd.R_alloc | apply Kd.R_drewN | apply Kd.R_drew)); exact HOI.out) hb); replace BK2 := bB BK2 hb; replace BK5 := bB BK5 hb; replace BK73 := bB BK73 hb; replace HB := bW HB hb; clear hb hoc; obtain ⟨Ae, ce, eoe⟩ := Kd.R_slice HOE.out; subst eoe; obtain ⟨hs_0, hs_1, hsf_0, hsf_1⟩ := bf2 (w := w21) BK73; obtain ⟨hi_0, hi_1, hi_2, hi_3, hif_0, hif_1, hif_2, hif_3⟩ := bf4 (w := w21) BK5; obtain ⟨ho_0, ho_1, ho_2, ho_3, hof_0, hof_1, hof_2, hof_3⟩ := bf4 (w := w21) BK2))
              refine bodyPost_ret (results_ct rfl _ _ gb2 36 #[.bool false, .slice none 0 0, .slice none 0 0, .slice none 0 0] (0, 0) _ rfl (bR BK2) Try.underlying36 rfl (by kernel_rfl)) rfl ?_
              exact ⟨_, _, _, rfl, Kd.R_nil _ _ _ _ _, Kd.R_nil _ _ _ _ _, Kd.R_nil _ _ _ _ _, bC HB⟩
          · rw [if_pos rfl] at HF
            obtain ⟨rfl, rfl, rfl, rfl, rfl⟩ : false = r1 ∧ [] = r2 ∧ [] = r3 ∧ [] = r4 ∧ 8 = r5 := by
              have := Option.some.inj HF
              simpa using this
            go_wp2_with (first | ((with_reducible refine gate_callee (f := 19) rfl ?_); refine goesL_ (some 128) rfl rfl Try.func19 (by kernel_rfl) rfl #[.agg #[.bool false, .slice Ac cs.length cc, .slice Ak keys.length ck, .slice Ai kids.length ci]] rfl (by (try simp only [List.map_toArray, List.map_cons, List.map_nil]); first | done | rfl | (simp only [List.length_drop, List.length_take]; rfl)) ?_; refine (node_Encode.calls k false Ac cc cs Ak ck keys Ai ci kids ec ee _ ?e1 ?e2 ?e3 ?e4 ?e5 ?e6 AE.out).mono ?_; (case e1 => exact (Kd.R_reads' (by (with_reducible repeat (first | apply Kd.R_alloc | apply Kd.R_drewN | apply Kd.R_drew)); exact HO.out)).2.2); (case e2 => exact (Kd.R_reads' HO.out).2.1); (case e3 => exact (Kd.R_reads' (by (with_reducible repeat (first | apply Kd.R_alloc | apply Kd.R_drewN | apply Kd.R_drew)); exact HOK.out)).2.2); (case e4 => exact (Kd.R_reads' HOK.out).2.1); (case e5 => exact (Kd.R_reads' (by (with_reducible repeat (first | apply Kd.R_alloc | apply Kd.R_drewN | apply Kd.R_drew)); exact HOI.out)).2.2); (case e6 => exact (Kd.R_reads' HOI.out).2.1); rintro e w21 ⟨v0, rfl, hoc, hb⟩; refine ⟨_, rfl, ?_⟩; have HOE := Aside0.mk (Kd.R_lower hoc (below_size (bC HB))); replace HO := Aside0.mk (Kd.R_below (by (with_reducible repeat (first | apply Kd.R_alloc | apply Kd.R_drewN | apply Kd.R_drew)); exact HO.out) hb); replace HOK := Aside0.mk (Kd.R_below (by (with_reducible repeat (first | apply Kd.R_alloc | apply Kd.R_drewN | apply Kd.R_drew)); exact HOK.out) hb); replace HOI := Aside0.mk (Kd.R_below (by (with_reducible repeat (first | apply Kd.R_alloc | apply Kd.R_drewN | apply Kd.R_drew)); exact HOI.out) hb); replace BK2 := bB BK2 hb; replace BK5 := bB BK5 hb; replace BK73 := bB BK73 hb; replace HB := bW HB hb; clear hb hoc; obtain ⟨Ae, ce, eoe⟩ := Kd.R_slice HOE.out; subst eoe; obtain ⟨hs_0, hs_1, hsf_0, hsf_1⟩ := bf2 (w := w21) BK73; obtain ⟨hi_0, hi_1, hi_2, hi_3, hif_0, hif_1, hif_2, hif_3⟩ := bf4 (w := w21) BK5; obtain ⟨ho_0, ho_1, ho_2, ho_3, hof_0, hof_1, hof_2, hof_3⟩ := bf4 (w := w21) BK2))
            refine bodyPost_ret (results_ct rfl _ _ gb2 36 #[.bool false, .slice none 0 0, .slice none 0 0, .slice none 0 0] (0, 0) _ rfl (bR BK2) Try.underlying36 rfl (by kernel_rfl)) rfl ?_
            exact ⟨_, _, _, rfl, Kd.R_nil _ _ _ _ _, Kd.R_nil _ _ _ _ _, Kd.R_nil _ _ _ _ _, bC HB⟩
    · rw [if_pos rfl] at HF
      obtain ⟨bz, hbz⟩ : ∃ bz, bz = b2 := ⟨_, rfl⟩
      subst hbz
      unfold node_Decode.fin at HF
      obtain ⟨⟨ec, ee⟩, hE, HF⟩ := Option.bind_eq_some_iff.1 HF
      dsimp only at hE HF
      have AE := Aside0.mk hE
      clear hE
      obtain ⟨Ac, cc, eoc⟩ := Kd.R_slice HO.out
      subst eoc
      cases bz
      · rw [if_neg (by decide)] at HF
        by_cases c5 : ee = 0
        · rw [if_pos c5] at HF
          have c5b0 : (ee == 0) = true := beq_iff_eq.mpr c5
          have c5b1 : (ee != 0) = false := bne_eq_false_iff_eq.mpr c5
          clear c5
          obtain ⟨q, hQ, HF⟩ := Option.bind_eq_some_iff.1 HF
          have AQ := Aside0.mk hQ
          clear hQ
          cases q
          · rw [if_neg (by decide)] at HF
            obtain ⟨rfl, rfl, rfl, rfl, rfl⟩ : false = r1 ∧ [] = r2 ∧ [] = r3 ∧ [] = r4 ∧ 8 = r5 := by
              have := Option.some.inj HF
              simpa using this
            go_wp2_with (first | ((with_reducible refine gate_callee (f := 19) rfl ?_); refine goesL_ (some 128) rfl rfl Try.func19 (by kernel_rfl) rfl #[.agg #[.bool true, .slice Ac cs.length cc, .slice none 0 0, .slice none 0 0]] rfl (by (try simp only [List.map_toArray, List.map_cons, List.map_nil]); first | done | rfl | (simp only [List.length_drop, List.length_take]; rfl)) ?_; refine (node_Encode.calls k true Ac cc cs none 0 [] none 0 [] ec ee _ ?e1 ?e2 ?e3 ?e4 ?e5 ?e6 AE.out).mono ?_; (case e1 => exact (Kd.R_reads' (by (with_reducible repeat (first | apply Kd.R_alloc | apply Kd.R_drewN | apply Kd.R_drew)); exact HO.out)).2.2); (case e2 => exact (Kd.R_reads' HO.out).2.1); (case e3 => exact Kd.C_nil _ _); (case e4 => exact Nat.le_refl _); (case e5 => exact Kd.C_nil _ _); (case e6 => exact Nat.le_refl _); rintro e w21 ⟨v0, rfl, hoc, hb⟩; refine ⟨_, rfl, ?_⟩; have HOE := Aside0.mk (Kd.R_lower hoc (below_size (bC HB))); replace HO := Aside0.mk (Kd.R_below (by (with_reducible repeat (first | apply Kd.R_alloc | apply Kd.R_drewN | apply Kd.R_drew)); exact HO.out) hb); replace BK2 := bB BK2 hb; replace BK5 := bB BK5 hb; replace BK25 := bB BK25 hb; replace HB := bW HB hb; clear hb hoc; obtain ⟨Ae, ce, eoe⟩ := Kd.R_slice HOE.out; subst eoe; obtain ⟨hs_0, hs_1, hsf_0, hsf_1⟩ := bf2 (w := w21) BK25; obtain ⟨hi_0, hi_1, hi_2, hi_3, hif_0, hif_1, hif_2, hif_3⟩ := bf4 (w := w21) BK5; obtain ⟨ho_0, ho_1, ho_2, ho_3, hof_0, hof_1, hof_2, hof_3⟩ := bf4 (w := w21) BK2) | (go_at_call 42; (with_reducible refine (bytes_Equal.calls _ _ ec _ _ l0 _ _ ?q1 ?q2 ?q3 ?q4 AQ.out).mono ?_); (case q1 => exact (Kd.R_reads' (by (with_reducible repeat (first | apply Kd.R_alloc | apply Kd.R_drewN | apply Kd.R_drew)); exact HOE.out)).2.2); (case q2 => exact (Kd.R_reads' HOE.out).2.1); (case q3 => exact Kd.C_below HR0.out (bC HB)); (case q4 => exact HC0.out); rintro e w' ⟨rfl, ⟨nd, rfl⟩⟩; (try clear hk)))
            refine bodyPost_ret (results_ct rfl _ _ gb2 36 #[.bool false, .slice none 0 0, .slice none 0 0, .slice none 0 0] (0, 0) _ rfl (bR BK2) Try.underlying36 rfl (by kernel_rfl)) rfl ?_
            exact ⟨_, _, _, rfl, Kd.R_nil _ _ _ _ _, Kd.R_nil _ _ _ _ _, Kd.R_nil _ _ _ _ _, bC HB⟩
          · rw [if_pos rfl] at HF
            obtain ⟨rfl, rfl, rfl, rfl, rfl⟩ : true = r1 ∧ cs = r2 ∧ [] = r3 ∧ [] = r4 ∧ 0 = r5 := by
              have := Option.some.inj HF
              simpa using this
            go_wp2_with (first | ((with_reducible refine gate_callee (f := 19) rfl ?_); refine goesL_ (some 128) rfl rfl Try.func19 (by kernel_rfl) rfl #[.agg #[.bool true, .slice Ac cs.length cc, .slice none 0 0, .slice none 0 0]] rfl (by (try simp only [List.map_toArray, List.map_cons, List.map_nil]); first | done | rfl | (simp only [List.length_drop, List.length_take]; rfl)) ?_; refine (node_Encode.calls k true Ac cc cs none 0 [] none 0 [] ec ee _ ?e1 ?e2 ?e3 ?e4 ?e5 ?e6 AE.out).mono ?_; (case e1 => exact (Kd.R_reads' (by (with_reducible repeat (first | apply Kd.R_alloc | apply Kd.R_drewN | apply Kd.R_drew)); exact HO.out)).2.2); (case e2 => exact (Kd.R_reads' HO.out).2.1); (case e3 => exact Kd.C_nil _ _); (case e4 => exact Nat.le_refl _); (case e5 => exact Kd.C_nil _ _); (case e6 => exact Nat.le_refl _); rintro e w21 ⟨v0, rfl, hoc, hb⟩; refine ⟨_, rfl, ?_⟩; have HOE := Aside0.mk (Kd.R_lower hoc (below_size (bC HB))); replace HO := Aside0.mk (Kd.R_below (by (with_reducible repeat (first | apply Kd.R_alloc | apply Kd.R_drewN | apply Kd.R_drew)); exact HO.out) hb); replace BK2 := bB BK2 hb; replace BK5 := bB BK5 hb; replace BK25 := bB BK25 hb; replace HB := bW HB hb; clear hb hoc; obtain ⟨Ae, ce, eoe⟩ := Kd.R_slice HOE.out; subst eoe; obtain ⟨hs_0, hs_1, hsf_0, hsf_1⟩ := bf2 (w := w21) BK25; obtain ⟨hi_0, hi_1, hi_2, hi_3, hif_0, hif_1, hif_2, hif_3⟩ := bf4 (w := w21) BK5; obtain ⟨ho_0, ho_1, ho_2, ho_3, hof_0, hof_1, hof_2, hof_3⟩ := bf4 (w := w21) BK2) | (go_at_call 42; (with_reducible refine (bytes_Equal.calls _ _ ec _ _ l0 _ _ ?q1 ?q2 ?q3 ?q4 AQ.out).mono ?_); (case q1 => exact (Kd.R_reads' (by (with_reducible repeat (first | apply Kd.R_alloc | apply Kd.R_drewN | apply Kd.R_drew)); exact HOE.out)).2.2); (case q2 => exact (Kd.R_reads' HOE.out).2.1); (case q3 => exact Kd.C_below HR0.out (bC HB)); (case q4 => exact HC0.out); rintro e w' ⟨rfl, ⟨nd, rfl⟩⟩; (try clear hk)))
            refine bodyPost_ret (results_ct rfl _ _ gb2 36 #[.bool true, .slice Ac cs.length cc, .slice none 0 0, .slice none 0 0] (0, 0) _ rfl (bR BK2) Try.underlying36 rfl (by kernel_rfl)) rfl ?_
            exact ⟨_, _, _, rfl, (by (with_reducible repeat (first | apply Kd.R_alloc | apply Kd.R_drewN | apply Kd.R_drew)); exact Kd.R_mono (Kd.R_far (ok := fun k_ => True ∧ k_ ≠ gb2) (p := ⟨gb2, 3, none⟩) (Kd.R_far (ok := fun k_ => True ∧ k_ ≠ gb2) (p := ⟨gb2, 2, none⟩) (Kd.R_far (ok := fun k_ => True ∧ k_ ≠ gb2) (p := ⟨gb2, 1, none⟩) (Kd.R_far (ok := fun k_ => True ∧ k_ ≠ gb2) (p := ⟨gb2, 0, none⟩) (by (with_reducible repeat (first | apply Kd.R_alloc | apply Kd.R_drewN | apply Kd.R_drew)); exact Kd.R_types HO.out BK2.out (by decide)) (fun _ hk => hk.2) (.bool true)) (fun _ hk => hk.2) (.slice Ac cs.length cc)) (fun _ hk => hk.2) (.slice none 0 0)) (fun _ hk => hk.2) (.slice none 0 0)) (fun _ _ => trivial)), Kd.R_nil _ _ _ _ _, Kd.R_nil _ _ _ _ _, bC HB⟩
        · rw [if_neg c5] at HF
          have c5b0 : (ee == 0) = false := beq_eq_false_iff_ne.mpr c5
          have c5b1 : (ee != 0) = true := bne_iff_ne.mpr c5
          clear c5
          obtain ⟨rfl, rfl, rfl, rfl, rfl⟩ : false = r1 ∧ [] = r2 ∧ [] = r3 ∧ [] = r4 ∧ 8 = r5 := by
            have := Option.some.inj HF
            simpa using this
          go_wp2_with (first | ((with_reducible refine gate_callee (f := 19) rfl ?_); refine goesL_ (some 128) rfl rfl Try.func19 (by kernel_rfl) rfl #[.agg #[.bool true, .slice Ac cs.length cc, .slice none 0 0, .slice none 0 0]] rfl (by (try simp only [List.map_toArray, List.map_cons, List.map_nil]); first | done | rfl | (simp only [List.length_drop, List.length_take]; rfl)) ?_; refine (node_Encode.calls k true Ac cc cs none 0 [] none 0 [] ec ee _ ?e1 ?e2 ?e3 ?e4 ?e5 ?e6 AE.out).mono ?_; (case e1 => exact (Kd.R_reads' (by (with_reducible repeat (first | apply Kd.R_alloc | apply Kd.R_drewN | apply Kd.R_drew)); exact HO.out)).2.2); (case e2 => exact (Kd.R_reads' HO.out).2.1); (case e3 => exact Kd.C_nil _ _); (case e4 => exact Nat.le_refl _); (case e5 => exact Kd.C_nil _ _); (case e6 => exact Nat.le_refl _); rintro e w21 ⟨v0, rfl, hoc, hb⟩; refine ⟨_, rfl, ?_⟩; have HOE := Aside0.mk (Kd.R_lower hoc (below_size (bC HB))); replace HO := Aside0.mk (Kd.R_below (by (with_reducible repeat (first | apply Kd.R_alloc | apply Kd.R_drewN | apply Kd.R_drew)); exact HO.out) hb); replace BK2 := bB BK2 hb; replace BK5 := bB BK5 hb; replace BK25 := bB BK25 hb; replace HB := bW HB hb; clear hb hoc; obtain ⟨Ae, ce, eoe⟩ := Kd.R_slice HOE.out; subst eoe; obtain ⟨hs_0, hs_1, hsf_0, hsf_1⟩ := bf2 (w := w21) BK25; obtain ⟨hi_0, hi_1, hi_2, hi_3, hif_0, hif_1, hif_2, hif_3⟩ := bf4 (w := w21) BK5; obtain ⟨ho_0, ho_1, ho_2, ho_3, hof_0, hof_1, hof_2, hof_3⟩ := bf4 (w := w21) BK2))
          refine bodyPost_ret (results_ct rfl _ _ gb2 36 #[.bool false, .slice none 0 0, .slice none 0 0, .slice none 0 0] (0, 0) _ rfl (bR BK2) Try.underlying36 rfl (by kernel_rfl)) rfl ?_
          exact ⟨_, _, _, rfl, Kd.R_nil _ _ _ _ _, Kd.R_nil _ _ _ _ _, Kd.R_nil _ _ _ _ _, bC HB⟩
      · rw [if_pos rfl] at HF
        obtain ⟨rfl, rfl, rfl, rfl, rfl⟩ : false = r1 ∧ [] = r2 ∧ [] = r3 ∧ [] = r4 ∧ 8 = r5 := by
          have := Option.some.inj HF
          simpa using this
        go_wp2_with (first | ((with_reducible refine gate_callee (f := 19) rfl ?_); refine goesL_ (some 128) rfl rfl Try.func19 (by kernel_rfl) rfl #[.agg #[.bool true, .slice Ac cs.length cc, .slice none 0 0, .slice none 0 0]] rfl (by (try simp only [List.map_toArray, List.map_cons, List.map_nil]); first | done | rfl | (simp only [List.length_drop, List.length_take]; rfl)) ?_; refine (node_Encode.calls k true Ac cc cs none 0 [] none 0 [] ec ee _ ?e1 ?e2 ?e3 ?e4 ?e5 ?e6 AE.out).mono ?_; (case e1 => exact (Kd.R_reads' (by (with_reducible repeat (first | apply Kd.R_alloc | apply Kd.R_drewN | apply Kd.R_drew)); exact HO.out)).2.2); (case e2 => exact (Kd.R_reads' HO.out).2.1); (case e3 => exact Kd.C_nil _ _); (case e4 => exact Nat.le_refl _); (case e5 => exact Kd.C_nil _ _); (case e6 => exact Nat.le_refl _); rintro e w21 ⟨v0, rfl, hoc, hb⟩; refine ⟨_, rfl, ?_⟩; have HOE := Aside0.mk (Kd.R_lower hoc (below_size (bC HB))); replace HO := Aside0.mk (Kd.R_below (by (with_reducible repeat (first | apply Kd.R_alloc | apply Kd.R_drewN | apply Kd.R_drew)); exact HO.out) hb); replace BK2 := bB BK2 hb; replace BK5 := bB BK5 hb; replace BK25 := bB BK25 hb; replace HB := bW HB hb; clear hb hoc; obtain ⟨Ae, ce, eoe⟩ := Kd.R_slice HOE.out; subst eoe; obtain ⟨hs_0, hs_1, hsf_0, hsf_1⟩ := bf2 (w := w21) BK25; obtain ⟨hi_0, hi_1, hi_2, hi_3, hif_0, hif_1, hif_2, hif_3⟩ := bf4 (w := w21) BK5; obtain ⟨ho_0, ho_1, ho_2, ho_3, hof_0, hof_1, hof_2, hof_3⟩ := bf4 (w := w21) BK2))
        refine bodyPost_ret (results_ct rfl _ _ gb2 36 #[.bool false, .slice none 0 0, .slice none 0 0, .slice none 0 0] (0, 0) _ rfl (bR BK2) Try.underlying36 rfl (by kernel_rfl)) rfl ?_
        exact ⟨_, _, _, rfl, Kd.R_nil _ _ _ _ _, Kd.R_nil _ _ _ _ _, Kd.R_nil _ _ _ _ _, bC HB⟩
end Go.Proofs.Ytmmjpieafbjggaa.P
end
