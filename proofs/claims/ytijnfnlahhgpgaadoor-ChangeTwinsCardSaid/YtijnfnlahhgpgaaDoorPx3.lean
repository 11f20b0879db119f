/- Functions of the program as Lean functions, and that each call answers as its function does. No condition. (Lines written by a generator of this session.) -/
import Derived.Test.YtijnfnlahhgpgaaDoorPx0
import Derived.Test.YtijnfnlahhgpgaaDoorPx2
namespace Go.Proofs.YtijnfnlahhgpgaaDoor.P
open Go.RowKit Go.Proofs.YtijnfnlahhgpgaaDoorW.PrintWords Go.Proofs.YtijnfnlahhgpgaaDoorW.PrintLast Go.Proofs.YtijnfnlahhgpgaaDoorW.PrintMore
attribute [local go_sem] max2_int min2_int max_two min_two max_three min_three max_four min_four   -- for this text's walks alone
attribute [local go_sem] x_str_gtr x_str_leq x_str_geq  Instr.field asAgg
set_option linter.unusedVariables false
set_option linter.unusedSimpArgs false

/-! ### num_GetText: function 35 -/
def num_GetText.j0 : Nat → List Int → Int → Int → Bool → Option (ByteArray × Int × Int)
 | 0, _, _, _, _ => none
 | k + 1, x0, x5, x6, x18 => if x18 = true then (some ((⟨#[]⟩ : ByteArray), 0, 1)) else (if x5 > (wrap64 ((x0.length : Int) - x6)) then (some ((⟨#[]⟩ : ByteArray), 0, 2)) else (if 0 ≤ x6 then (if x6 ≤ (wrap64 (x6 + x5)) then (if (wrap64 (x6 + x5)) ≤ (x0.length : Int) then (some (strOfNums ((x0.take ((wrap64 (x6 + x5)) : Int).toNat).drop (x6 : Int).toNat), wrap64 (x6 + x5), 0)) else (none)) else (none)) else (none)))
def num_GetText.f (k : Nat) (l0 : List Int) : Option (ByteArray × Int × Int) := (num_Get.f k l0).bind fun bt140 => (if bt140.2.2 = 0 then (if bt140.1 < 0 then (num_GetText.j0 k l0 bt140.1 bt140.2.1 true) else (num_GetText.j0 k l0 bt140.1 bt140.2.1 (decide (bt140.1 > 65536)))) else (some ((⟨#[]⟩ : ByteArray), 0, bt140.2.2)))
theorem num_GetText.mono_l : ∀ k, (∀ y0 y1 y2 y3, LeO (num_GetText.j0 k y0 y1 y2 y3) (num_GetText.j0 (k + 1) y0 y1 y2 y3))
 | 0 => fun _ _ _ _ r h => by simp [num_GetText.j0] at h
 | k + 1 => by
  have ih0 := num_GetText.mono_l k
  ·intro y0 y1 y2 y3
   unfold num_GetText.j0
   repeat' first
   | (with_reducible exact ih0 _ _ _ _)
   | (with_reducible exact num_Get.mono _ _)
   | (with_reducible exact LeO.refl _)
   | (with_reducible exact LeO.none _)
   | (with_reducible refine LeO.ite ?_ ?_)
   | (with_reducible refine LeO.bind ?_ (fun _ => ?_))
   | exact ih0 _ _ _ _
   | exact num_Get.mono _ _
   | exact LeO.none _
   | refine LeO.ite ?_ ?_
   | refine LeO.bind ?_ (fun _ => ?_)
theorem num_GetText.mono : ∀ a0 k, LeO (num_GetText.f k a0) (num_GetText.f (k + 1) a0) := by
 intro a0 k
 have ih0 := num_GetText.mono_l k
 unfold num_GetText.f
 repeat' first
   | (with_reducible exact ih0 _ _ _ _)
   | (with_reducible exact num_Get.mono _ _)
   | (with_reducible exact LeO.refl _)
   | (with_reducible exact LeO.none _)
   | (with_reducible refine LeO.ite ?_ ?_)
   | (with_reducible refine LeO.bind ?_ (fun _ => ?_))
   | exact ih0 _ _ _ _
   | exact num_Get.mono _ _
   | exact LeO.none _
   | refine LeO.ite ?_ ?_
   | refine LeO.bind ?_ (fun _ => ?_)
set_option maxHeartbeats 8000000 in
set_option maxRecDepth 100000 in
theorem num_GetText.calls (k : Nat) (A0 : Option Addr) (c0 : Nat) (l0 : List Int) (r1 : ByteArray) (r2 : Int) (r3 : Int) (w : World) (hr0 : Kd.C (Kd.int .u8) w A0 l0.length l0) (hc0 : l0.length ≤ c0) (h : num_GetText.f k l0 = some (r1, r2, r3)) :
  Calls Tryd.prog 35 #[.slice A0 l0.length c0] w fun e w' => e = .returned (.tuple #[.string r1, .int .i64 r2, .int .i64 r3]) ∧ Drawn0 w w' := by
 have HR0 := Aside0.mk hr0
 have HC0 := Aside0.mk hc0
 clear hr0 hc0
 have H : ((num_Get.f k l0).bind fun bt140 => (if bt140.2.2 = 0 then (if bt140.1 < 0 then (num_GetText.j0 k l0 bt140.1 bt140.2.1 true) else (num_GetText.j0 k l0 bt140.1 bt140.2.1 (decide (bt140.1 > 65536)))) else (some ((⟨#[]⟩ : ByteArray), 0, bt140.2.2)))) = some (r1, r2, r3) := h
 clear h
 replace H := Option.bind_eq_some_iff.mp H
 obtain ⟨⟨t140, t141, t142⟩, A20, H⟩ := H
 replace H : (if t142 = 0 then (if t140 < 0 then (num_GetText.j0 k l0 t140 t141 true) else (num_GetText.j0 k l0 t140 t141 (decide (t140 > 65536)))) else (some ((⟨#[]⟩ : ByteArray), 0, t142))) = some (r1, r2, r3) := H
 have A2 := Aside0.mk A20
 clear A20
 by_cases c3 : t142 = 0
 ·rw [if_pos c3] at H
  have c3b0 : (t142 == 0) = true := beq_iff_eq.mpr c3
  have c3b1 : (t142 != 0) = false := bne_eq_false_iff_eq.mpr c3
  clear c3
  have HC4 := Aside0.mk H
  clear H
  go_enter Tryd.func35, Tryd.ntmps35
  go_upto_region 4 with (first | ((with_reducible refine gate_callee (f := 29) rfl ?_); refine goesL_ (some 10) rfl rfl Tryd.func29 (by kernel_rfl) rfl #[.slice A0 l0.length c0] rfl (by (try simp only [List.map_toArray, List.map_cons, List.map_nil]); first | done | rfl | (simp only [List.length_drop, List.length_take]; rfl)) ?_; (with_reducible refine (num_Get.calls k _ _ l0 t140 t141 t142 _ ?side1 ?side2 A2.out).mono ?_); (case side1 => repeat (first | exact HR0.out | (with_reducible refine Kd.C_alloc ?_ _) | (with_reducible refine Kd.C_drewN ?_ _) | (with_reducible refine Kd.C_drew ?_))); (case side2 => exact HC0.out); rintro e w' ⟨rfl, ⟨nd, rfl⟩⟩; refine ⟨_, rfl, ?_⟩))
  (try simp only [Act.put, List.setIfInBounds_toArray, List.set_cons_zero, List.set_cons_succ])
  go_cut [18] (fun v18 wc => ∃ (kq : Nat) (x18_3 : Bool), v18 = .bool x18_3 ∧ Aside0 (num_GetText.j0 kq l0 t140 t141 x18_3 = some (r1, r2, r3)) ∧ Aside0 (kq ≤ k) ∧ Drawn0 w wc)
  case first =>
   have H := HC4.out
   clear HC4
   by_cases c5 : t140 < 0
   ·rw [if_pos c5] at H
    have c5b0 : decide (t140 < 0) = true := decide_eq_true c5
    clear c5
    (first | rw [c5b0] | (simp only [i64_w, i32_w]; rw [c5b0]) | skip)
    have H' := Aside0.mk H
    clear H
    go_wp2
    go_meet
    case rel => exact ⟨_, (true), (by first | rfl | (simp; done) | (simp [*]; done)), H', ⟨by first | omega | exact Nat.le_refl _⟩, by repeat (first | exact Drawn0.refl _ | apply Drawn0.step)⟩
   ·rw [if_neg c5] at H
    have c5b0 : decide (t140 < 0) = false := decide_eq_false c5
    clear c5
    (first | rw [c5b0] | (simp only [i64_w, i32_w]; rw [c5b0]) | skip)
    have H' := Aside0.mk H
    clear H
    go_wp2
    go_meet
    case rel => exact ⟨_, (decide (t140 > 65536)), (by first | rfl | (simp; done) | (simp [*]; done)), H', ⟨by first | omega | exact Nat.le_refl _⟩, by repeat (first | exact Drawn0.refl _ | apply Drawn0.step)⟩
  case rest =>
   clear HC4
   try clear c2
   try clear p2
   try clear c3
   try clear c3b0
   try clear c3b1
   try clear c5
   try clear c5b0
   obtain ⟨kq, x18_3, rfl, HA, HJ3, ⟨mc3, rfl⟩⟩ := hcut
   cases kq with
   | zero => exact absurd HA.out (by simp [num_GetText.j0])
   | succ kj3 =>
    have H := HA.out
    clear HA
    simp only [num_GetText.j0] at H
    by_cases c6 : x18_3 = true
    ·subst c6
     have H1 : (some ((⟨#[]⟩ : ByteArray), 0, 1)) = some (r1, r2, r3) := by rw [if_pos rfl] at H; exact H
     clear H
     have H := H1
     clear H1
     simp only [Option.some.injEq, Prod.mk.injEq] at H
     obtain ⟨rfl, rfl, rfl⟩ := H
     go_wp2
     go_ret3
     exact ⟨by first | rfl | (simp; done) | (simp [*]; done), by repeat (first | exact Drawn0.refl _ | apply Drawn0.step)⟩
    ·replace c6 := Bool.eq_false_iff.mpr c6
     subst c6
     have H1 : (if t140 > (wrap64 ((l0.length : Int) - t141)) then (some ((⟨#[]⟩ : ByteArray), 0, 2)) else (if 0 ≤ t141 then (if t141 ≤ (wrap64 (t141 + t140)) then (if (wrap64 (t141 + t140)) ≤ (l0.length : Int) then (some (strOfNums ((l0.take ((wrap64 (t141 + t140)) : Int).toNat).drop (t141 : Int).toNat), wrap64 (t141 + t140), 0)) else (none)) else (none)) else (none))) = some (r1, r2, r3) := by rw [if_neg (show ¬ (false = true) by decide)] at H; exact H
     clear H
     have H := H1
     clear H1
     by_cases c7 : t140 > (wrap64 ((l0.length : Int) - t141))
     ·rw [if_pos c7] at H
      have c7b0 : decide ((wrap64 ((l0.length : Int) - t141)) < t140) = true := decide_eq_true c7
      clear c7
      simp only [Option.some.injEq, Prod.mk.injEq] at H
      obtain ⟨rfl, rfl, rfl⟩ := H
      go_wp2
      go_ret3
      exact ⟨by first | rfl | (simp; done) | (simp [*]; done), by repeat (first | exact Drawn0.refl _ | apply Drawn0.step)⟩
     ·rw [if_neg c7] at H
      have c7b0 : decide ((wrap64 ((l0.length : Int) - t141)) < t140) = false := decide_eq_false c7
      clear c7
      by_cases c8 : 0 ≤ t141
      ·rw [if_pos c8] at H
       have c8b0 := eq_true c8
       have c8b1 : decide (0 ≤ t141) = true := decide_eq_true c8
       clear c8
       by_cases c9 : t141 ≤ (wrap64 (t141 + t140))
       ·rw [if_pos c9] at H
        have c9b0 := eq_true c9
        have c9b1 : decide (t141 ≤ (wrap64 (t141 + t140))) = true := decide_eq_true c9
        by_cases c10 : (wrap64 (t141 + t140)) ≤ (l0.length : Int)
        ·rw [if_pos c10] at H
         have c10b0 := eq_true c10
         have c10b1 : decide ((wrap64 (t141 + t140)) ≤ (l0.length : Int)) = true := decide_eq_true c10
         obtain ⟨y143, hy143⟩ : ∃ y_ : List Int, y_ = ((l0.take ((wrap64 (t141 + t140)) : Int).toNat).drop (t141 : Int).toNat) := ⟨_, rfl⟩
         replace H : (some (strOfNums y143, wrap64 (t141 + t140), 0)) = some (r1, r2, r3) := by first | (rw [hy143]; with_reducible exact H) | (have H2_ := (Option.bind_some _ _).symm.trans H; rw [hy143]; with_reducible exact H2_) | (have H2_ := (Option.bind_some _ _).symm.trans H; with_reducible exact H2_) | with_reducible exact H | (rw [hy143]; exact H) | exact H
         have Ny143 := Aside0.mk hy143
         clear hy143
         simp only [Option.some.injEq, Prod.mk.injEq] at H
         obtain ⟨rfl, rfl, rfl⟩ := H
         have q11 : ((wrap64 (t141 + t140)) : Int) ≤ ((l0.length : Int) : Int) := of_decide_eq_true (by first | (with_reducible assumption) | assumption)
         obtain ⟨i011, hi011, _, hsz11, _⟩ := info_parts info5
         have hroom11 : l0.length ≤ c0 := HC0.out
         have hC11 : Kd.C (Kd.int .u8) _ A0 l0.length l0 := HR0.out
         have ql11 : (t141 : Int) ≤ ((wrap64 (t141 + t140)) : Int) := of_decide_eq_true (by first | (with_reducible assumption) | assumption)
         have q011 : (0 : Int) ≤ (t141 : Int) := of_decide_eq_true (by first | (with_reducible assumption) | assumption)
         have hcut11 := cut_mid (P := Tryd.prog) 26 5 .i64 .i64 Tryd.underlying26 hi011 1 hsz11 A0 l0.length c0 t141 (wrap64 (t141 + t140)) q011 ql11 q11 hroom11
         have hr11 := Kd.C_mid (lo := (t141 : Int).toNat) (hi := ((wrap64 (t141 + t140)) : Int).toNat) (c := c0) hC11 (by omega) (by omega) hroom11
         obtain ⟨A11, hA11⟩ : ∃ A1, A1 = (if c0 = (t141 : Int).toNat then A0 else (A0 : Option Addr).map (·.add ((t141 : Int).toNat * 1))) := ⟨_, rfl⟩
         obtain ⟨c11, hc11⟩ : ∃ c1, c1 = c0 - (t141 : Int).toNat := ⟨_, rfl⟩
         have hy11 : y143.length = ((wrap64 (t141 + t140)) : Int).toNat - (t141 : Int).toNat := (by rw [Ny143.out, List.length_drop, List.length_take] <;> omega)
         rw [show ((l0).take ((wrap64 (t141 + t140)) : Int).toNat).drop (t141 : Int).toNat = y143 from Ny143.out.symm] at hr11
         replace hr11 : Kd.C (Kd.int .u8) _ A11 y143.length y143 := (by rw [hA11]; exact hr11)
         rw [← hy11, ← hA11, ← hc11] at hcut11
         have HR146 := Aside0.mk hr11
         have HC146 := Aside0.mk (show y143.length ≤ c11 from by rw [hy11, hc11]; exact Nat.sub_le_sub_right (Nat.le_trans (by omega) hroom11) _)
         clear hr11 hC11 hroom11 hi011 hsz11 hc11
         have KY11 := Aside0.mk hy11
         have KA11 := Aside0.mk hA11
         clear hy11 hA11
         replace q11 := eq_true q11
         have hcv12 := Kd.x_C_string (P := Tryd.prog) (A := A11) (c := c11) Tryd.underlying26 Tryd.underlying5 Tryd.underlying9 HR146.out
         go_wp2
         go_ret3
         exact ⟨by first | rfl | (simp; done) | (simp [*]; done), by repeat (first | exact Drawn0.refl _ | apply Drawn0.step)⟩
        ·rw [if_neg c10] at H
         exact absurd H (by simp)
       ·rw [if_neg c9] at H
        exact absurd H (by simp)
      ·rw [if_neg c8] at H
       exact absurd H (by simp)
 ·rw [if_neg c3] at H
  have c3b0 : (t142 == 0) = false := beq_eq_false_iff_ne.mpr c3
  have c3b1 : (t142 != 0) = true := bne_iff_ne.mpr c3
  simp only [Option.some.injEq, Prod.mk.injEq] at H
  obtain ⟨rfl, rfl, rfl⟩ := H
  go_enter Tryd.func35, Tryd.ntmps35
  go_wp2_with (first | ((with_reducible refine gate_callee (f := 29) rfl ?_); refine goesL_ (some 10) rfl rfl Tryd.func29 (by kernel_rfl) rfl #[.slice A0 l0.length c0] rfl (by (try simp only [List.map_toArray, List.map_cons, List.map_nil]); first | done | rfl | (simp only [List.length_drop, List.length_take]; rfl)) ?_; (with_reducible refine (num_Get.calls k _ _ l0 t140 t141 t142 _ ?side1 ?side2 A2.out).mono ?_); (case side1 => repeat (first | exact HR0.out | (with_reducible refine Kd.C_alloc ?_ _) | (with_reducible refine Kd.C_drewN ?_ _) | (with_reducible refine Kd.C_drew ?_))); (case side2 => exact HC0.out); rintro e w' ⟨rfl, ⟨nd, rfl⟩⟩; refine ⟨_, rfl, ?_⟩))
  go_ret3
  exact ⟨by first | rfl | (simp; done) | (simp [*]; done), by repeat (first | exact Drawn0.refl _ | apply Drawn0.step)⟩

end Go.Proofs.YtijnfnlahhgpgaaDoor.P
