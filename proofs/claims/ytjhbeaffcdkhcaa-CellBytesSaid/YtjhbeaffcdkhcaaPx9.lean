/- Functions of the program as Lean functions, and that each call answers as its function does. No condition. (Lines written by a generator of this session.) -/
import Derived.Test.YtjhbeaffcdkhcaaPx0
import Derived.Test.YtjhbeaffcdkhcaaPx3
import Derived.Test.YtjhbeaffcdkhcaaPx4
import Derived.Test.YtjhbeaffcdkhcaaPx5
import Derived.Test.YtjhbeaffcdkhcaaPx6
import Derived.Test.YtjhbeaffcdkhcaaPx8
namespace Go.Proofs.Ytjhbeaffcdkhcaa.P
open Go.RowKit Go.Proofs.YtjhbeaffcdkhcaaW.PrintWords Go.Proofs.YtjhbeaffcdkhcaaW.PrintLast Go.Proofs.YtjhbeaffcdkhcaaW.PrintMore
attribute [local go_sem] max2_int min2_int max_two min_two max_three min_three max_four min_four   -- for this text's walks alone
attribute [local go_sem] x_str_gtr x_str_leq x_str_geq ext_bits ext_frombits ext_neg x_store_float Instr.field asAgg
set_option linter.unusedVariables false
set_option linter.unusedSimpArgs false

/-! ### engrosslaw10_CellBytes: function 4 -/
def engrosslaw10_CellBytes.j0 : Nat → List Int → List Int → Bool → ByteArray → Int → Nat → ByteArray → Int → Int → Nat → ByteArray → ByteArray → Int → Nat → ByteArray → Int → Int → Nat → ByteArray → Option (Bool)
 | 0, _, _, _, _, _, _, _, _, _, _, _, _, _, _, _, _, _, _, _ => none
 | k + 1, x2, x10, x71, x610000, x610001, x610002, x610003, x610004, x610005, x610006, x610007, x611000, x611001, x611002, x611003, x611004, x611005, x611006, x611007 => if x71 = true then (none) else ((engrossref10_May.f x611000 x611001 x611002 x611003 x611004 x611005 x611006 x611007).bind fun t682 => (if t682 = true then ((engrosslaw10_Of.f x611000 x611001 x611002 x611003 x611004 x611005 x611006 x611007).bind fun bt683 => ((cell_Put.f k ([] : List Int) bt683.1 bt683.2.1 bt683.2.2.1 bt683.2.2.2.1 bt683.2.2.2.2.1 bt683.2.2.2.2.2.1 bt683.2.2.2.2.2.2.1 bt683.2.2.2.2.2.2.2).bind fun t691 => (if 0 ≤ (x2.length : Int) then (if (x2.length : Int) ≤ (x10.length : Int) then ((engrossref10_Eq.f x610000 x610001 x610002 x610003 x610004 x610005 x610006 x610007 x611000 x611001 x611002 x611003 x611004 x611005 x611006 x611007).bind fun t698 => (some (((strOfNums t691).toList == (strOfNums (x10.drop ((x2.length : Int) : Int).toNat)).toList) == t698))) else (none)) else (none)))) else (some true)))
def engrosslaw10_CellBytes.f (k : Nat) (a0_0 : ByteArray) (a0_1 : Int) (a0_2 : Nat) (a0_3 : ByteArray) (a0_4 : Int) (a0_5 : Int) (a0_6 : Nat) (a0_7 : ByteArray) (a1_0 : ByteArray) (a1_1 : Int) (a1_2 : Nat) (a1_3 : ByteArray) (a1_4 : Int) (a1_5 : Int) (a1_6 : Nat) (a1_7 : ByteArray) (l2 : List Int) (l3 : List Int) : Option (Bool) := (engrosslaw10_begun.f k).bind fun t611 => (if t611 = true then ((engrosslaw10_Cut.f a0_0 a0_1 a0_2 a0_3 a0_4 a0_5 a0_6 a0_7).bind fun bt612 => ((engrosslaw10_Cut.f a1_0 a1_1 a1_2 a1_3 a1_4 a1_5 a1_6 a1_7).bind fun bt620 => ((engrosslaw1_Short.f l2 10).bind fun t628 => ((engrosslaw1_Short.f l3 10).bind fun t631 => ((engrossref10_May.f bt612.1 bt612.2.1 bt612.2.2.1 bt612.2.2.2.1 bt612.2.2.2.2.1 bt612.2.2.2.2.2.1 bt612.2.2.2.2.2.2.1 bt612.2.2.2.2.2.2.2).bind fun t634 => (if t634 = true then (if ([] : List Int).length + t628.length < 140737488355328 then ((engrosslaw10_Of.f bt612.1 bt612.2.1 bt612.2.2.1 bt612.2.2.2.1 bt612.2.2.2.2.1 bt612.2.2.2.2.2.1 bt612.2.2.2.2.2.2.1 bt612.2.2.2.2.2.2.2).bind fun bt638 => ((cell_Put.f k (([] : List Int) ++ t628) bt638.1 bt638.2.1 bt638.2.2.1 bt638.2.2.2.1 bt638.2.2.2.2.1 bt638.2.2.2.2.2.1 bt638.2.2.2.2.2.2.1 bt638.2.2.2.2.2.2.2).bind fun t646 => ((engrossref10_Bytes.f k bt612.1 bt612.2.1 bt612.2.2.1 bt612.2.2.2.1 bt612.2.2.2.2.1 bt612.2.2.2.2.2.1 bt612.2.2.2.2.2.2.1 bt612.2.2.2.2.2.2.2).bind fun t649 => (if (strOfNums t628).size + (strOfNums t649).size ≤ 9223372036854775807 then (if (strOfNums t646).toList = ((strOfNums t628) ++ (strOfNums t649)).toList then (if 0 ≤ (t628.length : Int) then (if (t628.length : Int) ≤ (t646.length : Int) then ((some (t646.drop ((t628.length : Int) : Int).toNat : List Int)).bind fun y652 => (if ([] : List Int).length + y652.length < 140737488355328 then ((some (([] : List Int) ++ y652 : List Int)).bind fun y656 => (if y656.length + t631.length < 140737488355328 then ((cell_Get.f k (y656 ++ t631)).bind fun bt662 => (if bt662.2.2.2.2.2.2.2.2.2 = 0 then (if bt662.2.2.2.2.2.2.2.2.1 = (wrap64 ((t646.length : Int) - (t628.length : Int))) then ((engrosslaw10_Back.f bt662.1 bt662.2.1 bt662.2.2.1 bt662.2.2.2.1 bt662.2.2.2.2.1 bt662.2.2.2.2.2.1 bt662.2.2.2.2.2.2.1 bt662.2.2.2.2.2.2.2.1).bind fun bt673 => ((engrossref10_Eq.f bt673.1 bt673.2.1 bt673.2.2.1 bt673.2.2.2.1 bt673.2.2.2.2.1 bt673.2.2.2.2.2.1 bt673.2.2.2.2.2.2.1 bt673.2.2.2.2.2.2.2 bt612.1 bt612.2.1 bt612.2.2.1 bt612.2.2.2.1 bt612.2.2.2.2.1 bt612.2.2.2.2.2.1 bt612.2.2.2.2.2.2.1 bt612.2.2.2.2.2.2.2).bind fun t681 => (engrosslaw10_CellBytes.j0 k t628 t646 (!t681) bt612.1 bt612.2.1 bt612.2.2.1 bt612.2.2.2.1 bt612.2.2.2.2.1 bt612.2.2.2.2.2.1 bt612.2.2.2.2.2.2.1 bt612.2.2.2.2.2.2.2 bt620.1 bt620.2.1 bt620.2.2.1 bt620.2.2.2.1 bt620.2.2.2.2.1 bt620.2.2.2.2.2.1 bt620.2.2.2.2.2.2.1 bt620.2.2.2.2.2.2.2))) else (none)) else (none))) else (none))) else (none))) else (none)) else (none)) else (none)) else (none))))) else (none)) else (some true))))))) else (none))
theorem engrosslaw10_CellBytes.mono_l : ∀ k, (∀ y0 y1 y2 y3 y4 y5 y6 y7 y8 y9 y10 y11 y12 y13 y14 y15 y16 y17 y18, LeO (engrosslaw10_CellBytes.j0 k y0 y1 y2 y3 y4 y5 y6 y7 y8 y9 y10 y11 y12 y13 y14 y15 y16 y17 y18) (engrosslaw10_CellBytes.j0 (k + 1) y0 y1 y2 y3 y4 y5 y6 y7 y8 y9 y10 y11 y12 y13 y14 y15 y16 y17 y18))
 | 0 => fun _ _ _ _ _ _ _ _ _ _ _ _ _ _ _ _ _ _ _ r h => by simp [engrosslaw10_CellBytes.j0] at h
 | k + 1 => by
  have ih0 := engrosslaw10_CellBytes.mono_l k
  ·intro y0 y1 y2 y3 y4 y5 y6 y7 y8 y9 y10 y11 y12 y13 y14 y15 y16 y17 y18
   unfold engrosslaw10_CellBytes.j0
   repeat' first
   | (with_reducible exact ih0 _ _ _ _ _ _ _ _ _ _ _ _ _ _ _ _ _ _ _)
   | (with_reducible exact cell_Get.mono _ _)
   | (with_reducible exact cell_Put.mono _ _ _ _ _ _ _ _ _ _)
   | (with_reducible exact engrosslaw10_begun.mono _)
   | (with_reducible exact engrossref10_Bytes.mono _ _ _ _ _ _ _ _ _)
   | (with_reducible exact LeO.refl _)
   | (with_reducible exact LeO.none _)
   | (with_reducible refine LeO.ite ?_ ?_)
   | (with_reducible refine LeO.bind ?_ (fun _ => ?_))
   | exact ih0 _ _ _ _ _ _ _ _ _ _ _ _ _ _ _ _ _ _ _
   | exact cell_Get.mono _ _
   | exact cell_Put.mono _ _ _ _ _ _ _ _ _ _
   | exact engrosslaw10_begun.mono _
   | exact engrossref10_Bytes.mono _ _ _ _ _ _ _ _ _
   | exact LeO.none _
   | refine LeO.ite ?_ ?_
   | refine LeO.bind ?_ (fun _ => ?_)
theorem engrosslaw10_CellBytes.mono : ∀ a0 a1 a2 a3 a4 a5 a6 a7 a8 a9 a10 a11 a12 a13 a14 a15 a16 a17 k, LeO (engrosslaw10_CellBytes.f k a0 a1 a2 a3 a4 a5 a6 a7 a8 a9 a10 a11 a12 a13 a14 a15 a16 a17) (engrosslaw10_CellBytes.f (k + 1) a0 a1 a2 a3 a4 a5 a6 a7 a8 a9 a10 a11 a12 a13 a14 a15 a16 a17) := by
 intro a0 a1 a2 a3 a4 a5 a6 a7 a8 a9 a10 a11 a12 a13 a14 a15 a16 a17 k
 have ih0 := engrosslaw10_CellBytes.mono_l k
 unfold engrosslaw10_CellBytes.f
 repeat' first
   | (with_reducible exact ih0 _ _ _ _ _ _ _ _ _ _ _ _ _ _ _ _ _ _ _)
   | (with_reducible exact cell_Get.mono _ _)
   | (with_reducible exact cell_Put.mono _ _ _ _ _ _ _ _ _ _)
   | (with_reducible exact engrosslaw10_begun.mono _)
   | (with_reducible exact engrossref10_Bytes.mono _ _ _ _ _ _ _ _ _)
   | (with_reducible exact LeO.refl _)
   | (with_reducible exact LeO.none _)
   | (with_reducible refine LeO.ite ?_ ?_)
   | (with_reducible refine LeO.bind ?_ (fun _ => ?_))
   | exact ih0 _ _ _ _ _ _ _ _ _ _ _ _ _ _ _ _ _ _ _
   | exact cell_Get.mono _ _
   | exact cell_Put.mono _ _ _ _ _ _ _ _ _ _
   | exact engrosslaw10_begun.mono _
   | exact engrossref10_Bytes.mono _ _ _ _ _ _ _ _ _
   | exact LeO.none _
   | refine LeO.ite ?_ ?_
   | refine LeO.bind ?_ (fun _ => ?_)
def engrosslaw10_CellBytes.T4 : Bool × List (List Nat × List Nat) := (true, [([], []), ([0], [0]), ([], []), ([2, 1], [2]), ([], []), ([4, 3], [4]), ([], []), ([6, 5], [6]), ([1, 7, 0, 1], [1]), ([3, 8, 0, 1, 2, 3, 8], [3]), ([5, 9, 0, 1, 2, 3, 4, 5, 8, 9], [4, 5]), ([7, 10, 0, 1, 2, 3, 4, 5, 6, 7, 8, 9, 10], [6, 7])])
def engrosslaw10_CellBytes.B4 : List Nat := [0, 1, 0, 7, 0, 31, 0, 127, 255, 511, 1023, 2047]
theorem engrosslaw10_CellBytes.tab4 : rtab .any (opsOf Try.f4 4) = engrosslaw10_CellBytes.T4 := by kernel_rfl
theorem engrosslaw10_CellBytes.bits4 : waitsOk engrosslaw10_CellBytes.T4.2 engrosslaw10_CellBytes.B4 = true := by kernel_rfl
def engrosslaw10_CellBytes.T8 : Bool × List (List Nat × List Nat) := (true, [([], []), ([0], [0]), ([], []), ([2], [2]), ([], []), ([4], [4]), ([5], [5]), ([3, 6], [3, 6]), ([1, 7], [1, 7])])
def engrosslaw10_CellBytes.B8 : List Nat := [0, 1, 0, 4, 0, 16, 48, 124, 255]
theorem engrosslaw10_CellBytes.tab8 : rtab .any (opsOf Try.f4 8) = engrosslaw10_CellBytes.T8 := by kernel_rfl
theorem engrosslaw10_CellBytes.bits8 : waitsOk engrosslaw10_CellBytes.T8.2 engrosslaw10_CellBytes.B8 = true := by kernel_rfl
def engrosslaw10_CellBytes.T11 : Bool × List (List Nat × List Nat) := (true, [([], []), ([0], [0]), ([1], [1]), ([2], [2]), ([2], [2]), ([4, 2], [2, 4]), ([2], [2]), ([6, 2], [2, 6]), ([5, 7, 2], [2, 5, 7]), ([3, 8, 2], [2, 3, 8]), ([2, 9], [2, 9]), ([10, 2], [10]), ([11], [11]), ([12, 11, 11], [11, 12]), ([11], [11]), ([13, 14, 13, 11], [11, 13, 14]), ([15, 11], [11, 15]), ([11, 16], [11, 16])])
def engrosslaw10_CellBytes.B11 : List Nat := [0, 1, 3, 7, 7, 23, 7, 71, 247, 511, 1023, 2047, 4095, 8191, 4095, 32767, 65535, 131071]
theorem engrosslaw10_CellBytes.tab11 : rtab .any (opsOf Try.f4 11) = engrosslaw10_CellBytes.T11 := by kernel_rfl
theorem engrosslaw10_CellBytes.bits11 : waitsOk engrosslaw10_CellBytes.T11.2 engrosslaw10_CellBytes.B11 = true := by kernel_rfl
def engrosslaw10_CellBytes.T13 : Bool × List (List Nat × List Nat) := (true, [([], []), ([0], [0]), ([1], [1]), ([2, 1], [2]), ([3], [3]), ([4, 3, 3], [3, 4]), ([5, 5, 3], [3, 5]), ([6, 3], [3, 6]), ([3], [3]), ([3], [3]), ([9, 3], [3, 9]), ([8, 10, 3], [3, 8, 10]), ([11, 3], [3, 11]), ([7, 12, 3], [3, 7, 12]), ([3], [3]), ([3], [3]), ([14, 15, 6, 3], [3, 14, 15]), ([13, 16, 3], [3, 13, 16]), ([3, 17], [3, 17]), ([18, 16, 0, 1, 2, 3, 4, 5, 6, 7, 8, 9, 10, 11, 12, 13, 14, 15, 16, 17, 18], [18])])
def engrosslaw10_CellBytes.B13 : List Nat := [0, 1, 3, 7, 15, 31, 63, 127, 15, 15, 527, 1807, 3855, 8191, 15, 15, 49279, 131071, 262143, 524287]
theorem engrosslaw10_CellBytes.tab13 : rtab .any (opsOf Try.f4 13) = engrosslaw10_CellBytes.T13 := by kernel_rfl
theorem engrosslaw10_CellBytes.bits13 : waitsOk engrosslaw10_CellBytes.T13.2 engrosslaw10_CellBytes.B13 = true := by kernel_rfl
set_option maxHeartbeats 8000000 in
set_option maxRecDepth 100000 in
theorem engrosslaw10_CellBytes.calls (k : Nat) (a0_0 : ByteArray) (a0_1 : Int) (a0_2 : Nat) (a0_3 : ByteArray) (a0_4 : Int) (a0_5 : Int) (a0_6 : Nat) (a0_7 : ByteArray) (a1_0 : ByteArray) (a1_1 : Int) (a1_2 : Nat) (a1_3 : ByteArray) (a1_4 : Int) (a1_5 : Int) (a1_6 : Nat) (a1_7 : ByteArray) (A2 : Option Addr) (c2 : Nat) (l2 : List Int) (A3 : Option Addr) (c3 : Nat) (l3 : List Int) (r : Bool) (w : World) (hr2 : Kd.C (Kd.int .u8) w A2 l2.length l2) (hc2 : l2.length ≤ c2) (hr3 : Kd.C (Kd.int .u8) w A3 l3.length l3) (hc3 : l3.length ≤ c3) (h : engrosslaw10_CellBytes.f k a0_0 a0_1 a0_2 a0_3 a0_4 a0_5 a0_6 a0_7 a1_0 a1_1 a1_2 a1_3 a1_4 a1_5 a1_6 a1_7 l2 l3 = some r) :
  Calls Try.prog 4 #[.agg #[.string a0_0, .int .i64 a0_1, .float .f64 a0_2, .string a0_3, .int .i64 a0_4, .int .i64 a0_5, .float .f64 a0_6, .string a0_7], .agg #[.string a1_0, .int .i64 a1_1, .float .f64 a1_2, .string a1_3, .int .i64 a1_4, .int .i64 a1_5, .float .f64 a1_6, .string a1_7], .slice A2 l2.length c2, .slice A3 l3.length c3] w fun e w' => e = .returned (.bool r) ∧ Below w.heap.size w w' := by
 have hu26 := Try.underlying26
 have hu31 := Try.underlying31
 have HR2 := Aside0.mk hr2
 have HC2 := Aside0.mk hc2
 clear hr2 hc2
 have HR3 := Aside0.mk hr3
 have HC3 := Aside0.mk hc3
 clear hr3 hc3
 have HB := Aside0.mk (Below.refl w.heap.size w)
 have H : ((engrosslaw10_begun.f k).bind fun t611 => (if t611 = true then ((engrosslaw10_Cut.f a0_0 a0_1 a0_2 a0_3 a0_4 a0_5 a0_6 a0_7).bind fun bt612 => ((engrosslaw10_Cut.f a1_0 a1_1 a1_2 a1_3 a1_4 a1_5 a1_6 a1_7).bind fun bt620 => ((engrosslaw1_Short.f l2 10).bind fun t628 => ((engrosslaw1_Short.f l3 10).bind fun t631 => ((engrossref10_May.f bt612.1 bt612.2.1 bt612.2.2.1 bt612.2.2.2.1 bt612.2.2.2.2.1 bt612.2.2.2.2.2.1 bt612.2.2.2.2.2.2.1 bt612.2.2.2.2.2.2.2).bind fun t634 => (if t634 = true then (if ([] : List Int).length + t628.length < 140737488355328 then ((engrosslaw10_Of.f bt612.1 bt612.2.1 bt612.2.2.1 bt612.2.2.2.1 bt612.2.2.2.2.1 bt612.2.2.2.2.2.1 bt612.2.2.2.2.2.2.1 bt612.2.2.2.2.2.2.2).bind fun bt638 => ((cell_Put.f k (([] : List Int) ++ t628) bt638.1 bt638.2.1 bt638.2.2.1 bt638.2.2.2.1 bt638.2.2.2.2.1 bt638.2.2.2.2.2.1 bt638.2.2.2.2.2.2.1 bt638.2.2.2.2.2.2.2).bind fun t646 => ((engrossref10_Bytes.f k bt612.1 bt612.2.1 bt612.2.2.1 bt612.2.2.2.1 bt612.2.2.2.2.1 bt612.2.2.2.2.2.1 bt612.2.2.2.2.2.2.1 bt612.2.2.2.2.2.2.2).bind fun t649 => (if (strOfNums t628).size + (strOfNums t649).size ≤ 9223372036854775807 then (if (strOfNums t646).toList = ((strOfNums t628) ++ (strOfNums t649)).toList then (if 0 ≤ (t628.length : Int) then (if (t628.length : Int) ≤ (t646.length : Int) then ((some (t646.drop ((t628.length : Int) : Int).toNat : List Int)).bind fun y652 => (if ([] : List Int).length + y652.length < 140737488355328 then ((some (([] : List Int) ++ y652 : List Int)).bind fun y656 => (if y656.length + t631.length < 140737488355328 then ((cell_Get.f k (y656 ++ t631)).bind fun bt662 => (if bt662.2.2.2.2.2.2.2.2.2 = 0 then (if bt662.2.2.2.2.2.2.2.2.1 = (wrap64 ((t646.length : Int) - (t628.length : Int))) then ((engrosslaw10_Back.f bt662.1 bt662.2.1 bt662.2.2.1 bt662.2.2.2.1 bt662.2.2.2.2.1 bt662.2.2.2.2.2.1 bt662.2.2.2.2.2.2.1 bt662.2.2.2.2.2.2.2.1).bind fun bt673 => ((engrossref10_Eq.f bt673.1 bt673.2.1 bt673.2.2.1 bt673.2.2.2.1 bt673.2.2.2.2.1 bt673.2.2.2.2.2.1 bt673.2.2.2.2.2.2.1 bt673.2.2.2.2.2.2.2 bt612.1 bt612.2.1 bt612.2.2.1 bt612.2.2.2.1 bt612.2.2.2.2.1 bt612.2.2.2.2.2.1 bt612.2.2.2.2.2.2.1 bt612.2.2.2.2.2.2.2).bind fun t681 => (engrosslaw10_CellBytes.j0 k t628 t646 (!t681) bt612.1 bt612.2.1 bt612.2.2.1 bt612.2.2.2.1 bt612.2.2.2.2.1 bt612.2.2.2.2.2.1 bt612.2.2.2.2.2.2.1 bt612.2.2.2.2.2.2.2 bt620.1 bt620.2.1 bt620.2.2.1 bt620.2.2.2.1 bt620.2.2.2.2.1 bt620.2.2.2.2.2.1 bt620.2.2.2.2.2.2.1 bt620.2.2.2.2.2.2.2))) else (none)) else (none))) else (none))) else (none))) else (none)) else (none)) else (none)) else (none))))) else (none)) else (some true))))))) else (none))) = some r := h
 clear h
 replace H := Option.bind_eq_some_iff.mp H
 obtain ⟨t611, A50, H⟩ := H
 replace H : (if t611 = true then ((engrosslaw10_Cut.f a0_0 a0_1 a0_2 a0_3 a0_4 a0_5 a0_6 a0_7).bind fun bt612 => ((engrosslaw10_Cut.f a1_0 a1_1 a1_2 a1_3 a1_4 a1_5 a1_6 a1_7).bind fun bt620 => ((engrosslaw1_Short.f l2 10).bind fun t628 => ((engrosslaw1_Short.f l3 10).bind fun t631 => ((engrossref10_May.f bt612.1 bt612.2.1 bt612.2.2.1 bt612.2.2.2.1 bt612.2.2.2.2.1 bt612.2.2.2.2.2.1 bt612.2.2.2.2.2.2.1 bt612.2.2.2.2.2.2.2).bind fun t634 => (if t634 = true then (if ([] : List Int).length + t628.length < 140737488355328 then ((engrosslaw10_Of.f bt612.1 bt612.2.1 bt612.2.2.1 bt612.2.2.2.1 bt612.2.2.2.2.1 bt612.2.2.2.2.2.1 bt612.2.2.2.2.2.2.1 bt612.2.2.2.2.2.2.2).bind fun bt638 => ((cell_Put.f k (([] : List Int) ++ t628) bt638.1 bt638.2.1 bt638.2.2.1 bt638.2.2.2.1 bt638.2.2.2.2.1 bt638.2.2.2.2.2.1 bt638.2.2.2.2.2.2.1 bt638.2.2.2.2.2.2.2).bind fun t646 => ((engrossref10_Bytes.f k bt612.1 bt612.2.1 bt612.2.2.1 bt612.2.2.2.1 bt612.2.2.2.2.1 bt612.2.2.2.2.2.1 bt612.2.2.2.2.2.2.1 bt612.2.2.2.2.2.2.2).bind fun t649 => (if (strOfNums t628).size + (strOfNums t649).size ≤ 9223372036854775807 then (if (strOfNums t646).toList = ((strOfNums t628) ++ (strOfNums t649)).toList then (if 0 ≤ (t628.length : Int) then (if (t628.length : Int) ≤ (t646.length : Int) then ((some (t646.drop ((t628.length : Int) : Int).toNat : List Int)).bind fun y652 => (if ([] : List Int).length + y652.length < 140737488355328 then ((some (([] : List Int) ++ y652 : List Int)).bind fun y656 => (if y656.length + t631.length < 140737488355328 then ((cell_Get.f k (y656 ++ t631)).bind fun bt662 => (if bt662.2.2.2.2.2.2.2.2.2 = 0 then (if bt662.2.2.2.2.2.2.2.2.1 = (wrap64 ((t646.length : Int) - (t628.length : Int))) then ((engrosslaw10_Back.f bt662.1 bt662.2.1 bt662.2.2.1 bt662.2.2.2.1 bt662.2.2.2.2.1 bt662.2.2.2.2.2.1 bt662.2.2.2.2.2.2.1 bt662.2.2.2.2.2.2.2.1).bind fun bt673 => ((engrossref10_Eq.f bt673.1 bt673.2.1 bt673.2.2.1 bt673.2.2.2.1 bt673.2.2.2.2.1 bt673.2.2.2.2.2.1 bt673.2.2.2.2.2.2.1 bt673.2.2.2.2.2.2.2 bt612.1 bt612.2.1 bt612.2.2.1 bt612.2.2.2.1 bt612.2.2.2.2.1 bt612.2.2.2.2.2.1 bt612.2.2.2.2.2.2.1 bt612.2.2.2.2.2.2.2).bind fun t681 => (engrosslaw10_CellBytes.j0 k t628 t646 (!t681) bt612.1 bt612.2.1 bt612.2.2.1 bt612.2.2.2.1 bt612.2.2.2.2.1 bt612.2.2.2.2.2.1 bt612.2.2.2.2.2.2.1 bt612.2.2.2.2.2.2.2 bt620.1 bt620.2.1 bt620.2.2.1 bt620.2.2.2.1 bt620.2.2.2.2.1 bt620.2.2.2.2.2.1 bt620.2.2.2.2.2.2.1 bt620.2.2.2.2.2.2.2))) else (none)) else (none))) else (none))) else (none))) else (none)) else (none)) else (none)) else (none))))) else (none)) else (some true))))))) else (none)) = some r := H
 have A5 := Aside0.mk A50
 clear A50
 by_cases c6 : t611 = true
 ·subst c6
  have H1 : ((engrosslaw10_Cut.f a0_0 a0_1 a0_2 a0_3 a0_4 a0_5 a0_6 a0_7).bind fun bt612 => ((engrosslaw10_Cut.f a1_0 a1_1 a1_2 a1_3 a1_4 a1_5 a1_6 a1_7).bind fun bt620 => ((engrosslaw1_Short.f l2 10).bind fun t628 => ((engrosslaw1_Short.f l3 10).bind fun t631 => ((engrossref10_May.f bt612.1 bt612.2.1 bt612.2.2.1 bt612.2.2.2.1 bt612.2.2.2.2.1 bt612.2.2.2.2.2.1 bt612.2.2.2.2.2.2.1 bt612.2.2.2.2.2.2.2).bind fun t634 => (if t634 = true then (if ([] : List Int).length + t628.length < 140737488355328 then ((engrosslaw10_Of.f bt612.1 bt612.2.1 bt612.2.2.1 bt612.2.2.2.1 bt612.2.2.2.2.1 bt612.2.2.2.2.2.1 bt612.2.2.2.2.2.2.1 bt612.2.2.2.2.2.2.2).bind fun bt638 => ((cell_Put.f k (([] : List Int) ++ t628) bt638.1 bt638.2.1 bt638.2.2.1 bt638.2.2.2.1 bt638.2.2.2.2.1 bt638.2.2.2.2.2.1 bt638.2.2.2.2.2.2.1 bt638.2.2.2.2.2.2.2).bind fun t646 => ((engrossref10_Bytes.f k bt612.1 bt612.2.1 bt612.2.2.1 bt612.2.2.2.1 bt612.2.2.2.2.1 bt612.2.2.2.2.2.1 bt612.2.2.2.2.2.2.1 bt612.2.2.2.2.2.2.2).bind fun t649 => (if (strOfNums t628).size + (strOfNums t649).size ≤ 9223372036854775807 then (if (strOfNums t646).toList = ((strOfNums t628) ++ (strOfNums t649)).toList then (if 0 ≤ (t628.length : Int) then (if (t628.length : Int) ≤ (t646.length : Int) then ((some (t646.drop ((t628.length : Int) : Int).toNat : List Int)).bind fun y652 => (if ([] : List Int).length + y652.length < 140737488355328 then ((some (([] : List Int) ++ y652 : List Int)).bind fun y656 => (if y656.length + t631.length < 140737488355328 then ((cell_Get.f k (y656 ++ t631)).bind fun bt662 => (if bt662.2.2.2.2.2.2.2.2.2 = 0 then (if bt662.2.2.2.2.2.2.2.2.1 = (wrap64 ((t646.length : Int) - (t628.length : Int))) then ((engrosslaw10_Back.f bt662.1 bt662.2.1 bt662.2.2.1 bt662.2.2.2.1 bt662.2.2.2.2.1 bt662.2.2.2.2.2.1 bt662.2.2.2.2.2.2.1 bt662.2.2.2.2.2.2.2.1).bind fun bt673 => ((engrossref10_Eq.f bt673.1 bt673.2.1 bt673.2.2.1 bt673.2.2.2.1 bt673.2.2.2.2.1 bt673.2.2.2.2.2.1 bt673.2.2.2.2.2.2.1 bt673.2.2.2.2.2.2.2 bt612.1 bt612.2.1 bt612.2.2.1 bt612.2.2.2.1 bt612.2.2.2.2.1 bt612.2.2.2.2.2.1 bt612.2.2.2.2.2.2.1 bt612.2.2.2.2.2.2.2).bind fun t681 => (engrosslaw10_CellBytes.j0 k t628 t646 (!t681) bt612.1 bt612.2.1 bt612.2.2.1 bt612.2.2.2.1 bt612.2.2.2.2.1 bt612.2.2.2.2.2.1 bt612.2.2.2.2.2.2.1 bt612.2.2.2.2.2.2.2 bt620.1 bt620.2.1 bt620.2.2.1 bt620.2.2.2.1 bt620.2.2.2.2.1 bt620.2.2.2.2.2.1 bt620.2.2.2.2.2.2.1 bt620.2.2.2.2.2.2.2))) else (none)) else (none))) else (none))) else (none))) else (none)) else (none)) else (none)) else (none))))) else (none)) else (some true))))))) = some r := by rw [if_pos rfl] at H; exact H
  clear H
  have H := H1
  clear H1
  replace H := Option.bind_eq_some_iff.mp H
  obtain ⟨⟨t612, t613, t614, t615, t616, t617, t618, t619⟩, A70, H⟩ := H
  replace H : ((engrosslaw10_Cut.f a1_0 a1_1 a1_2 a1_3 a1_4 a1_5 a1_6 a1_7).bind fun bt620 => ((engrosslaw1_Short.f l2 10).bind fun t628 => ((engrosslaw1_Short.f l3 10).bind fun t631 => ((engrossref10_May.f t612 t613 t614 t615 t616 t617 t618 t619).bind fun t634 => (if t634 = true then (if ([] : List Int).length + t628.length < 140737488355328 then ((engrosslaw10_Of.f t612 t613 t614 t615 t616 t617 t618 t619).bind fun bt638 => ((cell_Put.f k (([] : List Int) ++ t628) bt638.1 bt638.2.1 bt638.2.2.1 bt638.2.2.2.1 bt638.2.2.2.2.1 bt638.2.2.2.2.2.1 bt638.2.2.2.2.2.2.1 bt638.2.2.2.2.2.2.2).bind fun t646 => ((engrossref10_Bytes.f k t612 t613 t614 t615 t616 t617 t618 t619).bind fun t649 => (if (strOfNums t628).size + (strOfNums t649).size ≤ 9223372036854775807 then (if (strOfNums t646).toList = ((strOfNums t628) ++ (strOfNums t649)).toList then (if 0 ≤ (t628.length : Int) then (if (t628.length : Int) ≤ (t646.length : Int) then ((some (t646.drop ((t628.length : Int) : Int).toNat : List Int)).bind fun y652 => (if ([] : List Int).length + y652.length < 140737488355328 then ((some (([] : List Int) ++ y652 : List Int)).bind fun y656 => (if y656.length + t631.length < 140737488355328 then ((cell_Get.f k (y656 ++ t631)).bind fun bt662 => (if bt662.2.2.2.2.2.2.2.2.2 = 0 then (if bt662.2.2.2.2.2.2.2.2.1 = (wrap64 ((t646.length : Int) - (t628.length : Int))) then ((engrosslaw10_Back.f bt662.1 bt662.2.1 bt662.2.2.1 bt662.2.2.2.1 bt662.2.2.2.2.1 bt662.2.2.2.2.2.1 bt662.2.2.2.2.2.2.1 bt662.2.2.2.2.2.2.2.1).bind fun bt673 => ((engrossref10_Eq.f bt673.1 bt673.2.1 bt673.2.2.1 bt673.2.2.2.1 bt673.2.2.2.2.1 bt673.2.2.2.2.2.1 bt673.2.2.2.2.2.2.1 bt673.2.2.2.2.2.2.2 t612 t613 t614 t615 t616 t617 t618 t619).bind fun t681 => (engrosslaw10_CellBytes.j0 k t628 t646 (!t681) t612 t613 t614 t615 t616 t617 t618 t619 bt620.1 bt620.2.1 bt620.2.2.1 bt620.2.2.2.1 bt620.2.2.2.2.1 bt620.2.2.2.2.2.1 bt620.2.2.2.2.2.2.1 bt620.2.2.2.2.2.2.2))) else (none)) else (none))) else (none))) else (none))) else (none)) else (none)) else (none)) else (none))))) else (none)) else (some true)))))) = some r := H
  have A7 := Aside0.mk A70
  clear A70
  replace H := Option.bind_eq_some_iff.mp H
  obtain ⟨⟨t620, t621, t622, t623, t624, t625, t626, t627⟩, A80, H⟩ := H
  replace H : ((engrosslaw1_Short.f l2 10).bind fun t628 => ((engrosslaw1_Short.f l3 10).bind fun t631 => ((engrossref10_May.f t612 t613 t614 t615 t616 t617 t618 t619).bind fun t634 => (if t634 = true then (if ([] : List Int).length + t628.length < 140737488355328 then ((engrosslaw10_Of.f t612 t613 t614 t615 t616 t617 t618 t619).bind fun bt638 => ((cell_Put.f k (([] : List Int) ++ t628) bt638.1 bt638.2.1 bt638.2.2.1 bt638.2.2.2.1 bt638.2.2.2.2.1 bt638.2.2.2.2.2.1 bt638.2.2.2.2.2.2.1 bt638.2.2.2.2.2.2.2).bind fun t646 => ((engrossref10_Bytes.f k t612 t613 t614 t615 t616 t617 t618 t619).bind fun t649 => (if (strOfNums t628).size + (strOfNums t649).size ≤ 9223372036854775807 then (if (strOfNums t646).toList = ((strOfNums t628) ++ (strOfNums t649)).toList then (if 0 ≤ (t628.length : Int) then (if (t628.length : Int) ≤ (t646.length : Int) then ((some (t646.drop ((t628.length : Int) : Int).toNat : List Int)).bind fun y652 => (if ([] : List Int).length + y652.length < 140737488355328 then ((some (([] : List Int) ++ y652 : List Int)).bind fun y656 => (if y656.length + t631.length < 140737488355328 then ((cell_Get.f k (y656 ++ t631)).bind fun bt662 => (if bt662.2.2.2.2.2.2.2.2.2 = 0 then (if bt662.2.2.2.2.2.2.2.2.1 = (wrap64 ((t646.length : Int) - (t628.length : Int))) then ((engrosslaw10_Back.f bt662.1 bt662.2.1 bt662.2.2.1 bt662.2.2.2.1 bt662.2.2.2.2.1 bt662.2.2.2.2.2.1 bt662.2.2.2.2.2.2.1 bt662.2.2.2.2.2.2.2.1).bind fun bt673 => ((engrossref10_Eq.f bt673.1 bt673.2.1 bt673.2.2.1 bt673.2.2.2.1 bt673.2.2.2.2.1 bt673.2.2.2.2.2.1 bt673.2.2.2.2.2.2.1 bt673.2.2.2.2.2.2.2 t612 t613 t614 t615 t616 t617 t618 t619).bind fun t681 => (engrosslaw10_CellBytes.j0 k t628 t646 (!t681) t612 t613 t614 t615 t616 t617 t618 t619 t620 t621 t622 t623 t624 t625 t626 t627))) else (none)) else (none))) else (none))) else (none))) else (none)) else (none)) else (none)) else (none))))) else (none)) else (some true))))) = some r := H
  have A8 := Aside0.mk A80
  clear A80
  replace H := Option.bind_eq_some_iff.mp H
  obtain ⟨t628, A90, H⟩ := H
  replace H : ((engrosslaw1_Short.f l3 10).bind fun t631 => ((engrossref10_May.f t612 t613 t614 t615 t616 t617 t618 t619).bind fun t634 => (if t634 = true then (if ([] : List Int).length + t628.length < 140737488355328 then ((engrosslaw10_Of.f t612 t613 t614 t615 t616 t617 t618 t619).bind fun bt638 => ((cell_Put.f k (([] : List Int) ++ t628) bt638.1 bt638.2.1 bt638.2.2.1 bt638.2.2.2.1 bt638.2.2.2.2.1 bt638.2.2.2.2.2.1 bt638.2.2.2.2.2.2.1 bt638.2.2.2.2.2.2.2).bind fun t646 => ((engrossref10_Bytes.f k t612 t613 t614 t615 t616 t617 t618 t619).bind fun t649 => (if (strOfNums t628).size + (strOfNums t649).size ≤ 9223372036854775807 then (if (strOfNums t646).toList = ((strOfNums t628) ++ (strOfNums t649)).toList then (if 0 ≤ (t628.length : Int) then (if (t628.length : Int) ≤ (t646.length : Int) then ((some (t646.drop ((t628.length : Int) : Int).toNat : List Int)).bind fun y652 => (if ([] : List Int).length + y652.length < 140737488355328 then ((some (([] : List Int) ++ y652 : List Int)).bind fun y656 => (if y656.length + t631.length < 140737488355328 then ((cell_Get.f k (y656 ++ t631)).bind fun bt662 => (if bt662.2.2.2.2.2.2.2.2.2 = 0 then (if bt662.2.2.2.2.2.2.2.2.1 = (wrap64 ((t646.length : Int) - (t628.length : Int))) then ((engrosslaw10_Back.f bt662.1 bt662.2.1 bt662.2.2.1 bt662.2.2.2.1 bt662.2.2.2.2.1 bt662.2.2.2.2.2.1 bt662.2.2.2.2.2.2.1 bt662.2.2.2.2.2.2.2.1).bind fun bt673 => ((engrossref10_Eq.f bt673.1 bt673.2.1 bt673.2.2.1 bt673.2.2.2.1 bt673.2.2.2.2.1 bt673.2.2.2.2.2.1 bt673.2.2.2.2.2.2.1 bt673.2.2.2.2.2.2.2 t612 t613 t614 t615 t616 t617 t618 t619).bind fun t681 => (engrosslaw10_CellBytes.j0 k t628 t646 (!t681) t612 t613 t614 t615 t616 t617 t618 t619 t620 t621 t622 t623 t624 t625 t626 t627))) else (none)) else (none))) else (none))) else (none))) else (none)) else (none)) else (none)) else (none))))) else (none)) else (some true)))) = some r := H
  have A9 := Aside0.mk A90
  clear A90
  replace H := Option.bind_eq_some_iff.mp H
  obtain ⟨t631, A100, H⟩ := H
  replace H : ((engrossref10_May.f t612 t613 t614 t615 t616 t617 t618 t619).bind fun t634 => (if t634 = true then (if ([] : List Int).length + t628.length < 140737488355328 then ((engrosslaw10_Of.f t612 t613 t614 t615 t616 t617 t618 t619).bind fun bt638 => ((cell_Put.f k (([] : List Int) ++ t628) bt638.1 bt638.2.1 bt638.2.2.1 bt638.2.2.2.1 bt638.2.2.2.2.1 bt638.2.2.2.2.2.1 bt638.2.2.2.2.2.2.1 bt638.2.2.2.2.2.2.2).bind fun t646 => ((engrossref10_Bytes.f k t612 t613 t614 t615 t616 t617 t618 t619).bind fun t649 => (if (strOfNums t628).size + (strOfNums t649).size ≤ 9223372036854775807 then (if (strOfNums t646).toList = ((strOfNums t628) ++ (strOfNums t649)).toList then (if 0 ≤ (t628.length : Int) then (if (t628.length : Int) ≤ (t646.length : Int) then ((some (t646.drop ((t628.length : Int) : Int).toNat : List Int)).bind fun y652 => (if ([] : List Int).length + y652.length < 140737488355328 then ((some (([] : List Int) ++ y652 : List Int)).bind fun y656 => (if y656.length + t631.length < 140737488355328 then ((cell_Get.f k (y656 ++ t631)).bind fun bt662 => (if bt662.2.2.2.2.2.2.2.2.2 = 0 then (if bt662.2.2.2.2.2.2.2.2.1 = (wrap64 ((t646.length : Int) - (t628.length : Int))) then ((engrosslaw10_Back.f bt662.1 bt662.2.1 bt662.2.2.1 bt662.2.2.2.1 bt662.2.2.2.2.1 bt662.2.2.2.2.2.1 bt662.2.2.2.2.2.2.1 bt662.2.2.2.2.2.2.2.1).bind fun bt673 => ((engrossref10_Eq.f bt673.1 bt673.2.1 bt673.2.2.1 bt673.2.2.2.1 bt673.2.2.2.2.1 bt673.2.2.2.2.2.1 bt673.2.2.2.2.2.2.1 bt673.2.2.2.2.2.2.2 t612 t613 t614 t615 t616 t617 t618 t619).bind fun t681 => (engrosslaw10_CellBytes.j0 k t628 t646 (!t681) t612 t613 t614 t615 t616 t617 t618 t619 t620 t621 t622 t623 t624 t625 t626 t627))) else (none)) else (none))) else (none))) else (none))) else (none)) else (none)) else (none)) else (none))))) else (none)) else (some true))) = some r := H
  have A10 := Aside0.mk A100
  clear A100
  replace H := Option.bind_eq_some_iff.mp H
  obtain ⟨t634, A110, H⟩ := H
  replace H : (if t634 = true then (if ([] : List Int).length + t628.length < 140737488355328 then ((engrosslaw10_Of.f t612 t613 t614 t615 t616 t617 t618 t619).bind fun bt638 => ((cell_Put.f k (([] : List Int) ++ t628) bt638.1 bt638.2.1 bt638.2.2.1 bt638.2.2.2.1 bt638.2.2.2.2.1 bt638.2.2.2.2.2.1 bt638.2.2.2.2.2.2.1 bt638.2.2.2.2.2.2.2).bind fun t646 => ((engrossref10_Bytes.f k t612 t613 t614 t615 t616 t617 t618 t619).bind fun t649 => (if (strOfNums t628).size + (strOfNums t649).size ≤ 9223372036854775807 then (if (strOfNums t646).toList = ((strOfNums t628) ++ (strOfNums t649)).toList then (if 0 ≤ (t628.length : Int) then (if (t628.length : Int) ≤ (t646.length : Int) then ((some (t646.drop ((t628.length : Int) : Int).toNat : List Int)).bind fun y652 => (if ([] : List Int).length + y652.length < 140737488355328 then ((some (([] : List Int) ++ y652 : List Int)).bind fun y656 => (if y656.length + t631.length < 140737488355328 then ((cell_Get.f k (y656 ++ t631)).bind fun bt662 => (if bt662.2.2.2.2.2.2.2.2.2 = 0 then (if bt662.2.2.2.2.2.2.2.2.1 = (wrap64 ((t646.length : Int) - (t628.length : Int))) then ((engrosslaw10_Back.f bt662.1 bt662.2.1 bt662.2.2.1 bt662.2.2.2.1 bt662.2.2.2.2.1 bt662.2.2.2.2.2.1 bt662.2.2.2.2.2.2.1 bt662.2.2.2.2.2.2.2.1).bind fun bt673 => ((engrossref10_Eq.f bt673.1 bt673.2.1 bt673.2.2.1 bt673.2.2.2.1 bt673.2.2.2.2.1 bt673.2.2.2.2.2.1 bt673.2.2.2.2.2.2.1 bt673.2.2.2.2.2.2.2 t612 t613 t614 t615 t616 t617 t618 t619).bind fun t681 => (engrosslaw10_CellBytes.j0 k t628 t646 (!t681) t612 t613 t614 t615 t616 t617 t618 t619 t620 t621 t622 t623 t624 t625 t626 t627))) else (none)) else (none))) else (none))) else (none))) else (none)) else (none)) else (none)) else (none))))) else (none)) else (some true)) = some r := H
  have A11 := Aside0.mk A110
  clear A110
  by_cases c12 : t634 = true
  ·subst c12
   have H1 : (if ([] : List Int).length + t628.length < 140737488355328 then ((engrosslaw10_Of.f t612 t613 t614 t615 t616 t617 t618 t619).bind fun bt638 => ((cell_Put.f k (([] : List Int) ++ t628) bt638.1 bt638.2.1 bt638.2.2.1 bt638.2.2.2.1 bt638.2.2.2.2.1 bt638.2.2.2.2.2.1 bt638.2.2.2.2.2.2.1 bt638.2.2.2.2.2.2.2).bind fun t646 => ((engrossref10_Bytes.f k t612 t613 t614 t615 t616 t617 t618 t619).bind fun t649 => (if (strOfNums t628).size + (strOfNums t649).size ≤ 9223372036854775807 then (if (strOfNums t646).toList = ((strOfNums t628) ++ (strOfNums t649)).toList then (if 0 ≤ (t628.length : Int) then (if (t628.length : Int) ≤ (t646.length : Int) then ((some (t646.drop ((t628.length : Int) : Int).toNat : List Int)).bind fun y652 => (if ([] : List Int).length + y652.length < 140737488355328 then ((some (([] : List Int) ++ y652 : List Int)).bind fun y656 => (if y656.length + t631.length < 140737488355328 then ((cell_Get.f k (y656 ++ t631)).bind fun bt662 => (if bt662.2.2.2.2.2.2.2.2.2 = 0 then (if bt662.2.2.2.2.2.2.2.2.1 = (wrap64 ((t646.length : Int) - (t628.length : Int))) then ((engrosslaw10_Back.f bt662.1 bt662.2.1 bt662.2.2.1 bt662.2.2.2.1 bt662.2.2.2.2.1 bt662.2.2.2.2.2.1 bt662.2.2.2.2.2.2.1 bt662.2.2.2.2.2.2.2.1).bind fun bt673 => ((engrossref10_Eq.f bt673.1 bt673.2.1 bt673.2.2.1 bt673.2.2.2.1 bt673.2.2.2.2.1 bt673.2.2.2.2.2.1 bt673.2.2.2.2.2.2.1 bt673.2.2.2.2.2.2.2 t612 t613 t614 t615 t616 t617 t618 t619).bind fun t681 => (engrosslaw10_CellBytes.j0 k t628 t646 (!t681) t612 t613 t614 t615 t616 t617 t618 t619 t620 t621 t622 t623 t624 t625 t626 t627))) else (none)) else (none))) else (none))) else (none))) else (none)) else (none)) else (none)) else (none))))) else (none)) = some r := by rw [if_pos rfl] at H; exact H
   clear H
   have H := H1
   clear H1
   by_cases c13 : ([] : List Int).length + t628.length < 140737488355328
   ·rw [if_pos c13] at H
    have LMc13 := Aside0.mk c13
    clear c13
    obtain ⟨y635, hy635⟩ : ∃ y_ : List Int, y_ = (([] : List Int) ++ t628) := ⟨_, rfl⟩
    replace H : ((engrosslaw10_Of.f t612 t613 t614 t615 t616 t617 t618 t619).bind fun bt638 => ((cell_Put.f k y635 bt638.1 bt638.2.1 bt638.2.2.1 bt638.2.2.2.1 bt638.2.2.2.2.1 bt638.2.2.2.2.2.1 bt638.2.2.2.2.2.2.1 bt638.2.2.2.2.2.2.2).bind fun t646 => ((engrossref10_Bytes.f k t612 t613 t614 t615 t616 t617 t618 t619).bind fun t649 => (if (strOfNums t628).size + (strOfNums t649).size ≤ 9223372036854775807 then (if (strOfNums t646).toList = ((strOfNums t628) ++ (strOfNums t649)).toList then (if 0 ≤ (t628.length : Int) then (if (t628.length : Int) ≤ (t646.length : Int) then ((some (t646.drop ((t628.length : Int) : Int).toNat : List Int)).bind fun y652 => (if ([] : List Int).length + y652.length < 140737488355328 then ((some (([] : List Int) ++ y652 : List Int)).bind fun y656 => (if y656.length + t631.length < 140737488355328 then ((cell_Get.f k (y656 ++ t631)).bind fun bt662 => (if bt662.2.2.2.2.2.2.2.2.2 = 0 then (if bt662.2.2.2.2.2.2.2.2.1 = (wrap64 ((t646.length : Int) - (t628.length : Int))) then ((engrosslaw10_Back.f bt662.1 bt662.2.1 bt662.2.2.1 bt662.2.2.2.1 bt662.2.2.2.2.1 bt662.2.2.2.2.2.1 bt662.2.2.2.2.2.2.1 bt662.2.2.2.2.2.2.2.1).bind fun bt673 => ((engrossref10_Eq.f bt673.1 bt673.2.1 bt673.2.2.1 bt673.2.2.2.1 bt673.2.2.2.2.1 bt673.2.2.2.2.2.1 bt673.2.2.2.2.2.2.1 bt673.2.2.2.2.2.2.2 t612 t613 t614 t615 t616 t617 t618 t619).bind fun t681 => (engrosslaw10_CellBytes.j0 k t628 t646 (!t681) t612 t613 t614 t615 t616 t617 t618 t619 t620 t621 t622 t623 t624 t625 t626 t627))) else (none)) else (none))) else (none))) else (none))) else (none)) else (none)) else (none)) else (none))))) = some r := by first | (rw [hy635]; with_reducible exact H) | (have H2_ := (Option.bind_some _ _).symm.trans H; rw [hy635]; with_reducible exact H2_) | (have H2_ := (Option.bind_some _ _).symm.trans H; with_reducible exact H2_) | with_reducible exact H | (rw [hy635]; exact H) | exact H
    have Ny635 := Aside0.mk hy635
    clear hy635
    replace H := Option.bind_eq_some_iff.mp H
    obtain ⟨⟨t638, t639, t640, t641, t642, t643, t644, t645⟩, A140, H⟩ := H
    replace H : ((cell_Put.f k y635 t638 t639 t640 t641 t642 t643 t644 t645).bind fun t646 => ((engrossref10_Bytes.f k t612 t613 t614 t615 t616 t617 t618 t619).bind fun t649 => (if (strOfNums t628).size + (strOfNums t649).size ≤ 9223372036854775807 then (if (strOfNums t646).toList = ((strOfNums t628) ++ (strOfNums t649)).toList then (if 0 ≤ (t628.length : Int) then (if (t628.length : Int) ≤ (t646.length : Int) then ((some (t646.drop ((t628.length : Int) : Int).toNat : List Int)).bind fun y652 => (if ([] : List Int).length + y652.length < 140737488355328 then ((some (([] : List Int) ++ y652 : List Int)).bind fun y656 => (if y656.length + t631.length < 140737488355328 then ((cell_Get.f k (y656 ++ t631)).bind fun bt662 => (if bt662.2.2.2.2.2.2.2.2.2 = 0 then (if bt662.2.2.2.2.2.2.2.2.1 = (wrap64 ((t646.length : Int) - (t628.length : Int))) then ((engrosslaw10_Back.f bt662.1 bt662.2.1 bt662.2.2.1 bt662.2.2.2.1 bt662.2.2.2.2.1 bt662.2.2.2.2.2.1 bt662.2.2.2.2.2.2.1 bt662.2.2.2.2.2.2.2.1).bind fun bt673 => ((engrossref10_Eq.f bt673.1 bt673.2.1 bt673.2.2.1 bt673.2.2.2.1 bt673.2.2.2.2.1 bt673.2.2.2.2.2.1 bt673.2.2.2.2.2.2.1 bt673.2.2.2.2.2.2.2 t612 t613 t614 t615 t616 t617 t618 t619).bind fun t681 => (engrosslaw10_CellBytes.j0 k t628 t646 (!t681) t612 t613 t614 t615 t616 t617 t618 t619 t620 t621 t622 t623 t624 t625 t626 t627))) else (none)) else (none))) else (none))) else (none))) else (none)) else (none)) else (none)) else (none)))) = some r := H
    have A14 := Aside0.mk A140
    clear A140
    replace H := Option.bind_eq_some_iff.mp H
    obtain ⟨t646, A150, H⟩ := H
    replace H : ((engrossref10_Bytes.f k t612 t613 t614 t615 t616 t617 t618 t619).bind fun t649 => (if (strOfNums t628).size + (strOfNums t649).size ≤ 9223372036854775807 then (if (strOfNums t646).toList = ((strOfNums t628) ++ (strOfNums t649)).toList then (if 0 ≤ (t628.length : Int) then (if (t628.length : Int) ≤ (t646.length : Int) then ((some (t646.drop ((t628.length : Int) : Int).toNat : List Int)).bind fun y652 => (if ([] : List Int).length + y652.length < 140737488355328 then ((some (([] : List Int) ++ y652 : List Int)).bind fun y656 => (if y656.length + t631.length < 140737488355328 then ((cell_Get.f k (y656 ++ t631)).bind fun bt662 => (if bt662.2.2.2.2.2.2.2.2.2 = 0 then (if bt662.2.2.2.2.2.2.2.2.1 = (wrap64 ((t646.length : Int) - (t628.length : Int))) then ((engrosslaw10_Back.f bt662.1 bt662.2.1 bt662.2.2.1 bt662.2.2.2.1 bt662.2.2.2.2.1 bt662.2.2.2.2.2.1 bt662.2.2.2.2.2.2.1 bt662.2.2.2.2.2.2.2.1).bind fun bt673 => ((engrossref10_Eq.f bt673.1 bt673.2.1 bt673.2.2.1 bt673.2.2.2.1 bt673.2.2.2.2.1 bt673.2.2.2.2.2.1 bt673.2.2.2.2.2.2.1 bt673.2.2.2.2.2.2.2 t612 t613 t614 t615 t616 t617 t618 t619).bind fun t681 => (engrosslaw10_CellBytes.j0 k t628 t646 (!t681) t612 t613 t614 t615 t616 t617 t618 t619 t620 t621 t622 t623 t624 t625 t626 t627))) else (none)) else (none))) else (none))) else (none))) else (none)) else (none)) else (none)) else (none))) = some r := H
    have A15 := Aside0.mk A150
    clear A150
    replace H := Option.bind_eq_some_iff.mp H
    obtain ⟨t649, A160, H⟩ := H
    replace H : (if (strOfNums t628).size + (strOfNums t649).size ≤ 9223372036854775807 then (if (strOfNums t646).toList = ((strOfNums t628) ++ (strOfNums t649)).toList then (if 0 ≤ (t628.length : Int) then (if (t628.length : Int) ≤ (t646.length : Int) then ((some (t646.drop ((t628.length : Int) : Int).toNat : List Int)).bind fun y652 => (if ([] : List Int).length + y652.length < 140737488355328 then ((some (([] : List Int) ++ y652 : List Int)).bind fun y656 => (if y656.length + t631.length < 140737488355328 then ((cell_Get.f k (y656 ++ t631)).bind fun bt662 => (if bt662.2.2.2.2.2.2.2.2.2 = 0 then (if bt662.2.2.2.2.2.2.2.2.1 = (wrap64 ((t646.length : Int) - (t628.length : Int))) then ((engrosslaw10_Back.f bt662.1 bt662.2.1 bt662.2.2.1 bt662.2.2.2.1 bt662.2.2.2.2.1 bt662.2.2.2.2.2.1 bt662.2.2.2.2.2.2.1 bt662.2.2.2.2.2.2.2.1).bind fun bt673 => ((engrossref10_Eq.f bt673.1 bt673.2.1 bt673.2.2.1 bt673.2.2.2.1 bt673.2.2.2.2.1 bt673.2.2.2.2.2.1 bt673.2.2.2.2.2.2.1 bt673.2.2.2.2.2.2.2 t612 t613 t614 t615 t616 t617 t618 t619).bind fun t681 => (engrosslaw10_CellBytes.j0 k t628 t646 (!t681) t612 t613 t614 t615 t616 t617 t618 t619 t620 t621 t622 t623 t624 t625 t626 t627))) else (none)) else (none))) else (none))) else (none))) else (none)) else (none)) else (none)) else (none)) = some r := H
    have A16 := Aside0.mk A160
    clear A160
    by_cases c17 : (strOfNums t628).size + (strOfNums t649).size ≤ 9223372036854775807
    ·rw [if_pos c17] at H
     have c17b0 := eq_true c17
     have c17b1 : decide ((strOfNums t628).size + (strOfNums t649).size ≤ 9223372036854775807) = true := decide_eq_true c17
     try have c17b2 : (9223372036854775807 < (strOfNums t628).size + (strOfNums t649).size) = False := eq_false (Nat.not_lt.2 c17)
     by_cases c18 : (strOfNums t646).toList = ((strOfNums t628) ++ (strOfNums t649)).toList
     ·rw [if_pos c18] at H
      have c18b0 : ((strOfNums t646).toList == ((strOfNums t628) ++ (strOfNums t649)).toList) = true := beq_iff_eq.mpr c18
      have c18b1 : ((strOfNums t646).toList != ((strOfNums t628) ++ (strOfNums t649)).toList) = false := bne_eq_false_iff_eq.mpr c18
      clear c18
      by_cases c19 : 0 ≤ (t628.length : Int)
      ·rw [if_pos c19] at H
       have c19b0 := eq_true c19
       have c19b1 : decide (0 ≤ (t628.length : Int)) = true := decide_eq_true c19
       clear c19
       by_cases c20 : (t628.length : Int) ≤ (t646.length : Int)
       ·rw [if_pos c20] at H
        have c20b0 := eq_true c20
        have c20b1 : decide ((t628.length : Int) ≤ (t646.length : Int)) = true := decide_eq_true c20
        clear c20
        obtain ⟨y652, hy652⟩ : ∃ y_ : List Int, y_ = (t646.drop ((t628.length : Int) : Int).toNat) := ⟨_, rfl⟩
        replace H : (if ([] : List Int).length + y652.length < 140737488355328 then ((some (([] : List Int) ++ y652 : List Int)).bind fun y656 => (if y656.length + t631.length < 140737488355328 then ((cell_Get.f k (y656 ++ t631)).bind fun bt662 => (if bt662.2.2.2.2.2.2.2.2.2 = 0 then (if bt662.2.2.2.2.2.2.2.2.1 = (wrap64 ((t646.length : Int) - (t628.length : Int))) then ((engrosslaw10_Back.f bt662.1 bt662.2.1 bt662.2.2.1 bt662.2.2.2.1 bt662.2.2.2.2.1 bt662.2.2.2.2.2.1 bt662.2.2.2.2.2.2.1 bt662.2.2.2.2.2.2.2.1).bind fun bt673 => ((engrossref10_Eq.f bt673.1 bt673.2.1 bt673.2.2.1 bt673.2.2.2.1 bt673.2.2.2.2.1 bt673.2.2.2.2.2.1 bt673.2.2.2.2.2.2.1 bt673.2.2.2.2.2.2.2 t612 t613 t614 t615 t616 t617 t618 t619).bind fun t681 => (engrosslaw10_CellBytes.j0 k t628 t646 (!t681) t612 t613 t614 t615 t616 t617 t618 t619 t620 t621 t622 t623 t624 t625 t626 t627))) else (none)) else (none))) else (none))) else (none)) = some r := by first | (rw [hy652]; with_reducible exact H) | (have H2_ := (Option.bind_some _ _).symm.trans H; rw [hy652]; with_reducible exact H2_) | (have H2_ := (Option.bind_some _ _).symm.trans H; with_reducible exact H2_) | with_reducible exact H | (rw [hy652]; exact H) | exact H
        have Ny652 := Aside0.mk hy652
        clear hy652
        by_cases c21 : ([] : List Int).length + y652.length < 140737488355328
        ·rw [if_pos c21] at H
         have LMc21 := Aside0.mk c21
         clear c21
         obtain ⟨y656, hy656⟩ : ∃ y_ : List Int, y_ = (([] : List Int) ++ y652) := ⟨_, rfl⟩
         replace H : (if y656.length + t631.length < 140737488355328 then ((cell_Get.f k (y656 ++ t631)).bind fun bt662 => (if bt662.2.2.2.2.2.2.2.2.2 = 0 then (if bt662.2.2.2.2.2.2.2.2.1 = (wrap64 ((t646.length : Int) - (t628.length : Int))) then ((engrosslaw10_Back.f bt662.1 bt662.2.1 bt662.2.2.1 bt662.2.2.2.1 bt662.2.2.2.2.1 bt662.2.2.2.2.2.1 bt662.2.2.2.2.2.2.1 bt662.2.2.2.2.2.2.2.1).bind fun bt673 => ((engrossref10_Eq.f bt673.1 bt673.2.1 bt673.2.2.1 bt673.2.2.2.1 bt673.2.2.2.2.1 bt673.2.2.2.2.2.1 bt673.2.2.2.2.2.2.1 bt673.2.2.2.2.2.2.2 t612 t613 t614 t615 t616 t617 t618 t619).bind fun t681 => (engrosslaw10_CellBytes.j0 k t628 t646 (!t681) t612 t613 t614 t615 t616 t617 t618 t619 t620 t621 t622 t623 t624 t625 t626 t627))) else (none)) else (none))) else (none)) = some r := by first | (rw [hy656]; with_reducible exact H) | (have H2_ := (Option.bind_some _ _).symm.trans H; rw [hy656]; with_reducible exact H2_) | (have H2_ := (Option.bind_some _ _).symm.trans H; with_reducible exact H2_) | with_reducible exact H | (rw [hy656]; exact H) | exact H
         have Ny656 := Aside0.mk hy656
         clear hy656
         by_cases c22 : y656.length + t631.length < 140737488355328
         ·rw [if_pos c22] at H
          have LMc22 := Aside0.mk c22
          clear c22
          obtain ⟨y659, hy659⟩ : ∃ y_ : List Int, y_ = (y656 ++ t631) := ⟨_, rfl⟩
          replace H : ((cell_Get.f k y659).bind fun bt662 => (if bt662.2.2.2.2.2.2.2.2.2 = 0 then (if bt662.2.2.2.2.2.2.2.2.1 = (wrap64 ((t646.length : Int) - (t628.length : Int))) then ((engrosslaw10_Back.f bt662.1 bt662.2.1 bt662.2.2.1 bt662.2.2.2.1 bt662.2.2.2.2.1 bt662.2.2.2.2.2.1 bt662.2.2.2.2.2.2.1 bt662.2.2.2.2.2.2.2.1).bind fun bt673 => ((engrossref10_Eq.f bt673.1 bt673.2.1 bt673.2.2.1 bt673.2.2.2.1 bt673.2.2.2.2.1 bt673.2.2.2.2.2.1 bt673.2.2.2.2.2.2.1 bt673.2.2.2.2.2.2.2 t612 t613 t614 t615 t616 t617 t618 t619).bind fun t681 => (engrosslaw10_CellBytes.j0 k t628 t646 (!t681) t612 t613 t614 t615 t616 t617 t618 t619 t620 t621 t622 t623 t624 t625 t626 t627))) else (none)) else (none))) = some r := by first | (rw [hy659]; with_reducible exact H) | (have H2_ := (Option.bind_some _ _).symm.trans H; rw [hy659]; with_reducible exact H2_) | (have H2_ := (Option.bind_some _ _).symm.trans H; with_reducible exact H2_) | with_reducible exact H | (rw [hy659]; exact H) | exact H
          have Ny659 := Aside0.mk hy659
          clear hy659
          replace H := Option.bind_eq_some_iff.mp H
          obtain ⟨⟨t662, t663, t664, t665, t666, t667, t668, t669, t670, t671⟩, A230, H⟩ := H
          replace H : (if t671 = 0 then (if t670 = (wrap64 ((t646.length : Int) - (t628.length : Int))) then ((engrosslaw10_Back.f t662 t663 t664 t665 t666 t667 t668 t669).bind fun bt673 => ((engrossref10_Eq.f bt673.1 bt673.2.1 bt673.2.2.1 bt673.2.2.2.1 bt673.2.2.2.2.1 bt673.2.2.2.2.2.1 bt673.2.2.2.2.2.2.1 bt673.2.2.2.2.2.2.2 t612 t613 t614 t615 t616 t617 t618 t619).bind fun t681 => (engrosslaw10_CellBytes.j0 k t628 t646 (!t681) t612 t613 t614 t615 t616 t617 t618 t619 t620 t621 t622 t623 t624 t625 t626 t627))) else (none)) else (none)) = some r := H
          have A23 := Aside0.mk A230
          clear A230
          have HC24 := Aside0.mk H
          clear H
          go_enter Try.func4, Try.ntmps4
          try go_wp2_with (first | ((with_reducible refine gate_dst (N := 4) rfl ?_); (try (refine gate_guard (by rfl) ?_; dsimp only)); refine box_event ?hg (N := 4) ?hd (cs := #[.string a0_0, .int .i64 a0_1, .float .f64 a0_2, .string a0_3, .int .i64 a0_4, .int .i64 a0_5, .float .f64 a0_6, .string a0_7]) (t := 26) ?hr ?_; (case hd => rfl); (case hg => rfl); (case hr => first | (go_simp; done) | (go_simp; rfl)); intro gb609 hg w25 hbox hb; have BK609 := Aside0.mk (hbox); have GW609 := bZ HB hg; have GE609 := bZ HB hg; replace HB := bW HB hb; clear hb hbox hg) | ((with_reducible refine gate_dst (N := 5) rfl ?_); (try (refine gate_guard (by rfl) ?_; dsimp only)); refine box_event ?hg (N := 5) ?hd (cs := #[.string a1_0, .int .i64 a1_1, .float .f64 a1_2, .string a1_3, .int .i64 a1_4, .int .i64 a1_5, .float .f64 a1_6, .string a1_7]) (t := 26) ?hr ?_; (case hd => rfl); (case hg => rfl); (case hr => first | (go_simp; done) | (go_simp; rfl)); intro gb610 hg w26 hbox hb; have BK610 := Aside0.mk (hbox); have GW610 := bZ HB hg; have GE610 := bZ HB hg; have NB609_610 := bL BK609 hg; have NB610_609 := bG BK609 hg; replace BK609 := bB BK609 hb; replace HB := bW HB hb; clear hb hbox hg) | ((with_reducible refine gate_callee (f := 10) rfl ?_); refine goesL_ (some 14) rfl rfl Try.func10 (by kernel_rfl) rfl #[] rfl (by (try simp only [List.map_toArray, List.map_cons, List.map_nil]); first | done | rfl | (simp only [List.length_drop, List.length_take]; rfl)) ?_; (with_reducible refine (engrosslaw10_begun.calls k  true _ A5.out).mono ?_); rintro e w27 ⟨rfl, hb⟩; refine ⟨_, rfl, ?_⟩; replace BK609 := bB BK609 hb; replace BK610 := bB BK610 hb; replace HB := bW HB hb; (try clear hb); (try clear hb2); (try clear hk); (try clear hi)))
          replace BK609 := Aside0.mk (blk_drew BK609.out)
          replace BK610 := Aside0.mk (blk_drew BK610.out)
          replace HB := Aside0.mk (below_drew1 HB.out)
          refine start_ (n := 12) (S := fun w' => w'.cell? ⟨gb609, 0, none⟩ = some (.string a0_0) ∧ w'.cell? ⟨gb609, 1, none⟩ = some (.int .i64 a0_1) ∧ w'.cell? ⟨gb609, 2, none⟩ = some (.float .f64 a0_2) ∧ w'.cell? ⟨gb609, 3, none⟩ = some (.string a0_3) ∧ w'.cell? ⟨gb609, 4, none⟩ = some (.int .i64 a0_4) ∧ w'.cell? ⟨gb609, 5, none⟩ = some (.int .i64 a0_5) ∧ w'.cell? ⟨gb609, 6, none⟩ = some (.float .f64 a0_6) ∧ w'.cell? ⟨gb609, 7, none⟩ = some (.string a0_7) ∧ w'.cell? ⟨gb610, 0, none⟩ = some (.string a1_0) ∧ w'.cell? ⟨gb610, 1, none⟩ = some (.int .i64 a1_1) ∧ w'.cell? ⟨gb610, 2, none⟩ = some (.float .f64 a1_2) ∧ w'.cell? ⟨gb610, 3, none⟩ = some (.string a1_3) ∧ w'.cell? ⟨gb610, 4, none⟩ = some (.int .i64 a1_4) ∧ w'.cell? ⟨gb610, 5, none⟩ = some (.int .i64 a1_5) ∧ w'.cell? ⟨gb610, 6, none⟩ = some (.float .f64 a1_6) ∧ w'.cell? ⟨gb610, 7, none⟩ = some (.string a1_7)) (ds := [8, 9]) #[false, false, false, false, false, false, false, false, false, false, false, false] (by kernel_rfl) rfl rfl (bn8 BK609 (be8 BK610)) (fun hHeld => ?_); refine with_tabW engrosslaw10_CellBytes.tab4 engrosslaw10_CellBytes.bits4 (fun HT_ HW_ => ?_)
          generalize w27.drew = w28 at BK609 BK610 HB hHeld ⊢
          refine pure_ (i := 4) (N := some 21) (v := ?_) (a' := ?_) #[false, false, false, false, true, false, false, false, false, false, false, false] rfl rfl (any_of HT_.out (by kernel_rfl)) (fun _ _ _ h => h) (Or.inl ⟨by rfl, ?_⟩) ?_ ?_
          rotate_left
          ·intro w'
           go_simp
           with_reducible rfl
          rotate_left
          ·simp only [Act.put, List.setIfInBounds_toArray, List.set_cons_zero, List.set_cons_succ, i64_w, i32_w]
           rfl
          refine pure_ (i := 6) (N := some 23) (v := ?_) (a' := ?_) #[false, false, false, false, true, false, true, false, false, false, false, false] rfl rfl (any_of HT_.out (by kernel_rfl)) (fun _ _ _ h => h) (Or.inl ⟨by rfl, ?_⟩) ?_ ?_
          rotate_left
          ·intro w'
           go_simp
           with_reducible rfl
          rotate_left
          ·simp only [Act.put, List.setIfInBounds_toArray, List.set_cons_zero, List.set_cons_succ, i64_w, i32_w]
           rfl
          refine take_ (i := 0) (N := some 17) (v := ?_) (a' := ?_) #[true, false, false, false, true, false, true, false, false, false, false, false] rfl rfl (take_ofW HT_.out HW_.out (by kernel_rfl)) (fun _ _ _ h => h) (Or.inl ⟨by rfl, ?_⟩) hHeld ?_ ?_
          rotate_left
          ·rintro w' ⟨s0, s1, s2, s3, s4, s5, s6, s7, s8, s9, s10, s11, s12, s13, s14, s15⟩
           go_simp
           with_reducible rfl
          rotate_left
          ·simp only [Act.put, List.setIfInBounds_toArray, List.set_cons_zero, List.set_cons_succ, i64_w, i32_w]
           rfl
          refine take_ (i := 2) (N := some 19) (v := ?_) (a' := ?_) #[true, false, true, false, true, false, true, false, false, false, false, false] rfl rfl (take_ofW HT_.out HW_.out (by kernel_rfl)) (fun _ _ _ h => h) (Or.inl ⟨by rfl, ?_⟩) hHeld ?_ ?_
          rotate_left
          ·rintro w' ⟨s0, s1, s2, s3, s4, s5, s6, s7, s8, s9, s10, s11, s12, s13, s14, s15⟩
           go_simp
           with_reducible rfl
          rotate_left
          ·simp only [Act.put, List.setIfInBounds_toArray, List.set_cons_zero, List.set_cons_succ, i64_w, i32_w]
           rfl
          refine one_ (i := 1) (N := some 18) #[true, true, true, false, true, false, true, false, false, false, false, false] rfl rfl (one_of HT_.out (by kernel_rfl)) (by decide) (fun K hK => ?_)
          refine goes_ Try.func11 (by kernel_rfl) rfl #[.agg #[.string a0_0, .int .i64 a0_1, .float .f64 a0_2, .string a0_3, .int .i64 a0_4, .int .i64 a0_5, .float .f64 a0_6, .string a0_7]] (by rfl) rfl rfl (by (try simp only [List.map_toArray, List.map_cons, List.map_nil]); first | done | rfl | (simp only [List.length_drop, List.length_take]; rfl)) ?_
          with_reducible refine (engrosslaw10_Cut.calls a0_0 a0_1 a0_2 a0_3 a0_4 a0_5 a0_6 a0_7 t612 t613 t614 t615 t616 t617 t618 t619 _ A7.out).mono ?_
          rintro e w29 ⟨rfl, hb⟩
          refine ⟨_, rfl, ?_⟩
          replace BK609 := bB BK609 hb
          replace BK610 := bB BK610 hb
          replace HB := bW HB hb
          (try clear hb)
          (try clear hb2)
          (try clear hk)
          (try clear hi)
          refine hK.out _ _ (bn8 BK609 (be8 BK610)) (fun hHeld => ?_)
          clear hK K
          refine norm_ (a' := ?_) ?_ ?_
          rotate_left
          ·show Act.put _ (some 18) _ = _
           simp only [Act.put, List.setIfInBounds_toArray, List.set_cons_zero, List.set_cons_succ, i64_w, i32_w]
           rfl
          refine one_ (i := 3) (N := some 20) #[true, true, true, true, true, false, true, false, false, false, false, false] rfl rfl (one_of HT_.out (by kernel_rfl)) (by decide) (fun K hK => ?_)
          refine goes_ Try.func11 (by kernel_rfl) rfl #[.agg #[.string a1_0, .int .i64 a1_1, .float .f64 a1_2, .string a1_3, .int .i64 a1_4, .int .i64 a1_5, .float .f64 a1_6, .string a1_7]] (by rfl) rfl rfl (by (try simp only [List.map_toArray, List.map_cons, List.map_nil]); first | done | rfl | (simp only [List.length_drop, List.length_take]; rfl)) ?_
          with_reducible refine (engrosslaw10_Cut.calls a1_0 a1_1 a1_2 a1_3 a1_4 a1_5 a1_6 a1_7 t620 t621 t622 t623 t624 t625 t626 t627 _ A8.out).mono ?_
          rintro e w30 ⟨rfl, hb⟩
          refine ⟨_, rfl, ?_⟩
          replace BK609 := bB BK609 hb
          replace BK610 := bB BK610 hb
          replace HB := bW HB hb
          (try clear hb)
          (try clear hb2)
          (try clear hk)
          (try clear hi)
          refine hK.out _ _ (bn8 BK609 (be8 BK610)) (fun hHeld => ?_)
          clear hK K
          refine norm_ (a' := ?_) ?_ ?_
          rotate_left
          ·show Act.put _ (some 20) _ = _
           simp only [Act.put, List.setIfInBounds_toArray, List.set_cons_zero, List.set_cons_succ, i64_w, i32_w]
           rfl
          refine one_ (i := 5) (N := some 22) #[true, true, true, true, true, true, true, false, false, false, false, false] rfl rfl (one_of HT_.out (by kernel_rfl)) (by decide) (fun K hK => ?_)
          refine goes_ Try.func28 (by kernel_rfl) rfl #[.slice A2 l2.length c2, .int .i64 10] (by rfl) rfl rfl (by (try simp only [List.map_toArray, List.map_cons, List.map_nil]); first | done | rfl | (simp only [List.length_drop, List.length_take]; rfl)) ?_
          with_reducible refine (engrosslaw1_Short.calls (fun k_ => k_ < w.heap.size) _ _ l2 10 t628 _ ?side1 A9.out).mono ?_
          (case side1 => exact Kd.V_mk HC2.out (Kd.F_below (Kd.C_F (Kd.heap_int .u8) HR2.out) (bC HB)))
          rintro e w31 ⟨v629, rfl, ho0, hb⟩
          refine ⟨_, rfl, ?_⟩
          have HO630 := Aside0.mk (Kd.V_lower (Kd.V_mono (ok' := fun k_ => k_ ≠ gb609 ∧ k_ ≠ gb610) ho0 (fun k_ hk_ => ⟨Or.elim hk_ (fun hs_ => fun e_ => Nat.not_le.2 hs_ (by rw [e_]; exact GW609.out)) (fun hn_ => (Kd.freshB (bQ BK609) k_ hn_)), Or.elim hk_ (fun hs_ => fun e_ => Nat.not_le.2 hs_ (by rw [e_]; exact GW610.out)) (fun hn_ => (Kd.freshB (bQ BK610) k_ hn_))⟩)) (below_size (bC HB)))
          replace BK609 := bB BK609 hb
          replace BK610 := bB BK610 hb
          replace HB := bW HB hb
          (try clear hb)
          (try clear hb2)
          (try clear hk)
          (try clear hi)
          (try clear ho0)
          refine hK.out _ _ (bn8 BK609 (be8 BK610)) (fun hHeld => ?_)
          clear hK K
          refine norm_ (a' := ?_) ?_ ?_
          rotate_left
          ·show Act.put _ (some 22) _ = _
           simp only [Act.put, List.setIfInBounds_toArray, List.set_cons_zero, List.set_cons_succ, i64_w, i32_w]
           rfl
          refine one_ (i := 7) (N := some 24) #[true, true, true, true, true, true, true, true, false, false, false, false] rfl rfl (one_of HT_.out (by kernel_rfl)) (by decide) (fun K hK => ?_)
          refine goes_ Try.func28 (by kernel_rfl) rfl #[.slice A3 l3.length c3, .int .i64 10] (by rfl) rfl rfl (by (try simp only [List.map_toArray, List.map_cons, List.map_nil]); first | done | rfl | (simp only [List.length_drop, List.length_take]; rfl)) ?_
          with_reducible refine (engrosslaw1_Short.calls (fun k_ => k_ < w.heap.size) _ _ l3 10 t631 _ ?side1 A10.out).mono ?_
          (case side1 => exact Kd.V_mk HC3.out (Kd.F_below (Kd.C_F (Kd.heap_int .u8) HR3.out) (bC HB)))
          rintro e w32 ⟨v632, rfl, ho0, hb⟩
          refine ⟨_, rfl, ?_⟩
          have HO633 := Aside0.mk (Kd.V_lower (Kd.V_mono (ok' := fun k_ => k_ ≠ gb609 ∧ k_ ≠ gb610) ho0 (fun k_ hk_ => ⟨Or.elim hk_ (fun hs_ => fun e_ => Nat.not_le.2 hs_ (by rw [e_]; exact GW609.out)) (fun hn_ => (Kd.freshB (bQ BK609) k_ hn_)), Or.elim hk_ (fun hs_ => fun e_ => Nat.not_le.2 hs_ (by rw [e_]; exact GW610.out)) (fun hn_ => (Kd.freshB (bQ BK610) k_ hn_))⟩)) (below_size (bC HB)))
          replace HO630 := Aside0.mk (Kd.V_below (by (with_reducible repeat (first | apply Kd.V_alloc | apply Kd.V_drewN | apply Kd.V_drew)); exact HO630.out) hb)
          replace BK609 := bB BK609 hb
          replace BK610 := bB BK610 hb
          replace HB := bW HB hb
          (try clear hb)
          (try clear hb2)
          (try clear hk)
          (try clear hi)
          (try clear ho0)
          refine hK.out _ _ (bn8 BK609 (be8 BK610)) (fun hHeld => ?_)
          clear hK K
          refine norm_ (a' := ?_) ?_ ?_
          rotate_left
          ·show Act.put _ (some 24) _ = _
           simp only [Act.put, List.setIfInBounds_toArray, List.set_cons_zero, List.set_cons_succ, i64_w, i32_w]
           rfl
          refine last_ (i := 8) (N := none) #[true, true, true, true, true, true, true, true, true, false, false, false] rfl rfl (one_of HT_.out (by kernel_rfl)) (by decide) (fun K hK => ?_)
          have hs33 : w32.cell? ⟨gb609, 0, none⟩ = some (.string a0_0) := (blk_cell BK609.out 0).trans rfl
          have hfs33 := blk_frozen BK609.out 0
          have hns33_1 := NB610_609.out
          have hms33_1 := NB609_610.out
          have hs34 : w32.cell? ⟨gb609, 1, none⟩ = some (.int .i64 a0_1) := (blk_cell BK609.out 1).trans rfl
          have hfs34 := blk_frozen BK609.out 1
          have hns34_1 := NB610_609.out
          have hms34_1 := NB609_610.out
          have hs35 : w32.cell? ⟨gb609, 2, none⟩ = some (.float .f64 a0_2) := (blk_cell BK609.out 2).trans rfl
          have hfs35 := blk_frozen BK609.out 2
          have hns35_1 := NB610_609.out
          have hms35_1 := NB609_610.out
          have hs36 : w32.cell? ⟨gb609, 3, none⟩ = some (.string a0_3) := (blk_cell BK609.out 3).trans rfl
          have hfs36 := blk_frozen BK609.out 3
          have hns36_1 := NB610_609.out
          have hms36_1 := NB609_610.out
          have hs37 : w32.cell? ⟨gb609, 4, none⟩ = some (.int .i64 a0_4) := (blk_cell BK609.out 4).trans rfl
          have hfs37 := blk_frozen BK609.out 4
          have hns37_1 := NB610_609.out
          have hms37_1 := NB609_610.out
          have hs38 : w32.cell? ⟨gb609, 5, none⟩ = some (.int .i64 a0_5) := (blk_cell BK609.out 5).trans rfl
          have hfs38 := blk_frozen BK609.out 5
          have hns38_1 := NB610_609.out
          have hms38_1 := NB609_610.out
          have hs39 : w32.cell? ⟨gb609, 6, none⟩ = some (.float .f64 a0_6) := (blk_cell BK609.out 6).trans rfl
          have hfs39 := blk_frozen BK609.out 6
          have hns39_1 := NB610_609.out
          have hms39_1 := NB609_610.out
          have hs40 : w32.cell? ⟨gb609, 7, none⟩ = some (.string a0_7) := (blk_cell BK609.out 7).trans rfl
          have hfs40 := blk_frozen BK609.out 7
          have hns40_1 := NB610_609.out
          have hms40_1 := NB609_610.out
          with_reducible refine skip_ (w1 := ?_) (by with_unfolding_all rfl) (by with_unfolding_all rfl) ?_ ?_
          rotate_left
          ·go_simp
           rfl
          refine hK.out _ _ ?_
          clear hK K
          refine last_ (i := 9) (N := none) #[true, true, true, true, true, true, true, true, true, true, false, false] rfl rfl (one_of HT_.out (by kernel_rfl)) (by decide) (fun K hK => ?_)
          have hs41 : w32.cell? ⟨gb610, 0, none⟩ = some (.string a1_0) := (blk_cell BK610.out 0).trans rfl
          have hfs41 := blk_frozen BK610.out 0
          have hns41_0 := NB609_610.out
          have hms41_0 := NB610_609.out
          have hs42 : w32.cell? ⟨gb610, 1, none⟩ = some (.int .i64 a1_1) := (blk_cell BK610.out 1).trans rfl
          have hfs42 := blk_frozen BK610.out 1
          have hns42_0 := NB609_610.out
          have hms42_0 := NB610_609.out
          have hs43 : w32.cell? ⟨gb610, 2, none⟩ = some (.float .f64 a1_2) := (blk_cell BK610.out 2).trans rfl
          have hfs43 := blk_frozen BK610.out 2
          have hns43_0 := NB609_610.out
          have hms43_0 := NB610_609.out
          have hs44 : w32.cell? ⟨gb610, 3, none⟩ = some (.string a1_3) := (blk_cell BK610.out 3).trans rfl
          have hfs44 := blk_frozen BK610.out 3
          have hns44_0 := NB609_610.out
          have hms44_0 := NB610_609.out
          have hs45 : w32.cell? ⟨gb610, 4, none⟩ = some (.int .i64 a1_4) := (blk_cell BK610.out 4).trans rfl
          have hfs45 := blk_frozen BK610.out 4
          have hns45_0 := NB609_610.out
          have hms45_0 := NB610_609.out
          have hs46 : w32.cell? ⟨gb610, 5, none⟩ = some (.int .i64 a1_5) := (blk_cell BK610.out 5).trans rfl
          have hfs46 := blk_frozen BK610.out 5
          have hns46_0 := NB609_610.out
          have hms46_0 := NB610_609.out
          have hs47 : w32.cell? ⟨gb610, 6, none⟩ = some (.float .f64 a1_6) := (blk_cell BK610.out 6).trans rfl
          have hfs47 := blk_frozen BK610.out 6
          have hns47_0 := NB609_610.out
          have hms47_0 := NB610_609.out
          have hs48 : w32.cell? ⟨gb610, 7, none⟩ = some (.string a1_7) := (blk_cell BK610.out 7).trans rfl
          have hfs48 := blk_frozen BK610.out 7
          have hns48_0 := NB609_610.out
          have hms48_0 := NB610_609.out
          with_reducible refine skip_ (w1 := ?_) (by with_unfolding_all rfl) (by with_unfolding_all rfl) ?_ ?_
          rotate_left
          ·go_simp
           rfl
          refine hK.out _ _ ?_
          clear hK K
          refine pure_ (i := 10) (N := some 2) (v := ?_) (a' := ?_) #[true, true, true, true, true, true, true, true, true, true, true, false] rfl rfl (any_of HT_.out (by kernel_rfl)) (fun _ _ _ h => h) (Or.inl ⟨by rfl, ?_⟩) ?_ ?_
          rotate_left
          ·intro w'
           go_simp
           with_reducible rfl
          rotate_left
          ·simp only [Act.put, List.setIfInBounds_toArray, List.set_cons_zero, List.set_cons_succ, i64_w, i32_w]
           rfl
          refine pure_ (i := 11) (N := some 3) (v := ?_) (a' := ?_) #[true, true, true, true, true, true, true, true, true, true, true, true] rfl rfl (any_of HT_.out (by kernel_rfl)) (fun _ _ _ h => h) (Or.inl ⟨by rfl, ?_⟩) ?_ ?_
          rotate_left
          ·intro w'
           go_simp
           with_reducible rfl
          rotate_left
          ·simp only [Act.put, List.setIfInBounds_toArray, List.set_cons_zero, List.set_cons_succ, i64_w, i32_w]
           rfl
          refine done_ (done_of HT_.out (by kernel_rfl)) ?_
          have hnb49 := NB609_610.out
          have hnc49 := NB610_609.out
          obtain ⟨hcz50_0, hcz50_1, hcz50_2, hcz50_3, hcz50_4, hcz50_5, hcz50_6, hcz50_7, hfz50_0, hfz50_1, hfz50_2, hfz50_3, hfz50_4, hfz50_5, hfz50_6, hfz50_7⟩ := bf8 (w := w32) BK609
          try go_wp2_with (first | ((with_reducible refine gate_callee (f := 15) rfl ?_); refine goesL_ (some 26) rfl rfl Try.func15 (by kernel_rfl) rfl #[.agg #[.string t612, .int .i64 t613, .float .f64 t614, .string t615, .int .i64 t616, .int .i64 t617, .float .f64 t618, .string t619]] rfl (by (try simp only [List.map_toArray, List.map_cons, List.map_nil]); first | done | rfl | (simp only [List.length_drop, List.length_take]; rfl)) ?_; (with_reducible refine (engrossref10_May.calls t612 t613 t614 t615 t616 t617 t618 t619 true _ A11.out).mono ?_); rintro e w51 ⟨rfl, hb⟩; refine ⟨_, rfl, ?_⟩; replace HO630 := Aside0.mk (Kd.V_below (by (with_reducible repeat (first | apply Kd.V_alloc | apply Kd.V_drewN | apply Kd.V_drew)); exact (Kd.V_mono (Kd.V_mono (Kd.V_far (p := ⟨gb610, 7, none⟩) (Kd.V_far (p := ⟨gb610, 6, none⟩) (Kd.V_far (p := ⟨gb610, 5, none⟩) (Kd.V_far (p := ⟨gb610, 4, none⟩) (Kd.V_far (p := ⟨gb610, 3, none⟩) (Kd.V_far (p := ⟨gb610, 2, none⟩) (Kd.V_far (p := ⟨gb610, 1, none⟩) (Kd.V_far (p := ⟨gb610, 0, none⟩) (Kd.V_far (p := ⟨gb609, 7, none⟩) (Kd.V_far (p := ⟨gb609, 6, none⟩) (Kd.V_far (p := ⟨gb609, 5, none⟩) (Kd.V_far (p := ⟨gb609, 4, none⟩) (Kd.V_far (p := ⟨gb609, 3, none⟩) (Kd.V_far (p := ⟨gb609, 2, none⟩) (Kd.V_far (p := ⟨gb609, 1, none⟩) (Kd.V_far (p := ⟨gb609, 0, none⟩) (Kd.V_mono (Kd.V_mono HO630.out (fun k_ hk => (⟨hk, hk.1⟩ : _ ∧ k_ ≠ gb609))) (fun k_ hk => (⟨hk, hk.1.2⟩ : _ ∧ k_ ≠ gb610))) (fun _ hk => hk.1.2) (.string t612)) (fun _ hk => hk.1.2) (.int .i64 t613)) (fun _ hk => hk.1.2) (.float .f64 t614)) (fun _ hk => hk.1.2) (.string t615)) (fun _ hk => hk.1.2) (.int .i64 t616)) (fun _ hk => hk.1.2) (.int .i64 t617)) (fun _ hk => hk.1.2) (.float .f64 t618)) (fun _ hk => hk.1.2) (.string t619)) (fun _ hk => hk.2) (.string t620)) (fun _ hk => hk.2) (.int .i64 t621)) (fun _ hk => hk.2) (.float .f64 t622)) (fun _ hk => hk.2) (.string t623)) (fun _ hk => hk.2) (.int .i64 t624)) (fun _ hk => hk.2) (.int .i64 t625)) (fun _ hk => hk.2) (.float .f64 t626)) (fun _ hk => hk.2) (.string t627)) (fun _ h_ => h_.1)) (fun _ h_ => h_.1))) hb); replace HO633 := Aside0.mk (Kd.V_below (by (with_reducible repeat (first | apply Kd.V_alloc | apply Kd.V_drewN | apply Kd.V_drew)); exact (Kd.V_mono (Kd.V_mono (Kd.V_far (p := ⟨gb610, 7, none⟩) (Kd.V_far (p := ⟨gb610, 6, none⟩) (Kd.V_far (p := ⟨gb610, 5, none⟩) (Kd.V_far (p := ⟨gb610, 4, none⟩) (Kd.V_far (p := ⟨gb610, 3, none⟩) (Kd.V_far (p := ⟨gb610, 2, none⟩) (Kd.V_far (p := ⟨gb610, 1, none⟩) (Kd.V_far (p := ⟨gb610, 0, none⟩) (Kd.V_far (p := ⟨gb609, 7, none⟩) (Kd.V_far (p := ⟨gb609, 6, none⟩) (Kd.V_far (p := ⟨gb609, 5, none⟩) (Kd.V_far (p := ⟨gb609, 4, none⟩) (Kd.V_far (p := ⟨gb609, 3, none⟩) (Kd.V_far (p := ⟨gb609, 2, none⟩) (Kd.V_far (p := ⟨gb609, 1, none⟩) (Kd.V_far (p := ⟨gb609, 0, none⟩) (Kd.V_mono (Kd.V_mono HO633.out (fun k_ hk => (⟨hk, hk.1⟩ : _ ∧ k_ ≠ gb609))) (fun k_ hk => (⟨hk, hk.1.2⟩ : _ ∧ k_ ≠ gb610))) (fun _ hk => hk.1.2) (.string t612)) (fun _ hk => hk.1.2) (.int .i64 t613)) (fun _ hk => hk.1.2) (.float .f64 t614)) (fun _ hk => hk.1.2) (.string t615)) (fun _ hk => hk.1.2) (.int .i64 t616)) (fun _ hk => hk.1.2) (.int .i64 t617)) (fun _ hk => hk.1.2) (.float .f64 t618)) (fun _ hk => hk.1.2) (.string t619)) (fun _ hk => hk.2) (.string t620)) (fun _ hk => hk.2) (.int .i64 t621)) (fun _ hk => hk.2) (.float .f64 t622)) (fun _ hk => hk.2) (.string t623)) (fun _ hk => hk.2) (.int .i64 t624)) (fun _ hk => hk.2) (.int .i64 t625)) (fun _ hk => hk.2) (.float .f64 t626)) (fun _ hk => hk.2) (.string t627)) (fun _ h_ => h_.1)) (fun _ h_ => h_.1))) hb); replace BK609 := Aside0.mk (blk_below (g := gb609) (o := .cells #[.string t612, .int .i64 t613, .float .f64 t614, .string t615, .int .i64 t616, .int .i64 t617, .float .f64 t618, .string t619] 26 (0, 0)) (bR BK609) hb); replace BK610 := Aside0.mk (blk_below (g := gb610) (o := .cells #[.string t620, .int .i64 t621, .float .f64 t622, .string t623, .int .i64 t624, .int .i64 t625, .float .f64 t626, .string t627] 26 (0, 0)) (bR BK610) hb); replace HB := bW HB hb; (try clear hb); (try clear hb2); (try clear hk); (try clear hi)))
          replace HO630 := Aside0.mk (Kd.V_drew HO630.out)
          replace HO633 := Aside0.mk (Kd.V_drew HO633.out)
          replace BK609 := Aside0.mk (blk_drew BK609.out)
          replace BK610 := Aside0.mk (blk_drew BK610.out)
          replace HB := Aside0.mk (below_drew1 HB.out)
          obtain ⟨Ao54, co54, eo54⟩ := Kd.V_slice HO630.out
          (first | subst eo54 | (injection eo54 with f1_ f2_ f3_; have f4_ := f1_.symm; have f5_ := f3_.symm; clear f1_ f2_ f3_; subst f4_; subst f5_))
          refine start_ (n := 6) (S := fun w' => w'.cell? ⟨gb609, 0, none⟩ = some (.string t612) ∧ w'.cell? ⟨gb609, 1, none⟩ = some (.int .i64 t613) ∧ w'.cell? ⟨gb609, 2, none⟩ = some (.float .f64 t614) ∧ w'.cell? ⟨gb609, 3, none⟩ = some (.string t615) ∧ w'.cell? ⟨gb609, 4, none⟩ = some (.int .i64 t616) ∧ w'.cell? ⟨gb609, 5, none⟩ = some (.int .i64 t617) ∧ w'.cell? ⟨gb609, 6, none⟩ = some (.float .f64 t618) ∧ w'.cell? ⟨gb609, 7, none⟩ = some (.string t619)) (ds := []) #[false, false, false, false, false, false] (by kernel_rfl) rfl rfl (be8 BK609) (fun hHeld => ?_)
          generalize w51.drew = w52 at HO630 HO633 BK609 BK610 HB hHeld ⊢
          refine pure_ (i := 0) (N := some 28) (v := ?_) (a' := ?_) #[true, false, false, false, false, false] rfl rfl (by kernel_rfl) (fun _ _ _ h => h) (Or.inl ⟨by rfl, ?_⟩) ?_ ?_
          rotate_left
          ·intro w'
           go_simp
           with_reducible rfl
          rotate_left
          ·simp only [Act.put, List.setIfInBounds_toArray, List.set_cons_zero, List.set_cons_succ, i64_w, i32_w]
           rfl
          refine take_ (i := 2) (N := some 30) (v := ?_) (a' := ?_) #[true, false, true, false, false, false] rfl rfl (by kernel_rfl) (fun _ _ _ h => h) (Or.inl ⟨by rfl, ?_⟩) hHeld ?_ ?_
          rotate_left
          ·rintro w' ⟨s0, s1, s2, s3, s4, s5, s6, s7⟩
           go_simp
           with_reducible rfl
          rotate_left
          ·simp only [Act.put, List.setIfInBounds_toArray, List.set_cons_zero, List.set_cons_succ, i64_w, i32_w]
           rfl
          refine one_ (i := 1) (N := some 29) #[true, true, true, false, false, false] rfl rfl (by kernel_rfl) (by decide) (fun K hK => ?_)
          refine Kd.R_append_rows_step (Kd.int .u8) (w0 := w) w.heap.size rfl (.const (.slice none 0 0)) (.tmp 28) 47 5 (.int .u8 0) 1 rfl Try.underlying47 info5 rfl (by decide) (by omega) (.slice none 0 0) ([] : List Int) t628 _ _ _ (fun _ => True) (fun _ => False) rfl rfl ?aO ?aR (fun _ _ h => h) (fun _ h => h.elim) ?aF ?aB ?aS ?aL ?_
          (case aR => repeat (first | exact (Kd.V_reads' HO630.out).2.2 | (with_reducible refine Kd.C_alloc ?_ _) | (with_reducible refine Kd.C_drewN ?_ _) | (with_reducible refine Kd.C_drew ?_)))
          (case aB => exact (bC HB))
          (case aF => exact (fun _ _ => trivial))
          (case aO => exact ((Kd.R_nil _ _ _ _ (fun _ => True))))
          (case aS => exact (below_size (bC HB)))
          (case aL => have := LMc13.out; omega)
          intro v636 w53 ho hb hg hat
          rw [← Ny635.out] at ho
          have HO637 := Aside0.mk (ho)
          replace BK609 := Aside0.mk (blk_grown (bQ BK609) hg (by simp [Value.ownBlock]))
          replace BK610 := Aside0.mk (blk_grown (bQ BK610) hg (by simp [Value.ownBlock]))
          replace HO630 := Aside0.mk (Kd.V_afterv (Kd.V_apart_nil (by (with_reducible repeat (first | apply Kd.V_alloc | apply Kd.V_drewN | apply Kd.V_drew)); exact HO630.out)) hg hat)
          replace HO633 := Aside0.mk (Kd.V_afterv (Kd.V_apart_nil (by (with_reducible repeat (first | apply Kd.V_alloc | apply Kd.V_drewN | apply Kd.V_drew)); exact HO633.out)) hg hat)
          replace HB := Aside0.mk (hb)
          clear ho hb hg hat
          refine hK.out _ _ (be8 BK609) (fun hHeld => ?_)
          clear hK K
          refine norm_ (a' := ?_) ?_ ?_
          rotate_left
          ·show Act.put _ (some 29) _ = _
           simp only [Act.put, List.setIfInBounds_toArray, List.set_cons_zero, List.set_cons_succ, i64_w, i32_w]
           rfl
          refine one_ (i := 3) (N := some 31) #[true, true, true, true, false, false] rfl rfl (by kernel_rfl) (by decide) (fun K hK => ?_)
          refine goes_ Try.func14 (by kernel_rfl) rfl #[.agg #[.string t612, .int .i64 t613, .float .f64 t614, .string t615, .int .i64 t616, .int .i64 t617, .float .f64 t618, .string t619]] (by rfl) rfl rfl (by (try simp only [List.map_toArray, List.map_cons, List.map_nil]); first | done | rfl | (simp only [List.length_drop, List.length_take]; rfl)) ?_
          with_reducible refine (engrosslaw10_Of.calls t612 t613 t614 t615 t616 t617 t618 t619 t638 t639 t640 t641 t642 t643 t644 t645 _ A14.out).mono ?_
          rintro e w55 ⟨rfl, hb⟩
          refine ⟨_, rfl, ?_⟩
          replace HO630 := Aside0.mk (Kd.V_below (by (with_reducible repeat (first | apply Kd.V_alloc | apply Kd.V_drewN | apply Kd.V_drew)); exact HO630.out) hb)
          replace HO633 := Aside0.mk (Kd.V_below (by (with_reducible repeat (first | apply Kd.V_alloc | apply Kd.V_drewN | apply Kd.V_drew)); exact HO633.out) hb)
          replace HO637 := Aside0.mk (Kd.R_below (by (with_reducible repeat (first | apply Kd.R_alloc | apply Kd.R_drewN | apply Kd.R_drew)); exact HO637.out) hb)
          replace BK609 := bB BK609 hb
          replace BK610 := bB BK610 hb
          replace HB := bW HB hb
          (try clear hb)
          (try clear hb2)
          (try clear hk)
          (try clear hi)
          obtain ⟨Ao56, co56, eo56⟩ := Kd.R_slice HO637.out
          (first | subst eo56 | (injection eo56 with f1_ f2_ f3_; have f4_ := f1_.symm; have f5_ := f3_.symm; clear f1_ f2_ f3_; subst f4_; subst f5_))
          refine hK.out _ _ (be8 BK609) (fun hHeld => ?_)
          clear hK K
          refine norm_ (a' := ?_) ?_ ?_
          rotate_left
          ·show Act.put _ (some 31) _ = _
           simp only [Act.put, List.setIfInBounds_toArray, List.set_cons_zero, List.set_cons_succ, i64_w, i32_w]
           rfl
          refine one_ (i := 4) (N := some 32) #[true, true, true, true, true, false] rfl rfl (by kernel_rfl) (by decide) (fun K hK => ?_)
          refine goes_ Try.func29 (by kernel_rfl) rfl #[.slice Ao56 y635.length co56, .agg #[.string t638, .int .i64 t639, .float .f64 t640, .string t641, .int .i64 t642, .int .i64 t643, .float .f64 t644, .string t645]] (by rfl) rfl rfl (by (try simp only [List.map_toArray, List.map_cons, List.map_nil]); first | done | rfl | (simp only [List.length_drop, List.length_take]; rfl)) ?_
          with_reducible refine (cell_Put.calls k (fun k_ => some k_ = (.slice Ao56 y635.length co56 : Value).ownBlock) (.slice Ao56 y635.length co56) y635 t638 t639 t640 t641 t642 t643 t644 t645 t646 w _ ?side1 ?side2 A15.out).mono ?_
          (case side1 => repeat (first | (with_reducible first | exact HB.out | apply below_alloc | apply pw_below_drewN | apply below_drew1 | refine below_set ?_ GE609.out | refine below_set ?_ GE610.out) | exact HB.out))
          (case side2 => exact Kd.R_tight rfl HO637.out)
          rintro e w57 ⟨v647, rfl, ho0, hb, hkp⟩
          refine ⟨_, rfl, ?_⟩
          have HO648 := Aside0.mk (Kd.R_mono (ok' := fun k_ => True) ho0 (fun k_ hk_ => trivial))
          replace BK609 := Aside0.mk (blk_kept (bQ BK609) hkp (fun hs_ => (fun e_ => (Kd.R_ne HO637.out BK609.out (by decide)) e_) hs_))
          replace BK610 := Aside0.mk (blk_kept (bQ BK610) hkp (fun hs_ => (fun e_ => (Kd.R_ne HO637.out BK610.out (by decide)) e_) hs_))
          replace HO630 := Aside0.mk (Kd.V_mono (ok' := fun k_ => k_ ≠ gb609 ∧ k_ ≠ gb610 ∧ some k_ ≠ (v647 : Value).ownBlock) (Kd.V_keptB (HO630.out) hkp (fun k_ hk_ hs_ => (hk_.2) hs_)) (fun k_ hk_ => ⟨hk_.1.1.1, hk_.1.1.2, fun e_ => Or.elim (ho0.1 k_ e_.symm) (fun hs_ => hk_.2.1 hs_) (fun hn_ => Nat.not_le.2 hk_.2.2 hn_)⟩))
          replace HO633 := Aside0.mk (Kd.V_mono (ok' := fun k_ => k_ ≠ gb609 ∧ k_ ≠ gb610 ∧ some k_ ≠ (v647 : Value).ownBlock) (Kd.V_keptB (HO633.out) hkp (fun k_ hk_ hs_ => (hk_.2) hs_)) (fun k_ hk_ => ⟨hk_.1.1.1, hk_.1.1.2, fun e_ => Or.elim (ho0.1 k_ e_.symm) (fun hs_ => hk_.2.1 hs_) (fun hn_ => Nat.not_le.2 hk_.2.2 hn_)⟩))
          replace HB := Aside0.mk (hb)
          clear HO637
          (try clear hb)
          (try clear hkp)
          (try clear ho0)
          refine hK.out _ _ (be8 BK609) (fun hHeld => ?_)
          clear hK K
          refine norm_ (a' := ?_) ?_ ?_
          rotate_left
          ·show Act.put _ (some 32) _ = _
           simp only [Act.put, List.setIfInBounds_toArray, List.set_cons_zero, List.set_cons_succ, i64_w, i32_w]
           rfl
          refine pure_ (i := 5) (N := some 10) (v := ?_) (a' := ?_) #[true, true, true, true, true, true] rfl rfl (by kernel_rfl) (fun _ _ _ h => h) (Or.inl ⟨by rfl, ?_⟩) ?_ ?_
          rotate_left
          ·intro w'
           go_simp
           with_reducible rfl
          rotate_left
          ·simp only [Act.put, List.setIfInBounds_toArray, List.set_cons_zero, List.set_cons_succ, i64_w, i32_w]
           rfl
          refine done_ (by kernel_rfl) ?_
          try go_wp2
          replace HO630 := Aside0.mk (Kd.V_drew HO630.out)
          replace HO633 := Aside0.mk (Kd.V_drew HO633.out)
          replace HO648 := Aside0.mk (Kd.R_drew HO648.out)
          replace BK609 := Aside0.mk (blk_drew BK609.out)
          replace BK610 := Aside0.mk (blk_drew BK610.out)
          replace HB := Aside0.mk (below_drew1 HB.out)
          refine start_ (n := 9) (S := fun w' => w'.cell? ⟨gb609, 0, none⟩ = some (.string t612) ∧ w'.cell? ⟨gb609, 1, none⟩ = some (.int .i64 t613) ∧ w'.cell? ⟨gb609, 2, none⟩ = some (.float .f64 t614) ∧ w'.cell? ⟨gb609, 3, none⟩ = some (.string t615) ∧ w'.cell? ⟨gb609, 4, none⟩ = some (.int .i64 t616) ∧ w'.cell? ⟨gb609, 5, none⟩ = some (.int .i64 t617) ∧ w'.cell? ⟨gb609, 6, none⟩ = some (.float .f64 t618) ∧ w'.cell? ⟨gb609, 7, none⟩ = some (.string t619) ∧ (convert 47 9 (v647)).run Try.prog w' = .ok (.string (strOfNums t646)) w' ∧ (convert 47 9 (.slice Ao54 t628.length co54)).run Try.prog w' = .ok (.string (strOfNums t628)) w') (ds := []) #[false, false, false, false, false, false, false, false, false] (by kernel_rfl) rfl rfl (bn8 BK609 ⟨(by have T_ := Kd.x_R_string (P := Try.prog) Try.underlying47 Try.underlying5 Try.underlying9 (HO648.out); first | exact T_.1 | exact T_.2 _ | (simp only [World.drewN_drewN]; exact T_.2 _)), (by have T_ := Kd.x_V_string (P := Try.prog) Try.underlying47 Try.underlying5 Try.underlying9 (HO630.out); first | exact T_.1 | exact T_.2 _ | (simp only [World.drewN_drewN]; exact T_.2 _))⟩) (fun hHeld => ?_); refine with_tabW engrosslaw10_CellBytes.tab8 engrosslaw10_CellBytes.bits8 (fun HT_ HW_ => ?_)
          generalize w57.drew = w58 at HO630 HO633 HO648 BK609 BK610 HB hHeld ⊢
          refine pure_ (i := 0) (N := some 33) (v := ?_) (a' := ?_) #[true, false, false, false, false, false, false, false, false] rfl rfl (any_of HT_.out (by kernel_rfl)) (fun _ _ _ h => h) (Or.inl ⟨by rfl, ?_⟩) ?_ ?_
          rotate_left
          ·intro w'
           go_simp
           with_reducible rfl
          rotate_left
          ·simp only [Act.put, List.setIfInBounds_toArray, List.set_cons_zero, List.set_cons_succ, i64_w, i32_w]
           rfl
          refine pure_ (i := 2) (N := some 35) (v := ?_) (a' := ?_) #[true, false, true, false, false, false, false, false, false] rfl rfl (any_of HT_.out (by kernel_rfl)) (fun _ _ _ h => h) (Or.inl ⟨by rfl, ?_⟩) ?_ ?_
          rotate_left
          ·intro w'
           go_simp
           with_reducible rfl
          rotate_left
          ·simp only [Act.put, List.setIfInBounds_toArray, List.set_cons_zero, List.set_cons_succ, i64_w, i32_w]
           rfl
          refine take_ (i := 1) (N := some 34) (v := ?_) (a' := ?_) #[true, true, true, false, false, false, false, false, false] rfl rfl (take_ofW HT_.out HW_.out (by kernel_rfl)) (fun _ _ _ h => h) (Or.inl ⟨by rfl, ?_⟩) hHeld ?_ ?_
          rotate_left
          ·rintro w' ⟨s0, s1, s2, s3, s4, s5, s6, s7, s8, s9⟩
           go_simp
           with_reducible rfl
          rotate_left
          ·simp only [Act.put, List.setIfInBounds_toArray, List.set_cons_zero, List.set_cons_succ, i64_w, i32_w]
           rfl
          refine take_ (i := 3) (N := some 36) (v := ?_) (a' := ?_) #[true, true, true, true, false, false, false, false, false] rfl rfl (take_ofW HT_.out HW_.out (by kernel_rfl)) (fun _ _ _ h => h) (Or.inl ⟨by rfl, ?_⟩) hHeld ?_ ?_
          rotate_left
          ·rintro w' ⟨s0, s1, s2, s3, s4, s5, s6, s7, s8, s9⟩
           go_simp
           with_reducible rfl
          rotate_left
          ·simp only [Act.put, List.setIfInBounds_toArray, List.set_cons_zero, List.set_cons_succ, i64_w, i32_w]
           rfl
          refine take_ (i := 4) (N := some 37) (v := ?_) (a' := ?_) #[true, true, true, true, true, false, false, false, false] rfl rfl (take_ofW HT_.out HW_.out (by kernel_rfl)) (fun _ _ _ h => h) (Or.inl ⟨by rfl, ?_⟩) hHeld ?_ ?_
          rotate_left
          ·rintro w' ⟨s0, s1, s2, s3, s4, s5, s6, s7, s8, s9⟩
           go_simp
           with_reducible rfl
          rotate_left
          ·simp only [Act.put, List.setIfInBounds_toArray, List.set_cons_zero, List.set_cons_succ, i64_w, i32_w]
           rfl
          refine one_ (i := 5) (N := some 38) #[true, true, true, true, true, true, false, false, false] rfl rfl (one_of HT_.out (by kernel_rfl)) (by decide) (fun K hK => ?_)
          refine goes_ Try.func30 (by kernel_rfl) rfl #[.agg #[.string t612, .int .i64 t613, .float .f64 t614, .string t615, .int .i64 t616, .int .i64 t617, .float .f64 t618, .string t619]] (by rfl) rfl rfl (by (try simp only [List.map_toArray, List.map_cons, List.map_nil]); first | done | rfl | (simp only [List.length_drop, List.length_take]; rfl)) ?_
          with_reducible refine (engrossref10_Bytes.calls k t612 t613 t614 t615 t616 t617 t618 t619 t649 _ A16.out).mono ?_
          rintro e w61 ⟨v650, rfl, ho0, hb⟩
          refine ⟨_, rfl, ?_⟩
          have HO651 := Aside0.mk (Kd.R_lower (Kd.R_new' ho0 (Kd.R_lt (by (with_reducible repeat (first | apply Kd.R_alloc | apply Kd.R_drewN | apply Kd.R_drew)); exact HO648.out))) (below_size (bC HB)))
          replace HO630 := Aside0.mk (Kd.V_elder' (by (with_reducible repeat (first | apply Kd.V_alloc | apply Kd.V_drewN | apply Kd.V_drew)); exact HO630.out) (Kd.R_base ho0) hb)
          replace HO633 := Aside0.mk (Kd.V_elder' (by (with_reducible repeat (first | apply Kd.V_alloc | apply Kd.V_drewN | apply Kd.V_drew)); exact HO633.out) (Kd.R_base ho0) hb)
          replace HO648 := Aside0.mk (Kd.R_elder' (by (with_reducible repeat (first | apply Kd.R_alloc | apply Kd.R_drewN | apply Kd.R_drew)); exact HO648.out) (Kd.R_base ho0) hb)
          replace BK609 := bB BK609 hb
          replace BK610 := bB BK610 hb
          replace HB := bW HB hb
          (try clear hb)
          (try clear hb2)
          (try clear hk)
          (try clear hi)
          (try clear ho0)
          refine hK.out _ _ (bn8 BK609 ⟨(by have T_ := Kd.x_R_string (P := Try.prog) Try.underlying47 Try.underlying5 Try.underlying9 (HO648.out); first | exact T_.1 | exact T_.2 _ | (simp only [World.drewN_drewN]; exact T_.2 _)), (by have T_ := Kd.x_V_string (P := Try.prog) Try.underlying47 Try.underlying5 Try.underlying9 (HO630.out); first | exact T_.1 | exact T_.2 _ | (simp only [World.drewN_drewN]; exact T_.2 _))⟩) (fun hHeld => ?_)
          clear hK K
          refine norm_ (a' := ?_) ?_ ?_
          rotate_left
          ·show Act.put _ (some 38) _ = _
           simp only [Act.put, List.setIfInBounds_toArray, List.set_cons_zero, List.set_cons_succ, i64_w, i32_w]
           rfl
          refine one_ (i := 6) (N := some 39) #[true, true, true, true, true, true, true, false, false] rfl rfl (one_of HT_.out (by kernel_rfl)) (by decide) (fun K hK => ?_)
          have hcv62 := own_string (P := Try.prog) Try.underlying47 Try.underlying5 Try.underlying9 (Kd.own_of_R HO651.out)
          refine value_ (w1 := ?_) (v := ?_) (by rfl) rfl ?_ ?_
          rotate_left 2
          ·go_simp
           constructor
           ·rfl
           ·rfl
          clear hcv62
          refine hK.out _ _ (bn8 BK609 ⟨(by have T_ := Kd.x_R_string (P := Try.prog) Try.underlying47 Try.underlying5 Try.underlying9 (HO648.out); first | exact T_.1 | exact T_.2 _ | (simp only [World.drewN_drewN]; exact T_.2 _)), (by have T_ := Kd.x_V_string (P := Try.prog) Try.underlying47 Try.underlying5 Try.underlying9 (HO630.out); first | exact T_.1 | exact T_.2 _ | (simp only [World.drewN_drewN]; exact T_.2 _))⟩) (fun hHeld => ?_)
          clear hK K
          refine norm_ (a' := ?_) ?_ ?_
          rotate_left
          ·show Act.put _ (some 39) _ = _
           simp only [Act.put, List.setIfInBounds_toArray, List.set_cons_zero, List.set_cons_succ, i64_w, i32_w]
           rfl
          refine pure_ (i := 7) (N := some 40) (v := ?_) (a' := ?_) #[true, true, true, true, true, true, true, true, false] rfl rfl (any_of HT_.out (by kernel_rfl)) (fun _ _ _ h => h) (Or.inl ⟨by rfl, ?_⟩) ?_ ?_
          rotate_left
          ·intro w'
           go_simp
           with_reducible rfl
          rotate_left
          ·simp only [Act.put, List.setIfInBounds_toArray, List.set_cons_zero, List.set_cons_succ, i64_w, i32_w]
           rfl
          refine pure_ (i := 8) (N := some 41) (v := ?_) (a' := ?_) #[true, true, true, true, true, true, true, true, true] rfl rfl (any_of HT_.out (by kernel_rfl)) (fun _ _ _ h => h) (Or.inl ⟨by rfl, ?_⟩) ?_ ?_
          rotate_left
          ·intro w'
           go_simp
           with_reducible rfl
          rotate_left
          ·simp only [Act.put, List.setIfInBounds_toArray, List.set_cons_zero, List.set_cons_succ, i64_w, i32_w]
           rfl
          refine done_ (done_of HT_.out (by kernel_rfl)) ?_
          obtain ⟨Ao64, co64, eo64⟩ := Kd.R_slice HO648.out
          subst eo64
          have q63 : ((t628.length : Int) : Int) ≤ ((t646.length : Int) : Int) := of_decide_eq_true (by first | (with_reducible assumption) | assumption)
          obtain ⟨i063, hi063, _, hsz63, _⟩ := info_parts info5
          have hroom63 : t646.length ≤ co64 := (Kd.R_reads' HO648.out).2.1
          have hC63 : Kd.C (Kd.int .u8) _ Ao64 t646.length t646 := (Kd.R_reads' HO648.out).2.2
          have q063 : (0 : Int) ≤ ((t628.length : Int) : Int) := of_decide_eq_true (by first | (with_reducible assumption) | assumption)
          have hcut63 := cut_from (P := Try.prog) 47 5 .i64 Try.underlying47 hi063 1 hsz63 Ao64 t646.length co64 (t628.length : Int) q063 q63
          have hr63 := Kd.C_drop (m := ((t628.length : Int) : Int).toNat) (c := co64) hC63 (by omega) hroom63
          obtain ⟨A63, hA63⟩ : ∃ A1, A1 = (if co64 = ((t628.length : Int) : Int).toNat then Ao64 else (Ao64 : Option Addr).map (·.add (((t628.length : Int) : Int).toNat * 1))) := ⟨_, rfl⟩
          obtain ⟨c63, hc63⟩ : ∃ c1, c1 = co64 - ((t628.length : Int) : Int).toNat := ⟨_, rfl⟩
          have hy63 : y652.length = t646.length - ((t628.length : Int) : Int).toNat := (by rw [Ny652.out, List.length_drop] <;> omega)
          rw [show (t646).drop ((t628.length : Int) : Int).toNat = y652 from Ny652.out.symm] at hr63
          replace hr63 : Kd.C (Kd.int .u8) _ A63 y652.length y652 := (by rw [hA63]; exact hr63)
          rw [← hy63, ← hA63, ← hc63] at hcut63
          have HR655 := Aside0.mk hr63
          have HC655 := Aside0.mk (show y652.length ≤ c63 from by rw [hy63, hc63]; exact Nat.sub_le_sub_right hroom63 _)
          clear hr63 hC63 hroom63 hi063 hsz63 hc63
          have KY63 := Aside0.mk hy63
          have KA63 := Aside0.mk hA63
          clear hy63 hA63
          have KL63 := Aside0.mk (show ((t628.length : Int) : Int).toNat ≤ t646.length from by omega)
          replace q63 := eq_true q63
          go_upto_region 11 with (first | ((with_reducible refine gate_builtin (b := .append) (xs := #[.const (.slice none 0 0), .tmp 46]) rfl ?_); (try (refine gate_guard (by rfl) ?_; dsimp only)); at_builtin; refine Kd.R_append_rows (Kd.int .u8) (w0 := w) w.heap.size rfl (.const (.slice none 0 0)) (.tmp 46) 47 5 (.int .u8 0) 1 rfl Try.underlying47 info5 rfl (by decide) (by omega) (.slice none 0 0) ([] : List Int) y652 _ _ _ (fun k_ => some k_ ≠ (.slice Ao64 t646.length co64 : Value).ownBlock ∧ some k_ ≠ (v650 : Value).ownBlock) (fun _ => False) rfl rfl ?aO ?aR (fun _ _ h => h) (fun _ h => h.elim) ?aF ?aB ?aS ?aL ?_; (case aR => repeat (first | exact (by repeat (first | (with_reducible exact HR655.out) | (with_reducible refine Kd.C_alloc ?_ _) | (with_reducible refine Kd.C_drewN ?_ _) | (with_reducible refine Kd.C_drew ?_) | exact HR655.out)) | (with_reducible refine Kd.C_alloc ?_ _) | (with_reducible refine Kd.C_drewN ?_ _) | (with_reducible refine Kd.C_drew ?_))); (case aB => exact (bC HB)); (case aF => exact (fun k_ hk => ⟨Kd.fresh' (Kd.R_lt (by (with_reducible repeat (first | apply Kd.R_alloc | apply Kd.R_drewN | apply Kd.R_drew)); exact HO648.out)) k_ hk, Kd.fresh' (Kd.R_lt (by (with_reducible repeat (first | apply Kd.R_alloc | apply Kd.R_drewN | apply Kd.R_drew)); exact HO651.out)) k_ hk⟩)); (case aO => exact ((Kd.R_nil _ _ _ _ (fun k_ => some k_ ≠ (.slice Ao64 t646.length co64 : Value).ownBlock ∧ some k_ ≠ (v650 : Value).ownBlock)))); (case aS => exact (below_size (bC HB))); (case aL => have := LMc21.out; omega); intro v657 w65 ho hb hg hat; rw [← Ny656.out] at ho; have HO658 := Aside0.mk (ho); replace BK609 := Aside0.mk (blk_grown (bQ BK609) hg (by simp [Value.ownBlock])); replace BK610 := Aside0.mk (blk_grown (bQ BK610) hg (by simp [Value.ownBlock])); replace HO630 := Aside0.mk (Kd.V_afterv (Kd.V_apart_nil (by (with_reducible repeat (first | apply Kd.V_alloc | apply Kd.V_drewN | apply Kd.V_drew)); exact HO630.out)) hg hat); replace HO633 := Aside0.mk (Kd.V_afterv (Kd.V_apart_nil (by (with_reducible repeat (first | apply Kd.V_alloc | apply Kd.V_drewN | apply Kd.V_drew)); exact HO633.out)) hg hat); replace HO651 := Aside0.mk (Kd.R_after (Kd.R_apart_nil (by (with_reducible repeat (first | apply Kd.R_alloc | apply Kd.R_drewN | apply Kd.R_drew)); exact HO651.out)) hg hat); replace HB := Aside0.mk (hb); replace HR655 := Aside0.mk ((show Kd.C (Kd.int .u8) w65 A63 y652.length y652 from by rw [Ny652.out, KA63.out]; exact Kd.C_drop (m := ((t628.length : Int) : Int).toNat) (c := co64) ((Kd.R_reads' (Kd.R_after (Kd.R_apart_nil (by (with_reducible repeat (first | apply Kd.R_alloc | apply Kd.R_drewN | apply Kd.R_drew)); exact HO648.out)) hg hat)).2.2) KL63.out ((Kd.R_reads' (Kd.R_after (Kd.R_apart_nil (by (with_reducible repeat (first | apply Kd.R_alloc | apply Kd.R_drewN | apply Kd.R_drew)); exact HO648.out)) hg hat)).2.1))); replace HO648 := Aside0.mk (Kd.R_after (Kd.R_apart_nil (by (with_reducible repeat (first | apply Kd.R_alloc | apply Kd.R_drewN | apply Kd.R_drew)); exact HO648.out)) hg hat); clear ho hb hg hat; obtain ⟨Ao67, co67, eo67⟩ := Kd.V_slice HO633.out; subst eo67) | ((with_reducible refine gate_builtin (b := .append) (xs := #[.tmp 47, .tmp 48]) rfl ?_); (try (refine gate_guard (by rfl) ?_; dsimp only)); at_builtin; refine Kd.R_append_rows (Kd.int .u8) (w0 := w) w.heap.size rfl (.tmp 47) (.tmp 48) 47 5 (.int .u8 0) 1 rfl Try.underlying47 info5 rfl (by decide) (by omega) v657 y656 t631 _ _ _ (fun k_ => some k_ ≠ (.slice Ao64 t646.length co64 : Value).ownBlock ∧ some k_ ≠ (v650 : Value).ownBlock) (fun _ => False) rfl rfl ?aO ?aR (fun _ _ h => h) (fun _ h => h.elim) ?aF ?aB ?aS ?aL ?_; (case aR => repeat (first | exact (Kd.V_reads' HO633.out).2.2 | (with_reducible refine Kd.C_alloc ?_ _) | (with_reducible refine Kd.C_drewN ?_ _) | (with_reducible refine Kd.C_drew ?_))); (case aB => exact (bC HB)); (case aF => exact (fun k_ hk => ⟨Kd.fresh' (Kd.R_lt (by (with_reducible repeat (first | apply Kd.R_alloc | apply Kd.R_drewN | apply Kd.R_drew)); exact HO648.out)) k_ hk, Kd.fresh' (Kd.R_lt (by (with_reducible repeat (first | apply Kd.R_alloc | apply Kd.R_drewN | apply Kd.R_drew)); exact HO651.out)) k_ hk⟩)); (case aO => exact (by (with_reducible repeat (first | apply Kd.R_alloc | apply Kd.R_drewN | apply Kd.R_drew)); exact HO658.out)); (case aS => exact (below_size (bC HB))); (case aL => have := LMc22.out; omega); intro v660 w66 ho hb hg hat; rw [← Ny659.out] at ho; have HO661 := Aside0.mk (ho); replace BK609 := Aside0.mk (blk_grown (bQ BK609) hg (Kd.R_ne HO658.out BK609.out (by decide))); replace BK610 := Aside0.mk (blk_grown (bQ BK610) hg (Kd.R_ne HO658.out BK610.out (by decide))); replace HO630 := Aside0.mk (Kd.V_afterv (ok := (fun k_ => some k_ ≠ (.slice Ao64 t646.length co64 : Value).ownBlock ∧ some k_ ≠ (v650 : Value).ownBlock ∧ k_ ≠ gb609 ∧ k_ ≠ gb610)) (by (with_reducible repeat (first | apply Kd.V_alloc | apply Kd.V_drewN | apply Kd.V_drew)); exact Kd.V_mono HO630.out (fun _ hk => ⟨⟨hk.1.1.2.2, ⟨hk.1.2, ⟨hk.1.1.1, hk.1.1.2.1⟩⟩⟩, hk.2⟩)) hg hat); replace HO633 := Aside0.mk (Kd.V_afterv (ok := (fun k_ => some k_ ≠ (.slice Ao64 t646.length co64 : Value).ownBlock ∧ some k_ ≠ (v650 : Value).ownBlock ∧ k_ ≠ gb609 ∧ k_ ≠ gb610)) (by (with_reducible repeat (first | apply Kd.V_alloc | apply Kd.V_drewN | apply Kd.V_drew)); exact Kd.V_mono HO633.out (fun _ hk => ⟨⟨hk.1.1.2.2, ⟨hk.1.2, ⟨hk.1.1.1, hk.1.1.2.1⟩⟩⟩, hk.2⟩)) hg hat); replace HO651 := Aside0.mk (Kd.R_after (ok := (fun k_ => some k_ ≠ (.slice Ao64 t646.length co64 : Value).ownBlock)) (by (with_reducible repeat (first | apply Kd.R_alloc | apply Kd.R_drewN | apply Kd.R_drew)); exact Kd.R_mono HO651.out (fun _ hk => ⟨hk.1.2, hk.2⟩)) hg hat); replace HB := Aside0.mk (hb); replace HR655 := Aside0.mk ((show Kd.C (Kd.int .u8) w66 A63 y652.length y652 from by rw [Ny652.out, KA63.out]; exact Kd.C_drop (m := ((t628.length : Int) : Int).toNat) (c := co64) ((Kd.R_reads' (Kd.R_after (ok := (fun k_ => some k_ ≠ (v650 : Value).ownBlock)) (by (with_reducible repeat (first | apply Kd.R_alloc | apply Kd.R_drewN | apply Kd.R_drew)); exact Kd.R_mono HO648.out (fun _ hk => ⟨hk.1.2, hk.2⟩)) hg hat)).2.2) KL63.out ((Kd.R_reads' (Kd.R_after (ok := (fun k_ => some k_ ≠ (v650 : Value).ownBlock)) (by (with_reducible repeat (first | apply Kd.R_alloc | apply Kd.R_drewN | apply Kd.R_drew)); exact Kd.R_mono HO648.out (fun _ hk => ⟨hk.1.2, hk.2⟩)) hg hat)).2.1))); replace HO648 := Aside0.mk (Kd.R_after (ok := (fun k_ => some k_ ≠ (v650 : Value).ownBlock)) (by (with_reducible repeat (first | apply Kd.R_alloc | apply Kd.R_drewN | apply Kd.R_drew)); exact Kd.R_mono HO648.out (fun _ hk => ⟨hk.1.2, hk.2⟩)) hg hat); clear HO658; clear ho hb hg hat; obtain ⟨Ao68, co68, eo68⟩ := Kd.R_slice HO661.out; subst eo68) | ((with_reducible refine gate_callee (f := 31) rfl ?_); refine goesL_ (some 50) rfl rfl Try.func31 (by kernel_rfl) rfl #[.slice Ao68 y659.length co68] rfl (by (try simp only [List.map_toArray, List.map_cons, List.map_nil]); first | done | rfl | (simp only [List.length_drop, List.length_take]; rfl)) ?_; (with_reducible refine (cell_Get.calls k _ _ y659 t662 t663 t664 t665 t666 t667 t668 t669 t670 t671 _ ?side1 ?side2 A23.out).mono ?_); (case side1 => repeat (first | exact (Kd.R_reads' HO661.out).2.2 | (with_reducible refine Kd.C_alloc ?_ _) | (with_reducible refine Kd.C_drewN ?_ _) | (with_reducible refine Kd.C_drew ?_))); (case side2 => exact (Kd.R_reads' HO661.out).2.1); rintro e w69 ⟨rfl, hb⟩; refine ⟨_, rfl, ?_⟩; replace HO630 := Aside0.mk (Kd.V_below (by (with_reducible repeat (first | apply Kd.V_alloc | apply Kd.V_drewN | apply Kd.V_drew)); exact HO630.out) hb); replace HO633 := Aside0.mk (Kd.V_below (by (with_reducible repeat (first | apply Kd.V_alloc | apply Kd.V_drewN | apply Kd.V_drew)); exact HO633.out) hb); replace HO648 := Aside0.mk (Kd.R_below (by (with_reducible repeat (first | apply Kd.R_alloc | apply Kd.R_drewN | apply Kd.R_drew)); exact HO648.out) hb); replace HO651 := Aside0.mk (Kd.R_below (by (with_reducible repeat (first | apply Kd.R_alloc | apply Kd.R_drewN | apply Kd.R_drew)); exact HO651.out) hb); replace HO661 := Aside0.mk (Kd.R_below (by (with_reducible repeat (first | apply Kd.R_alloc | apply Kd.R_drewN | apply Kd.R_drew)); exact HO661.out) hb); replace BK609 := bB BK609 hb; replace BK610 := bB BK610 hb; replace HR655 := Aside0.mk (Kd.C_below (by repeat (first | (with_reducible exact HR655.out) | (with_reducible refine Kd.C_alloc ?_ _) | (with_reducible refine Kd.C_drewN ?_ _) | (with_reducible refine Kd.C_drew ?_) | exact HR655.out)) hb); replace HB := bW HB hb; (try clear hb); (try clear hb2); (try clear hk); (try clear hi)) | ((with_reducible refine gate_dst (N := 11) rfl ?_); (try (refine gate_guard (by rfl) ?_; dsimp only)); refine box_event ?hg (N := 11) ?hd (cs := #[.string (⟨#[]⟩ : ByteArray), .int .i64 0, .float .f64 0, .string (⟨#[]⟩ : ByteArray), .int .i64 0, .int .i64 0, .float .f64 0, .string (⟨#[]⟩ : ByteArray)]) (t := 31) ?hr ?_; (case hd => rfl); (case hg => rfl); (case hr => first | (go_simp; done) | (go_simp; rfl)); intro gb672 hg w70 hbox hb; have BK672 := Aside0.mk (hbox); have GW672 := bZ HB hg; have GE672 := bZ HB hg; have NB609_672 := bL BK609 hg; have NB672_609 := bG BK609 hg; have NB610_672 := bL BK610 hg; have NB672_610 := bG BK610 hg; replace HO630 := Aside0.mk (Kd.V_below (Kd.V_elderB (by (with_reducible repeat (first | apply Kd.V_alloc | apply Kd.V_drewN | apply Kd.V_drew)); exact HO630.out) gb672 (Nat.le_of_eq hg.symm)) hb); replace HO633 := Aside0.mk (Kd.V_below (Kd.V_elderB (by (with_reducible repeat (first | apply Kd.V_alloc | apply Kd.V_drewN | apply Kd.V_drew)); exact HO633.out) gb672 (Nat.le_of_eq hg.symm)) hb); replace HO648 := Aside0.mk (Kd.R_below (by (with_reducible repeat (first | apply Kd.R_alloc | apply Kd.R_drewN | apply Kd.R_drew)); exact HO648.out) hb); replace HO651 := Aside0.mk (Kd.R_below (by (with_reducible repeat (first | apply Kd.R_alloc | apply Kd.R_drewN | apply Kd.R_drew)); exact HO651.out) hb); replace HO661 := Aside0.mk (Kd.R_below (by (with_reducible repeat (first | apply Kd.R_alloc | apply Kd.R_drewN | apply Kd.R_drew)); exact HO661.out) hb); replace BK609 := bB BK609 hb; replace BK610 := bB BK610 hb; replace HR655 := Aside0.mk (Kd.C_below (by repeat (first | (with_reducible exact HR655.out) | (with_reducible refine Kd.C_alloc ?_ _) | (with_reducible refine Kd.C_drewN ?_ _) | (with_reducible refine Kd.C_drew ?_) | exact HR655.out)) hb); replace HB := bW HB hb; clear hb hbox hg; have hnb71 := NB672_609.out; have hnc71 := NB609_672.out; have hnb72 := NB672_610.out; have hnc72 := NB610_672.out; obtain ⟨hcz73_0, hcz73_1, hcz73_2, hcz73_3, hcz73_4, hcz73_5, hcz73_6, hcz73_7, hfz73_0, hfz73_1, hfz73_2, hfz73_3, hfz73_4, hfz73_5, hfz73_6, hfz73_7⟩ := bf8 (w := w70) BK672))
          (try simp only [Act.put, List.setIfInBounds_toArray, List.set_cons_zero, List.set_cons_succ])
          go_cut [71] (fun v71 wc => ∃ (kq : Nat) (x71_23 : Bool), v71 = .bool x71_23 ∧ Aside0 (engrosslaw10_CellBytes.j0 kq t628 t646 x71_23 t612 t613 t614 t615 t616 t617 t618 t619 t620 t621 t622 t623 t624 t625 t626 t627 = some r) ∧ Aside0 (kq ≤ k) ∧ Aside0 (Kd.V (Kd.int .u8) 5 wc w.heap.size (fun k_ => some k_ ≠ ((.slice Ao64 t646.length co64) : Value).ownBlock ∧ k_ ≠ gb609 ∧ k_ ≠ gb610 ∧ k_ ≠ gb672) (.slice Ao54 t628.length co54) t628) ∧ Aside0 (Kd.R (Kd.int .u8) 5 wc w.heap.size (fun _ => True) (.slice Ao64 t646.length co64) t646) ∧ Aside0 (wc.heap[gb609]? = some (.cells #[.string t612, .int .i64 t613, .float .f64 t614, .string t615, .int .i64 t616, .int .i64 t617, .float .f64 t618, .string t619] 26 (0, 0))) ∧ Aside0 (wc.heap[gb610]? = some (.cells #[.string t620, .int .i64 t621, .float .f64 t622, .string t623, .int .i64 t624, .int .i64 t625, .float .f64 t626, .string t627] 26 (0, 0))) ∧ Aside0 (wc.heap[gb672]? = some (.cells #[.string t662, .int .i64 t663, .float .f64 t664, .string t665, .int .i64 t666, .int .i64 t667, .float .f64 t668, .string t669] 31 (0, 0))) ∧ Aside0 (Below w.heap.size w wc))
          case first =>
           have H := HC24.out
           clear HC24
           by_cases c74 : t671 = 0
           ·rw [if_pos c74] at H
            have c74b0 : (t671 == 0) = true := beq_iff_eq.mpr c74
            have c74b1 : (t671 != 0) = false := bne_eq_false_iff_eq.mpr c74
            clear c74
            (first | rw [c74b0] | (simp only [i64_w, i32_w]; rw [c74b0]) | skip)
            by_cases c75 : t670 = (wrap64 ((t646.length : Int) - (t628.length : Int)))
            ·rw [if_pos c75] at H
             have c75b0 : (t670 == (wrap64 ((t646.length : Int) - (t628.length : Int)))) = true := beq_iff_eq.mpr c75
             have c75b1 : (t670 != (wrap64 ((t646.length : Int) - (t628.length : Int)))) = false := bne_eq_false_iff_eq.mpr c75
             clear c75
             replace H := Option.bind_eq_some_iff.mp H
             obtain ⟨⟨t673, t674, t675, t676, t677, t678, t679, t680⟩, A760, H⟩ := H
             replace H : ((engrossref10_Eq.f t673 t674 t675 t676 t677 t678 t679 t680 t612 t613 t614 t615 t616 t617 t618 t619).bind fun t681 => (engrosslaw10_CellBytes.j0 k t628 t646 (!t681) t612 t613 t614 t615 t616 t617 t618 t619 t620 t621 t622 t623 t624 t625 t626 t627)) = some r := H
             have A76 := Aside0.mk A760
             clear A760
             replace H := Option.bind_eq_some_iff.mp H
             obtain ⟨t681, A770, H⟩ := H
             replace H : (engrosslaw10_CellBytes.j0 k t628 t646 (!t681) t612 t613 t614 t615 t616 t617 t618 t619 t620 t621 t622 t623 t624 t625 t626 t627) = some r := H
             have A77 := Aside0.mk A770
             clear A770
             have H' := Aside0.mk H
             clear H
             try go_wp2
             have n0_ : Aside0 (Kd.V (Kd.int .u8) 5 ((((((((w70.setCell ⟨gb672, 0, none⟩ (.string t662)).setCell ⟨gb672, 1, none⟩ (.int .i64 t663)).setCell ⟨gb672, 2, none⟩ (.float .f64 t664)).setCell ⟨gb672, 3, none⟩ (.string t665)).setCell ⟨gb672, 4, none⟩ (.int .i64 t666)).setCell ⟨gb672, 5, none⟩ (.int .i64 t667)).setCell ⟨gb672, 6, none⟩ (.float .f64 t668)).setCell ⟨gb672, 7, none⟩ (.string t669)) w.heap.size (fun k_ => some k_ ≠ (.slice Ao64 t646.length co64 : Value).ownBlock ∧ some k_ ≠ (v650 : Value).ownBlock ∧ some k_ ≠ (.slice Ao68 y659.length co68 : Value).ownBlock ∧ k_ ≠ gb609 ∧ k_ ≠ gb610 ∧ k_ ≠ gb672) (.slice Ao54 t628.length co54) t628) := ⟨by (with_reducible repeat (first | apply Kd.V_alloc | apply Kd.V_drewN | apply Kd.V_drew)); exact Kd.V_mono (Kd.V_far (p := ⟨gb672, 7, none⟩) (Kd.V_far (p := ⟨gb672, 6, none⟩) (Kd.V_far (p := ⟨gb672, 5, none⟩) (Kd.V_far (p := ⟨gb672, 4, none⟩) (Kd.V_far (p := ⟨gb672, 3, none⟩) (Kd.V_far (p := ⟨gb672, 2, none⟩) (Kd.V_far (p := ⟨gb672, 1, none⟩) (Kd.V_far (p := ⟨gb672, 0, none⟩) (Kd.V_mono HO630.out (fun k_ hk => (⟨hk, hk.2⟩ : _ ∧ k_ ≠ gb672))) (fun _ hk => hk.2) (.string t662)) (fun _ hk => hk.2) (.int .i64 t663)) (fun _ hk => hk.2) (.float .f64 t664)) (fun _ hk => hk.2) (.string t665)) (fun _ hk => hk.2) (.int .i64 t666)) (fun _ hk => hk.2) (.int .i64 t667)) (fun _ hk => hk.2) (.float .f64 t668)) (fun _ hk => hk.2) (.string t669)) (fun _ hk => ⟨hk.1.1.1.1, ⟨hk.1.1.1.2.1, ⟨hk.1.1.2, ⟨hk.1.1.1.2.2.1, ⟨hk.1.1.1.2.2.2, hk.1.2⟩⟩⟩⟩⟩)⟩
             have n1_ : Aside0 (Kd.V (Kd.int .u8) 5 ((((((((w70.setCell ⟨gb672, 0, none⟩ (.string t662)).setCell ⟨gb672, 1, none⟩ (.int .i64 t663)).setCell ⟨gb672, 2, none⟩ (.float .f64 t664)).setCell ⟨gb672, 3, none⟩ (.string t665)).setCell ⟨gb672, 4, none⟩ (.int .i64 t666)).setCell ⟨gb672, 5, none⟩ (.int .i64 t667)).setCell ⟨gb672, 6, none⟩ (.float .f64 t668)).setCell ⟨gb672, 7, none⟩ (.string t669)) w.heap.size (fun k_ => some k_ ≠ (.slice Ao64 t646.length co64 : Value).ownBlock ∧ some k_ ≠ (v650 : Value).ownBlock ∧ some k_ ≠ (.slice Ao68 y659.length co68 : Value).ownBlock ∧ k_ ≠ gb609 ∧ k_ ≠ gb610 ∧ k_ ≠ gb672) (.slice Ao67 t631.length co67) t631) := ⟨by (with_reducible repeat (first | apply Kd.V_alloc | apply Kd.V_drewN | apply Kd.V_drew)); exact Kd.V_mono (Kd.V_far (p := ⟨gb672, 7, none⟩) (Kd.V_far (p := ⟨gb672, 6, none⟩) (Kd.V_far (p := ⟨gb672, 5, none⟩) (Kd.V_far (p := ⟨gb672, 4, none⟩) (Kd.V_far (p := ⟨gb672, 3, none⟩) (Kd.V_far (p := ⟨gb672, 2, none⟩) (Kd.V_far (p := ⟨gb672, 1, none⟩) (Kd.V_far (p := ⟨gb672, 0, none⟩) (Kd.V_mono HO633.out (fun k_ hk => (⟨hk, hk.2⟩ : _ ∧ k_ ≠ gb672))) (fun _ hk => hk.2) (.string t662)) (fun _ hk => hk.2) (.int .i64 t663)) (fun _ hk => hk.2) (.float .f64 t664)) (fun _ hk => hk.2) (.string t665)) (fun _ hk => hk.2) (.int .i64 t666)) (fun _ hk => hk.2) (.int .i64 t667)) (fun _ hk => hk.2) (.float .f64 t668)) (fun _ hk => hk.2) (.string t669)) (fun _ hk => ⟨hk.1.1.1.1, ⟨hk.1.1.1.2.1, ⟨hk.1.1.2, ⟨hk.1.1.1.2.2.1, ⟨hk.1.1.1.2.2.2, hk.1.2⟩⟩⟩⟩⟩)⟩
             have n2_ : Aside0 (Kd.R (Kd.int .u8) 5 ((((((((w70.setCell ⟨gb672, 0, none⟩ (.string t662)).setCell ⟨gb672, 1, none⟩ (.int .i64 t663)).setCell ⟨gb672, 2, none⟩ (.float .f64 t664)).setCell ⟨gb672, 3, none⟩ (.string t665)).setCell ⟨gb672, 4, none⟩ (.int .i64 t666)).setCell ⟨gb672, 5, none⟩ (.int .i64 t667)).setCell ⟨gb672, 6, none⟩ (.float .f64 t668)).setCell ⟨gb672, 7, none⟩ (.string t669)) w.heap.size (fun k_ => some k_ ≠ (v650 : Value).ownBlock ∧ some k_ ≠ (.slice Ao68 y659.length co68 : Value).ownBlock) (.slice Ao64 t646.length co64) t646) := ⟨by (with_reducible repeat (first | apply Kd.R_alloc | apply Kd.R_drewN | apply Kd.R_drew)); exact Kd.R_mono (Kd.R_far (p := ⟨gb672, 7, none⟩) (Kd.R_far (p := ⟨gb672, 6, none⟩) (Kd.R_far (p := ⟨gb672, 5, none⟩) (Kd.R_far (p := ⟨gb672, 4, none⟩) (Kd.R_far (p := ⟨gb672, 3, none⟩) (Kd.R_far (p := ⟨gb672, 2, none⟩) (Kd.R_far (p := ⟨gb672, 1, none⟩) (Kd.R_far (p := ⟨gb672, 0, none⟩) (Kd.R_types HO648.out BK672.out (by decide)) (fun _ hk => hk.2) (.string t662)) (fun _ hk => hk.2) (.int .i64 t663)) (fun _ hk => hk.2) (.float .f64 t664)) (fun _ hk => hk.2) (.string t665)) (fun _ hk => hk.2) (.int .i64 t666)) (fun _ hk => hk.2) (.int .i64 t667)) (fun _ hk => hk.2) (.float .f64 t668)) (fun _ hk => hk.2) (.string t669)) (fun _ hk => ⟨hk.1.1, hk.1.2⟩)⟩
             have n3_ : Aside0 (Kd.R (Kd.int .u8) 5 ((((((((w70.setCell ⟨gb672, 0, none⟩ (.string t662)).setCell ⟨gb672, 1, none⟩ (.int .i64 t663)).setCell ⟨gb672, 2, none⟩ (.float .f64 t664)).setCell ⟨gb672, 3, none⟩ (.string t665)).setCell ⟨gb672, 4, none⟩ (.int .i64 t666)).setCell ⟨gb672, 5, none⟩ (.int .i64 t667)).setCell ⟨gb672, 6, none⟩ (.float .f64 t668)).setCell ⟨gb672, 7, none⟩ (.string t669)) w.heap.size (fun k_ => some k_ ≠ (.slice Ao64 t646.length co64 : Value).ownBlock ∧ some k_ ≠ (.slice Ao68 y659.length co68 : Value).ownBlock) v650 t649) := ⟨by (with_reducible repeat (first | apply Kd.R_alloc | apply Kd.R_drewN | apply Kd.R_drew)); exact Kd.R_mono (Kd.R_far (p := ⟨gb672, 7, none⟩) (Kd.R_far (p := ⟨gb672, 6, none⟩) (Kd.R_far (p := ⟨gb672, 5, none⟩) (Kd.R_far (p := ⟨gb672, 4, none⟩) (Kd.R_far (p := ⟨gb672, 3, none⟩) (Kd.R_far (p := ⟨gb672, 2, none⟩) (Kd.R_far (p := ⟨gb672, 1, none⟩) (Kd.R_far (p := ⟨gb672, 0, none⟩) (Kd.R_types HO651.out BK672.out (by decide)) (fun _ hk => hk.2) (.string t662)) (fun _ hk => hk.2) (.int .i64 t663)) (fun _ hk => hk.2) (.float .f64 t664)) (fun _ hk => hk.2) (.string t665)) (fun _ hk => hk.2) (.int .i64 t666)) (fun _ hk => hk.2) (.int .i64 t667)) (fun _ hk => hk.2) (.float .f64 t668)) (fun _ hk => hk.2) (.string t669)) (fun _ hk => ⟨hk.1.1, hk.1.2⟩)⟩
             have n4_ : Aside0 (Kd.R (Kd.int .u8) 5 ((((((((w70.setCell ⟨gb672, 0, none⟩ (.string t662)).setCell ⟨gb672, 1, none⟩ (.int .i64 t663)).setCell ⟨gb672, 2, none⟩ (.float .f64 t664)).setCell ⟨gb672, 3, none⟩ (.string t665)).setCell ⟨gb672, 4, none⟩ (.int .i64 t666)).setCell ⟨gb672, 5, none⟩ (.int .i64 t667)).setCell ⟨gb672, 6, none⟩ (.float .f64 t668)).setCell ⟨gb672, 7, none⟩ (.string t669)) w.heap.size (fun k_ => some k_ ≠ (.slice Ao64 t646.length co64 : Value).ownBlock ∧ some k_ ≠ (v650 : Value).ownBlock) (.slice Ao68 y659.length co68) y659) := ⟨by (with_reducible repeat (first | apply Kd.R_alloc | apply Kd.R_drewN | apply Kd.R_drew)); exact Kd.R_mono (Kd.R_far (p := ⟨gb672, 7, none⟩) (Kd.R_far (p := ⟨gb672, 6, none⟩) (Kd.R_far (p := ⟨gb672, 5, none⟩) (Kd.R_far (p := ⟨gb672, 4, none⟩) (Kd.R_far (p := ⟨gb672, 3, none⟩) (Kd.R_far (p := ⟨gb672, 2, none⟩) (Kd.R_far (p := ⟨gb672, 1, none⟩) (Kd.R_far (p := ⟨gb672, 0, none⟩) (Kd.R_types HO661.out BK672.out (by decide)) (fun _ hk => hk.2) (.string t662)) (fun _ hk => hk.2) (.int .i64 t663)) (fun _ hk => hk.2) (.float .f64 t664)) (fun _ hk => hk.2) (.string t665)) (fun _ hk => hk.2) (.int .i64 t666)) (fun _ hk => hk.2) (.int .i64 t667)) (fun _ hk => hk.2) (.float .f64 t668)) (fun _ hk => hk.2) (.string t669)) (fun _ hk => ⟨hk.1.1, hk.1.2⟩)⟩
             have n5_ : Aside0 (((((((((w70.setCell ⟨gb672, 0, none⟩ (.string t662)).setCell ⟨gb672, 1, none⟩ (.int .i64 t663)).setCell ⟨gb672, 2, none⟩ (.float .f64 t664)).setCell ⟨gb672, 3, none⟩ (.string t665)).setCell ⟨gb672, 4, none⟩ (.int .i64 t666)).setCell ⟨gb672, 5, none⟩ (.int .i64 t667)).setCell ⟨gb672, 6, none⟩ (.float .f64 t668)).setCell ⟨gb672, 7, none⟩ (.string t669)).heap[gb609]? = some (.cells #[.string t612, .int .i64 t613, .float .f64 t614, .string t615, .int .i64 t616, .int .i64 t617, .float .f64 t618, .string t619] 26 (0, 0))) := bS BK609
             have n6_ : Aside0 (((((((((w70.setCell ⟨gb672, 0, none⟩ (.string t662)).setCell ⟨gb672, 1, none⟩ (.int .i64 t663)).setCell ⟨gb672, 2, none⟩ (.float .f64 t664)).setCell ⟨gb672, 3, none⟩ (.string t665)).setCell ⟨gb672, 4, none⟩ (.int .i64 t666)).setCell ⟨gb672, 5, none⟩ (.int .i64 t667)).setCell ⟨gb672, 6, none⟩ (.float .f64 t668)).setCell ⟨gb672, 7, none⟩ (.string t669)).heap[gb610]? = some (.cells #[.string t620, .int .i64 t621, .float .f64 t622, .string t623, .int .i64 t624, .int .i64 t625, .float .f64 t626, .string t627] 26 (0, 0))) := bS BK610
             have n7_ : Aside0 (((((((((w70.setCell ⟨gb672, 0, none⟩ (.string t662)).setCell ⟨gb672, 1, none⟩ (.int .i64 t663)).setCell ⟨gb672, 2, none⟩ (.float .f64 t664)).setCell ⟨gb672, 3, none⟩ (.string t665)).setCell ⟨gb672, 4, none⟩ (.int .i64 t666)).setCell ⟨gb672, 5, none⟩ (.int .i64 t667)).setCell ⟨gb672, 6, none⟩ (.float .f64 t668)).setCell ⟨gb672, 7, none⟩ (.string t669)).heap[gb672]? = some (.cells #[.string t662, .int .i64 t663, .float .f64 t664, .string t665, .int .i64 t666, .int .i64 t667, .float .f64 t668, .string t669] 31 (0, 0))) := ⟨by (with_reducible repeat (first | refine blk_drewN ?_ _ | refine blk_drew ?_ | refine blk_alloc ?_ _)); refine blk_put (cs := #[.string t662, .int .i64 t663, .float .f64 t664, .string t665, .int .i64 t666, .int .i64 t667, .float .f64 t668, .string (⟨#[]⟩ : ByteArray)]) ?_ 7 _ rfl; (with_reducible repeat (first | refine blk_drewN ?_ _ | refine blk_drew ?_ | refine blk_alloc ?_ _)); refine blk_put (cs := #[.string t662, .int .i64 t663, .float .f64 t664, .string t665, .int .i64 t666, .int .i64 t667, .float .f64 0, .string (⟨#[]⟩ : ByteArray)]) ?_ 6 _ rfl; (with_reducible repeat (first | refine blk_drewN ?_ _ | refine blk_drew ?_ | refine blk_alloc ?_ _)); refine blk_put (cs := #[.string t662, .int .i64 t663, .float .f64 t664, .string t665, .int .i64 t666, .int .i64 0, .float .f64 0, .string (⟨#[]⟩ : ByteArray)]) ?_ 5 _ rfl; (with_reducible repeat (first | refine blk_drewN ?_ _ | refine blk_drew ?_ | refine blk_alloc ?_ _)); refine blk_put (cs := #[.string t662, .int .i64 t663, .float .f64 t664, .string t665, .int .i64 0, .int .i64 0, .float .f64 0, .string (⟨#[]⟩ : ByteArray)]) ?_ 4 _ rfl; (with_reducible repeat (first | refine blk_drewN ?_ _ | refine blk_drew ?_ | refine blk_alloc ?_ _)); refine blk_put (cs := #[.string t662, .int .i64 t663, .float .f64 t664, .string (⟨#[]⟩ : ByteArray), .int .i64 0, .int .i64 0, .float .f64 0, .string (⟨#[]⟩ : ByteArray)]) ?_ 3 _ rfl; (with_reducible repeat (first | refine blk_drewN ?_ _ | refine blk_drew ?_ | refine blk_alloc ?_ _)); refine blk_put (cs := #[.string t662, .int .i64 t663, .float .f64 0, .string (⟨#[]⟩ : ByteArray), .int .i64 0, .int .i64 0, .float .f64 0, .string (⟨#[]⟩ : ByteArray)]) ?_ 2 _ rfl; (with_reducible repeat (first | refine blk_drewN ?_ _ | refine blk_drew ?_ | refine blk_alloc ?_ _)); refine blk_put (cs := #[.string t662, .int .i64 0, .float .f64 0, .string (⟨#[]⟩ : ByteArray), .int .i64 0, .int .i64 0, .float .f64 0, .string (⟨#[]⟩ : ByteArray)]) ?_ 1 _ rfl; (with_reducible repeat (first | refine blk_drewN ?_ _ | refine blk_drew ?_ | refine blk_alloc ?_ _)); refine blk_put (cs := #[.string (⟨#[]⟩ : ByteArray), .int .i64 0, .float .f64 0, .string (⟨#[]⟩ : ByteArray), .int .i64 0, .int .i64 0, .float .f64 0, .string (⟨#[]⟩ : ByteArray)]) ?_ 0 _ rfl; (with_reducible repeat (first | refine blk_drewN ?_ _ | refine blk_drew ?_ | refine blk_alloc ?_ _)); exact BK672.out⟩
             have n8_ : Aside0 (Below w.heap.size w ((((((((w70.setCell ⟨gb672, 0, none⟩ (.string t662)).setCell ⟨gb672, 1, none⟩ (.int .i64 t663)).setCell ⟨gb672, 2, none⟩ (.float .f64 t664)).setCell ⟨gb672, 3, none⟩ (.string t665)).setCell ⟨gb672, 4, none⟩ (.int .i64 t666)).setCell ⟨gb672, 5, none⟩ (.int .i64 t667)).setCell ⟨gb672, 6, none⟩ (.float .f64 t668)).setCell ⟨gb672, 7, none⟩ (.string t669))) := ⟨by repeat (first | (with_reducible first | exact HB.out | apply below_alloc | apply pw_below_drewN | apply below_drew1 | refine below_set ?_ GE609.out | refine below_set ?_ GE610.out | refine below_set ?_ GE672.out) | exact HB.out)⟩
             (try clear HO630)
             (try clear HO633)
             (try clear HO648)
             (try clear HO651)
             (try clear HO661)
             (try clear BK609)
             (try clear BK610)
             (try clear BK672)
             (try clear HB)
             generalize ((((((((w70.setCell ⟨gb672, 0, none⟩ (.string t662)).setCell ⟨gb672, 1, none⟩ (.int .i64 t663)).setCell ⟨gb672, 2, none⟩ (.float .f64 t664)).setCell ⟨gb672, 3, none⟩ (.string t665)).setCell ⟨gb672, 4, none⟩ (.int .i64 t666)).setCell ⟨gb672, 5, none⟩ (.int .i64 t667)).setCell ⟨gb672, 6, none⟩ (.float .f64 t668)).setCell ⟨gb672, 7, none⟩ (.string t669)) = w78 at n0_ n1_ n2_ n3_ n4_ n5_ n6_ n7_ n8_ ⊢
             have HO630 := n0_
             have HO633 := n1_
             have HO648 := n2_
             have HO651 := n3_
             have HO661 := n4_
             have BK609 := n5_
             have BK610 := n6_
             have BK672 := n7_
             have HB := n8_
             clear n0_ n1_ n2_ n3_ n4_ n5_ n6_ n7_ n8_
             replace HO630 := Aside0.mk (Kd.V_drew HO630.out)
             replace HO633 := Aside0.mk (Kd.V_drew HO633.out)
             replace HO648 := Aside0.mk (Kd.R_drew HO648.out)
             replace HO651 := Aside0.mk (Kd.R_drew HO651.out)
             replace HO661 := Aside0.mk (Kd.R_drew HO661.out)
             replace BK609 := Aside0.mk (blk_drew BK609.out)
             replace BK610 := Aside0.mk (blk_drew BK610.out)
             replace BK672 := Aside0.mk (blk_drew BK672.out)
             replace HB := Aside0.mk (below_drew1 HB.out)
             refine start_ (n := 18) (S := fun w' => w'.cell? ⟨gb672, 0, none⟩ = some (.string t662) ∧ w'.cell? ⟨gb672, 1, none⟩ = some (.int .i64 t663) ∧ w'.cell? ⟨gb672, 2, none⟩ = some (.float .f64 t664) ∧ w'.cell? ⟨gb672, 3, none⟩ = some (.string t665) ∧ w'.cell? ⟨gb672, 4, none⟩ = some (.int .i64 t666) ∧ w'.cell? ⟨gb672, 5, none⟩ = some (.int .i64 t667) ∧ w'.cell? ⟨gb672, 6, none⟩ = some (.float .f64 t668) ∧ w'.cell? ⟨gb672, 7, none⟩ = some (.string t669) ∧ w'.cell? ⟨gb609, 0, none⟩ = some (.string t612) ∧ w'.cell? ⟨gb609, 1, none⟩ = some (.int .i64 t613) ∧ w'.cell? ⟨gb609, 2, none⟩ = some (.float .f64 t614) ∧ w'.cell? ⟨gb609, 3, none⟩ = some (.string t615) ∧ w'.cell? ⟨gb609, 4, none⟩ = some (.int .i64 t616) ∧ w'.cell? ⟨gb609, 5, none⟩ = some (.int .i64 t617) ∧ w'.cell? ⟨gb609, 6, none⟩ = some (.float .f64 t618) ∧ w'.cell? ⟨gb609, 7, none⟩ = some (.string t619)) (ds := []) #[false, false, false, false, false, false, false, false, false, false, false, false, false, false, false, false, false, false] (by kernel_rfl) rfl rfl (bn8 BK672 (be8 BK609)) (fun hHeld => ?_); refine with_tabW engrosslaw10_CellBytes.tab11 engrosslaw10_CellBytes.bits11 (fun HT_ HW_ => ?_)
             generalize w78.drew = w79 at HO630 HO633 HO648 HO651 HO661 BK609 BK610 BK672 HB hHeld ⊢
             refine pure_ (i := 0) (N := some 54) (v := ?_) (a' := ?_) #[true, false, false, false, false, false, false, false, false, false, false, false, false, false, false, false, false, false] rfl rfl (any_of HT_.out (by kernel_rfl)) (fun _ _ _ h => h) (Or.inl ⟨by rfl, ?_⟩) ?_ ?_
             rotate_left
             ·intro w'
              go_simp
              with_reducible rfl
             rotate_left
             ·simp only [Act.put, List.setIfInBounds_toArray, List.set_cons_zero, List.set_cons_succ, i64_w, i32_w]
              rfl
             refine pure_ (i := 1) (N := some 55) (v := ?_) (a' := ?_) #[true, true, false, false, false, false, false, false, false, false, false, false, false, false, false, false, false, false] rfl rfl (any_of HT_.out (by kernel_rfl)) (fun _ _ _ h => h) (Or.inl ⟨by rfl, ?_⟩) ?_ ?_
             rotate_left
             ·intro w'
              go_simp
              with_reducible rfl
             rotate_left
             ·simp only [Act.put, List.setIfInBounds_toArray, List.set_cons_zero, List.set_cons_succ, i64_w, i32_w]
              rfl
             refine pure_ (i := 2) (N := some 56) (v := ?_) (a' := ?_) #[true, true, true, false, false, false, false, false, false, false, false, false, false, false, false, false, false, false] rfl rfl (any_of HT_.out (by kernel_rfl)) (fun _ _ _ h => h) (Or.inl ⟨by rfl, ?_⟩) ?_ ?_
             rotate_left
             ·intro w'
              go_simp
              with_reducible rfl
             rotate_left
             ·simp only [Act.put, List.setIfInBounds_toArray, List.set_cons_zero, List.set_cons_succ, i64_w, i32_w]
              rfl
             refine pure_ (i := 3) (N := some 57) (v := ?_) (a' := ?_) #[true, true, true, true, false, false, false, false, false, false, false, false, false, false, false, false, false, false] rfl rfl (any_of HT_.out (by kernel_rfl)) (fun _ _ _ h => h) (Or.inl ⟨by rfl, ?_⟩) ?_ ?_
             rotate_left
             ·intro w'
              go_simp
              with_reducible rfl
             rotate_left
             ·simp only [Act.put, List.setIfInBounds_toArray, List.set_cons_zero, List.set_cons_succ, i64_w, i32_w]
              rfl
             refine pure_ (i := 4) (N := some 58) (v := ?_) (a' := ?_) #[true, true, true, true, true, false, false, false, false, false, false, false, false, false, false, false, false, false] rfl rfl (any_of HT_.out (by kernel_rfl)) (fun _ _ _ h => h) (Or.inl ⟨by rfl, ?_⟩) ?_ ?_
             rotate_left
             ·intro w'
              go_simp
              with_reducible rfl
             rotate_left
             ·simp only [Act.put, List.setIfInBounds_toArray, List.set_cons_zero, List.set_cons_succ, i64_w, i32_w]
              rfl
             refine pure_ (i := 5) (N := some 59) (v := ?_) (a' := ?_) #[true, true, true, true, true, true, false, false, false, false, false, false, false, false, false, false, false, false] rfl rfl (any_of HT_.out (by kernel_rfl)) (fun _ _ _ h => h) (Or.inl ⟨by rfl, ?_⟩) ?_ ?_
             rotate_left
             ·intro w'
              go_simp
              with_reducible rfl
             rotate_left
             ·simp only [Act.put, List.setIfInBounds_toArray, List.set_cons_zero, List.set_cons_succ, i64_w, i32_w]
              rfl
             refine pure_ (i := 6) (N := some 60) (v := ?_) (a' := ?_) #[true, true, true, true, true, true, true, false, false, false, false, false, false, false, false, false, false, false] rfl rfl (any_of HT_.out (by kernel_rfl)) (fun _ _ _ h => h) (Or.inl ⟨by rfl, ?_⟩) ?_ ?_
             rotate_left
             ·intro w'
              go_simp
              with_reducible rfl
             rotate_left
             ·simp only [Act.put, List.setIfInBounds_toArray, List.set_cons_zero, List.set_cons_succ, i64_w, i32_w]
              rfl
             refine pure_ (i := 7) (N := some 61) (v := ?_) (a' := ?_) #[true, true, true, true, true, true, true, true, false, false, false, false, false, false, false, false, false, false] rfl rfl (any_of HT_.out (by kernel_rfl)) (fun _ _ _ h => h) (Or.inl ⟨by rfl, ?_⟩) ?_ ?_
             rotate_left
             ·intro w'
              go_simp
              with_reducible rfl
             rotate_left
             ·simp only [Act.put, List.setIfInBounds_toArray, List.set_cons_zero, List.set_cons_succ, i64_w, i32_w]
              rfl
             refine pure_ (i := 8) (N := some 62) (v := ?_) (a' := ?_) #[true, true, true, true, true, true, true, true, true, false, false, false, false, false, false, false, false, false] rfl rfl (any_of HT_.out (by kernel_rfl)) (fun _ _ _ h => h) (Or.inl ⟨by rfl, ?_⟩) ?_ ?_
             rotate_left
             ·intro w'
              go_simp
              with_reducible rfl
             rotate_left
             ·simp only [Act.put, List.setIfInBounds_toArray, List.set_cons_zero, List.set_cons_succ, i64_w, i32_w]
              rfl
             refine pure_ (i := 9) (N := some 63) (v := ?_) (a' := ?_) #[true, true, true, true, true, true, true, true, true, true, false, false, false, false, false, false, false, false] rfl rfl (any_of HT_.out (by kernel_rfl)) (fun _ _ _ h => h) (Or.inl ⟨by rfl, ?_⟩) ?_ ?_
             rotate_left
             ·intro w'
              go_simp
              with_reducible rfl
             rotate_left
             ·simp only [Act.put, List.setIfInBounds_toArray, List.set_cons_zero, List.set_cons_succ, i64_w, i32_w]
              rfl
             refine pure_ (i := 10) (N := some 64) (v := ?_) (a' := ?_) #[true, true, true, true, true, true, true, true, true, true, true, false, false, false, false, false, false, false] rfl rfl (any_of HT_.out (by kernel_rfl)) (fun _ _ _ h => h) (Or.inl ⟨by rfl, ?_⟩) ?_ ?_
             rotate_left
             ·intro w'
              go_simp
              with_reducible rfl
             rotate_left
             ·simp only [Act.put, List.setIfInBounds_toArray, List.set_cons_zero, List.set_cons_succ, i64_w, i32_w]
              rfl
             refine pure_ (i := 11) (N := some 65) (v := ?_) (a' := ?_) #[true, true, true, true, true, true, true, true, true, true, true, true, false, false, false, false, false, false] rfl rfl (any_of HT_.out (by kernel_rfl)) (fun _ _ _ h => h) (Or.inl ⟨by rfl, ?_⟩) ?_ ?_
             rotate_left
             ·intro w'
              go_simp
              with_reducible rfl
             rotate_left
             ·simp only [Act.put, List.setIfInBounds_toArray, List.set_cons_zero, List.set_cons_succ, i64_w, i32_w]
              rfl
             refine take_ (i := 12) (N := some 66) (v := ?_) (a' := ?_) #[true, true, true, true, true, true, true, true, true, true, true, true, true, false, false, false, false, false] rfl rfl (take_ofW HT_.out HW_.out (by kernel_rfl)) (fun _ _ _ h => h) (Or.inl ⟨by rfl, ?_⟩) hHeld ?_ ?_
             rotate_left
             ·rintro w' ⟨s0, s1, s2, s3, s4, s5, s6, s7, s8, s9, s10, s11, s12, s13, s14, s15⟩
              go_simp
              with_reducible rfl
             rotate_left
             ·simp only [Act.put, List.setIfInBounds_toArray, List.set_cons_zero, List.set_cons_succ, i64_w, i32_w]
              rfl
             refine take_ (i := 14) (N := some 68) (v := ?_) (a' := ?_) #[true, true, true, true, true, true, true, true, true, true, true, true, true, false, true, false, false, false] rfl rfl (take_ofW HT_.out HW_.out (by kernel_rfl)) (fun _ _ _ h => h) (Or.inl ⟨by rfl, ?_⟩) hHeld ?_ ?_
             rotate_left
             ·rintro w' ⟨s0, s1, s2, s3, s4, s5, s6, s7, s8, s9, s10, s11, s12, s13, s14, s15⟩
              go_simp
              with_reducible rfl
             rotate_left
             ·simp only [Act.put, List.setIfInBounds_toArray, List.set_cons_zero, List.set_cons_succ, i64_w, i32_w]
              rfl
             refine one_ (i := 13) (N := some 67) #[true, true, true, true, true, true, true, true, true, true, true, true, true, true, true, false, false, false] rfl rfl (one_of HT_.out (by kernel_rfl)) (by decide) (fun K hK => ?_)
             refine goes_ Try.func25 (by kernel_rfl) rfl #[.agg #[.string t662, .int .i64 t663, .float .f64 t664, .string t665, .int .i64 t666, .int .i64 t667, .float .f64 t668, .string t669]] (by rfl) rfl rfl (by (try simp only [List.map_toArray, List.map_cons, List.map_nil]); first | done | rfl | (simp only [List.length_drop, List.length_take]; rfl)) ?_
             with_reducible refine (engrosslaw10_Back.calls t662 t663 t664 t665 t666 t667 t668 t669 t673 t674 t675 t676 t677 t678 t679 t680 _ A76.out).mono ?_
             rintro e w80 ⟨rfl, hb⟩
             refine ⟨_, rfl, ?_⟩
             replace HO630 := Aside0.mk (Kd.V_below (by (with_reducible repeat (first | apply Kd.V_alloc | apply Kd.V_drewN | apply Kd.V_drew)); exact HO630.out) hb)
             replace HO633 := Aside0.mk (Kd.V_below (by (with_reducible repeat (first | apply Kd.V_alloc | apply Kd.V_drewN | apply Kd.V_drew)); exact HO633.out) hb)
             replace HO648 := Aside0.mk (Kd.R_below (by (with_reducible repeat (first | apply Kd.R_alloc | apply Kd.R_drewN | apply Kd.R_drew)); exact HO648.out) hb)
             replace HO651 := Aside0.mk (Kd.R_below (by (with_reducible repeat (first | apply Kd.R_alloc | apply Kd.R_drewN | apply Kd.R_drew)); exact HO651.out) hb)
             replace HO661 := Aside0.mk (Kd.R_below (by (with_reducible repeat (first | apply Kd.R_alloc | apply Kd.R_drewN | apply Kd.R_drew)); exact HO661.out) hb)
             replace BK609 := bB BK609 hb
             replace BK610 := bB BK610 hb
             replace BK672 := bB BK672 hb
             replace HB := bW HB hb
             (try clear hb)
             (try clear hb2)
             (try clear hk)
             (try clear hi)
             refine hK.out _ _ (bn8 BK672 (be8 BK609)) (fun hHeld => ?_)
             clear hK K
             refine norm_ (a' := ?_) ?_ ?_
             rotate_left
             ·show Act.put _ (some 67) _ = _
              simp only [Act.put, List.setIfInBounds_toArray, List.set_cons_zero, List.set_cons_succ, i64_w, i32_w]
              rfl
             refine one_ (i := 15) (N := some 69) #[true, true, true, true, true, true, true, true, true, true, true, true, true, true, true, true, false, false] rfl rfl (one_of HT_.out (by kernel_rfl)) (by decide) (fun K hK => ?_)
             refine goes_ Try.func20 (by kernel_rfl) rfl #[.agg #[.string t673, .int .i64 t674, .float .f64 t675, .string t676, .int .i64 t677, .int .i64 t678, .float .f64 t679, .string t680], .agg #[.string t612, .int .i64 t613, .float .f64 t614, .string t615, .int .i64 t616, .int .i64 t617, .float .f64 t618, .string t619]] (by rfl) rfl rfl (by (try simp only [List.map_toArray, List.map_cons, List.map_nil]); first | done | rfl | (simp only [List.length_drop, List.length_take]; rfl)) ?_
             with_reducible refine (engrossref10_Eq.calls t673 t674 t675 t676 t677 t678 t679 t680 t612 t613 t614 t615 t616 t617 t618 t619 t681 _ A77.out).mono ?_
             rintro e w81 ⟨rfl, hb⟩
             refine ⟨_, rfl, ?_⟩
             replace HO630 := Aside0.mk (Kd.V_below (by (with_reducible repeat (first | apply Kd.V_alloc | apply Kd.V_drewN | apply Kd.V_drew)); exact HO630.out) hb)
             replace HO633 := Aside0.mk (Kd.V_below (by (with_reducible repeat (first | apply Kd.V_alloc | apply Kd.V_drewN | apply Kd.V_drew)); exact HO633.out) hb)
             replace HO648 := Aside0.mk (Kd.R_below (by (with_reducible repeat (first | apply Kd.R_alloc | apply Kd.R_drewN | apply Kd.R_drew)); exact HO648.out) hb)
             replace HO651 := Aside0.mk (Kd.R_below (by (with_reducible repeat (first | apply Kd.R_alloc | apply Kd.R_drewN | apply Kd.R_drew)); exact HO651.out) hb)
             replace HO661 := Aside0.mk (Kd.R_below (by (with_reducible repeat (first | apply Kd.R_alloc | apply Kd.R_drewN | apply Kd.R_drew)); exact HO661.out) hb)
             replace BK609 := bB BK609 hb
             replace BK610 := bB BK610 hb
             replace BK672 := bB BK672 hb
             replace HB := bW HB hb
             (try clear hb)
             (try clear hb2)
             (try clear hk)
             (try clear hi)
             refine hK.out _ _ (bn8 BK672 (be8 BK609)) (fun hHeld => ?_)
             clear hK K
             refine norm_ (a' := ?_) ?_ ?_
             rotate_left
             ·show Act.put _ (some 69) _ = _
              simp only [Act.put, List.setIfInBounds_toArray, List.set_cons_zero, List.set_cons_succ, i64_w, i32_w]
              rfl
             refine pure_ (i := 16) (N := some 70) (v := ?_) (a' := ?_) #[true, true, true, true, true, true, true, true, true, true, true, true, true, true, true, true, true, false] rfl rfl (any_of HT_.out (by kernel_rfl)) (fun _ _ _ h => h) (Or.inl ⟨by rfl, ?_⟩) ?_ ?_
             rotate_left
             ·intro w'
              go_simp
              with_reducible rfl
             rotate_left
             ·simp only [Act.put, List.setIfInBounds_toArray, List.set_cons_zero, List.set_cons_succ, i64_w, i32_w]
              rfl
             refine pure_ (i := 17) (N := some 71) (v := ?_) (a' := ?_) #[true, true, true, true, true, true, true, true, true, true, true, true, true, true, true, true, true, true] rfl rfl (any_of HT_.out (by kernel_rfl)) (fun _ _ _ h => h) (Or.inl ⟨by rfl, ?_⟩) ?_ ?_
             rotate_left
             ·intro w'
              go_simp
              with_reducible rfl
             rotate_left
             ·simp only [Act.put, List.setIfInBounds_toArray, List.set_cons_zero, List.set_cons_succ, i64_w, i32_w]
              rfl
             refine done_ (done_of HT_.out (by kernel_rfl)) ?_
             try go_wp2
             go_meet
             case rel => exact ⟨_, (!t681), (by first | rfl | (simp; done) | (simp [*]; done)), H', ⟨by first | omega | exact Nat.le_refl _⟩, ⟨by (with_reducible repeat (first | apply Kd.V_alloc | apply Kd.V_drewN | apply Kd.V_drew)); exact Kd.V_mono HO630.out (fun _ hk => ⟨hk.1, ⟨hk.2.2.2.1, ⟨hk.2.2.2.2.1, hk.2.2.2.2.2⟩⟩⟩)⟩, ⟨by (with_reducible repeat (first | apply Kd.R_alloc | apply Kd.R_drewN | apply Kd.R_drew)); exact Kd.R_mono HO648.out (fun _ hk => trivial)⟩, ⟨by (with_reducible repeat (first | refine blk_drewN ?_ _ | refine blk_drew ?_ | refine blk_alloc ?_ _)); exact BK609.out⟩, ⟨by (with_reducible repeat (first | refine blk_drewN ?_ _ | refine blk_drew ?_ | refine blk_alloc ?_ _)); exact BK610.out⟩, ⟨by (with_reducible repeat (first | refine blk_drewN ?_ _ | refine blk_drew ?_ | refine blk_alloc ?_ _)); exact BK672.out⟩, ⟨by repeat (first | (with_reducible first | exact HB.out | apply below_alloc | apply pw_below_drewN | apply below_drew1 | refine below_set ?_ GE609.out | refine below_set ?_ GE610.out | refine below_set ?_ GE672.out) | exact HB.out)⟩⟩
            ·rw [if_neg c75] at H
             have c75b0 : (t670 == (wrap64 ((t646.length : Int) - (t628.length : Int)))) = false := beq_eq_false_iff_ne.mpr c75
             have c75b1 : (t670 != (wrap64 ((t646.length : Int) - (t628.length : Int)))) = true := bne_iff_ne.mpr c75
             exact absurd H (by simp)
           ·rw [if_neg c74] at H
            have c74b0 : (t671 == 0) = false := beq_eq_false_iff_ne.mpr c74
            have c74b1 : (t671 != 0) = true := bne_iff_ne.mpr c74
            (first | rw [c74b0] | (simp only [i64_w, i32_w]; rw [c74b0]) | skip)
            exact absurd H (by simp)
          case rest =>
           clear HC24
           try clear c1
           try clear c2
           try clear p2
           try clear c3
           try clear c6
           try clear p6
           try clear q6
           try clear hcv6
           try clear c7
           try clear c13
           try clear c14
           try clear c20
           try clear c21
           try clear c22
           try clear c25
           try clear c29
           try clear c30
           try clear c31
           try clear hcv62
           try clear c63
           try clear q63
           try clear p64
           try clear c71
           try clear c72
           try clear c74
           try clear c74b0
           try clear c74b1
           try clear c75
           try clear c75b0
           try clear c75b1
           try clear hcz73_0
           try clear hcz73_1
           try clear hcz73_2
           try clear hcz73_3
           try clear hcz73_4
           try clear hcz73_5
           try clear hcz73_6
           try clear hcz73_7
           try clear hfz73_0
           try clear hfz73_1
           try clear hfz73_2
           try clear hfz73_3
           try clear hfz73_4
           try clear hfz73_5
           try clear hfz73_6
           try clear hfz73_7
           try clear q063
           try clear q63
           obtain ⟨kq, x71_23, rfl, HA, HJ23, HO_2, HO_10, BK609, BK610, BK672, HB⟩ := hcut
           cases kq with
           | zero => exact absurd HA.out (by simp [engrosslaw10_CellBytes.j0])
           | succ kj23 =>
            have H := HA.out
            clear HA
            simp only [engrosslaw10_CellBytes.j0] at H
            by_cases c82 : x71_23 = true
            ·subst c82
             have H1 : (none) = some r := by rw [if_pos rfl] at H; exact H
             clear H
             have H := H1
             clear H1
             exact absurd H (by simp)
            ·replace c82 := Bool.eq_false_iff.mpr c82
             subst c82
             have H1 : ((engrossref10_May.f t620 t621 t622 t623 t624 t625 t626 t627).bind fun t682 => (if t682 = true then ((engrosslaw10_Of.f t620 t621 t622 t623 t624 t625 t626 t627).bind fun bt683 => ((cell_Put.f kj23 ([] : List Int) bt683.1 bt683.2.1 bt683.2.2.1 bt683.2.2.2.1 bt683.2.2.2.2.1 bt683.2.2.2.2.2.1 bt683.2.2.2.2.2.2.1 bt683.2.2.2.2.2.2.2).bind fun t691 => (if 0 ≤ (t628.length : Int) then (if (t628.length : Int) ≤ (t646.length : Int) then ((engrossref10_Eq.f t612 t613 t614 t615 t616 t617 t618 t619 t620 t621 t622 t623 t624 t625 t626 t627).bind fun t698 => (some (((strOfNums t691).toList == (strOfNums (t646.drop ((t628.length : Int) : Int).toNat)).toList) == t698))) else (none)) else (none)))) else (some true))) = some r := by rw [if_neg (show ¬ (false = true) by decide)] at H; exact H
             clear H
             have H := H1
             clear H1
             replace H := Option.bind_eq_some_iff.mp H
             obtain ⟨t682, A830, H⟩ := H
             replace H : (if t682 = true then ((engrosslaw10_Of.f t620 t621 t622 t623 t624 t625 t626 t627).bind fun bt683 => ((cell_Put.f kj23 ([] : List Int) bt683.1 bt683.2.1 bt683.2.2.1 bt683.2.2.2.1 bt683.2.2.2.2.1 bt683.2.2.2.2.2.1 bt683.2.2.2.2.2.2.1 bt683.2.2.2.2.2.2.2).bind fun t691 => (if 0 ≤ (t628.length : Int) then (if (t628.length : Int) ≤ (t646.length : Int) then ((engrossref10_Eq.f t612 t613 t614 t615 t616 t617 t618 t619 t620 t621 t622 t623 t624 t625 t626 t627).bind fun t698 => (some (((strOfNums t691).toList == (strOfNums (t646.drop ((t628.length : Int) : Int).toNat)).toList) == t698))) else (none)) else (none)))) else (some true)) = some r := H
             have A83 := Aside0.mk A830
             clear A830
             by_cases c84 : t682 = true
             ·subst c84
              have H1 : ((engrosslaw10_Of.f t620 t621 t622 t623 t624 t625 t626 t627).bind fun bt683 => ((cell_Put.f kj23 ([] : List Int) bt683.1 bt683.2.1 bt683.2.2.1 bt683.2.2.2.1 bt683.2.2.2.2.1 bt683.2.2.2.2.2.1 bt683.2.2.2.2.2.2.1 bt683.2.2.2.2.2.2.2).bind fun t691 => (if 0 ≤ (t628.length : Int) then (if (t628.length : Int) ≤ (t646.length : Int) then ((engrossref10_Eq.f t612 t613 t614 t615 t616 t617 t618 t619 t620 t621 t622 t623 t624 t625 t626 t627).bind fun t698 => (some (((strOfNums t691).toList == (strOfNums (t646.drop ((t628.length : Int) : Int).toNat)).toList) == t698))) else (none)) else (none)))) = some r := by rw [if_pos rfl] at H; exact H
              clear H
              have H := H1
              clear H1
              replace H := Option.bind_eq_some_iff.mp H
              obtain ⟨⟨t683, t684, t685, t686, t687, t688, t689, t690⟩, A850, H⟩ := H
              replace H : ((cell_Put.f kj23 ([] : List Int) t683 t684 t685 t686 t687 t688 t689 t690).bind fun t691 => (if 0 ≤ (t628.length : Int) then (if (t628.length : Int) ≤ (t646.length : Int) then ((engrossref10_Eq.f t612 t613 t614 t615 t616 t617 t618 t619 t620 t621 t622 t623 t624 t625 t626 t627).bind fun t698 => (some (((strOfNums t691).toList == (strOfNums (t646.drop ((t628.length : Int) : Int).toNat)).toList) == t698))) else (none)) else (none))) = some r := H
              have A85 := Aside0.mk A850
              clear A850
              replace H := Option.bind_eq_some_iff.mp H
              obtain ⟨t691, A860, H⟩ := H
              replace H : (if 0 ≤ (t628.length : Int) then (if (t628.length : Int) ≤ (t646.length : Int) then ((engrossref10_Eq.f t612 t613 t614 t615 t616 t617 t618 t619 t620 t621 t622 t623 t624 t625 t626 t627).bind fun t698 => (some (((strOfNums t691).toList == (strOfNums (t646.drop ((t628.length : Int) : Int).toNat)).toList) == t698))) else (none)) else (none)) = some r := H
              have A86 := Aside0.mk A860
              clear A860
              by_cases c87 : 0 ≤ (t628.length : Int)
              ·rw [if_pos c87] at H
               have c87b0 := eq_true c87
               have c87b1 : decide (0 ≤ (t628.length : Int)) = true := decide_eq_true c87
               clear c87
               by_cases c88 : (t628.length : Int) ≤ (t646.length : Int)
               ·rw [if_pos c88] at H
                have c88b0 := eq_true c88
                have c88b1 : decide ((t628.length : Int) ≤ (t646.length : Int)) = true := decide_eq_true c88
                clear c88
                obtain ⟨y694, hy694⟩ : ∃ y_ : List Int, y_ = (t646.drop ((t628.length : Int) : Int).toNat) := ⟨_, rfl⟩
                replace H : ((engrossref10_Eq.f t612 t613 t614 t615 t616 t617 t618 t619 t620 t621 t622 t623 t624 t625 t626 t627).bind fun t698 => (some (((strOfNums t691).toList == (strOfNums y694).toList) == t698))) = some r := by first | (rw [hy694]; with_reducible exact H) | (have H2_ := (Option.bind_some _ _).symm.trans H; rw [hy694]; with_reducible exact H2_) | (have H2_ := (Option.bind_some _ _).symm.trans H; with_reducible exact H2_) | with_reducible exact H | (rw [hy694]; exact H) | exact H
                have Ny694 := Aside0.mk hy694
                clear hy694
                replace H := Option.bind_eq_some_iff.mp H
                obtain ⟨t698, A890, H⟩ := H
                replace H : (some (((strOfNums t691).toList == (strOfNums y694).toList) == t698)) = some r := H
                have A89 := Aside0.mk A890
                clear A890
                obtain rfl := Option.some.inj H
                try clear hcut63
                have q94 : ((t628.length : Int) : Int) ≤ ((t646.length : Int) : Int) := of_decide_eq_true (by first | (with_reducible assumption) | assumption)
                obtain ⟨i094, hi094, _, hsz94, _⟩ := info_parts info5
                have hroom94 : t646.length ≤ co64 := (Kd.R_reads' HO_10.out).2.1
                have hC94 : Kd.C (Kd.int .u8) _ Ao64 t646.length t646 := (Kd.R_reads' HO_10.out).2.2
                have q094 : (0 : Int) ≤ ((t628.length : Int) : Int) := of_decide_eq_true (by first | (with_reducible assumption) | assumption)
                have hcut94 := cut_from (P := Try.prog) 47 5 .i64 Try.underlying47 hi094 1 hsz94 Ao64 t646.length co64 (t628.length : Int) q094 q94
                have hr94 := Kd.C_drop (m := ((t628.length : Int) : Int).toNat) (c := co64) hC94 (by omega) hroom94
                obtain ⟨A94, hA94⟩ : ∃ A1, A1 = (if co64 = ((t628.length : Int) : Int).toNat then Ao64 else (Ao64 : Option Addr).map (·.add (((t628.length : Int) : Int).toNat * 1))) := ⟨_, rfl⟩
                obtain ⟨c94, hc94⟩ : ∃ c1, c1 = co64 - ((t628.length : Int) : Int).toNat := ⟨_, rfl⟩
                have hy94 : y694.length = t646.length - ((t628.length : Int) : Int).toNat := (by rw [Ny694.out, List.length_drop] <;> omega)
                rw [show (t646).drop ((t628.length : Int) : Int).toNat = y694 from Ny694.out.symm] at hr94
                replace hr94 : Kd.C (Kd.int .u8) _ A94 y694.length y694 := (by rw [hA94]; exact hr94)
                rw [← hy94, ← hA94, ← hc94] at hcut94
                have HR697 := Aside0.mk hr94
                have HC697 := Aside0.mk (show y694.length ≤ c94 from by rw [hy94, hc94]; exact Nat.sub_le_sub_right hroom94 _)
                clear hr94 hC94 hroom94 hi094 hsz94 hc94
                have KY94 := Aside0.mk hy94
                have KA94 := Aside0.mk hA94
                clear hy94 hA94
                have KL94 := Aside0.mk (show ((t628.length : Int) : Int).toNat ≤ t646.length from by omega)
                try go_wp2
                replace HO_2 := Aside0.mk (Kd.V_drew HO_2.out)
                replace HO_10 := Aside0.mk (Kd.R_drew HO_10.out)
                replace BK609 := Aside0.mk (blk_drew BK609.out)
                replace BK610 := Aside0.mk (blk_drew BK610.out)
                replace BK672 := Aside0.mk (blk_drew BK672.out)
                replace HB := Aside0.mk (below_drew1 HB.out)
                replace HR697 := Aside0.mk (Kd.C_drew HR697.out)
                refine start_ (n := 20) (S := fun w' => w'.cell? ⟨gb610, 0, none⟩ = some (.string t620) ∧ w'.cell? ⟨gb610, 1, none⟩ = some (.int .i64 t621) ∧ w'.cell? ⟨gb610, 2, none⟩ = some (.float .f64 t622) ∧ w'.cell? ⟨gb610, 3, none⟩ = some (.string t623) ∧ w'.cell? ⟨gb610, 4, none⟩ = some (.int .i64 t624) ∧ w'.cell? ⟨gb610, 5, none⟩ = some (.int .i64 t625) ∧ w'.cell? ⟨gb610, 6, none⟩ = some (.float .f64 t626) ∧ w'.cell? ⟨gb610, 7, none⟩ = some (.string t627) ∧ w'.cell? ⟨gb609, 0, none⟩ = some (.string t612) ∧ w'.cell? ⟨gb609, 1, none⟩ = some (.int .i64 t613) ∧ w'.cell? ⟨gb609, 2, none⟩ = some (.float .f64 t614) ∧ w'.cell? ⟨gb609, 3, none⟩ = some (.string t615) ∧ w'.cell? ⟨gb609, 4, none⟩ = some (.int .i64 t616) ∧ w'.cell? ⟨gb609, 5, none⟩ = some (.int .i64 t617) ∧ w'.cell? ⟨gb609, 6, none⟩ = some (.float .f64 t618) ∧ w'.cell? ⟨gb609, 7, none⟩ = some (.string t619) ∧ (convert 47 9 (.slice A94 y694.length c94)).run Try.prog w' = .ok (.string (strOfNums y694)) w') (ds := []) #[false, false, false, false, false, false, false, false, false, false, false, false, false, false, false, false, false, false, false, false] (by kernel_rfl) rfl rfl (bn8 BK610 (bn8 BK609 ((by have T_ := Kd.x_C_string (P := Try.prog) (A := A94) (c := c94) Try.underlying47 Try.underlying5 Try.underlying9 (by repeat (first | (with_reducible exact HR697.out) | (with_reducible refine Kd.C_alloc ?_ _) | (with_reducible refine Kd.C_drewN ?_ _) | (with_reducible refine Kd.C_drew ?_) | exact HR697.out)); first | exact T_.1 | exact T_.2 _ | (simp only [World.drewN_drewN]; exact T_.2 _))))) (fun hHeld => ?_); refine with_tabW engrosslaw10_CellBytes.tab13 engrosslaw10_CellBytes.bits13 (fun HT_ HW_ => ?_)
                generalize wc.drew = w90 at HR697 HO_2 HO_10 BK609 BK610 BK672 HB hHeld ⊢
                refine take_ (i := 0) (N := some 72) (v := ?_) (a' := ?_) #[true, false, false, false, false, false, false, false, false, false, false, false, false, false, false, false, false, false, false, false] rfl rfl (take_ofW HT_.out HW_.out (by kernel_rfl)) (fun _ _ _ h => h) (Or.inl ⟨by rfl, ?_⟩) hHeld ?_ ?_
                rotate_left
                ·rintro w' ⟨s0, s1, s2, s3, s4, s5, s6, s7, s8, s9, s10, s11, s12, s13, s14, s15, s16⟩
                 go_simp
                 with_reducible rfl
                rotate_left
                ·simp only [Act.put, List.setIfInBounds_toArray, List.set_cons_zero, List.set_cons_succ, i64_w, i32_w]
                 rfl
                refine one_ (i := 1) (N := some 73) #[true, true, false, false, false, false, false, false, false, false, false, false, false, false, false, false, false, false, false, false] rfl rfl (one_of HT_.out (by kernel_rfl)) (by decide) (fun K hK => ?_)
                refine goes_ Try.func15 (by kernel_rfl) rfl #[.agg #[.string t620, .int .i64 t621, .float .f64 t622, .string t623, .int .i64 t624, .int .i64 t625, .float .f64 t626, .string t627]] (by rfl) rfl rfl (by (try simp only [List.map_toArray, List.map_cons, List.map_nil]); first | done | rfl | (simp only [List.length_drop, List.length_take]; rfl)) ?_
                with_reducible refine (engrossref10_May.calls t620 t621 t622 t623 t624 t625 t626 t627 true _ A83.out).mono ?_
                rintro e w91 ⟨rfl, hb⟩
                refine ⟨_, rfl, ?_⟩
                replace HO_2 := Aside0.mk (Kd.V_below (by (with_reducible repeat (first | apply Kd.V_alloc | apply Kd.V_drewN | apply Kd.V_drew)); exact HO_2.out) hb)
                replace HO_10 := Aside0.mk (Kd.R_below (by (with_reducible repeat (first | apply Kd.R_alloc | apply Kd.R_drewN | apply Kd.R_drew)); exact HO_10.out) hb)
                replace BK609 := bB BK609 hb
                replace BK610 := bB BK610 hb
                replace BK672 := bB BK672 hb
                replace HB := bW HB hb
                (try clear hb)
                (try clear hb2)
                (try clear hk)
                (try clear hi)
                replace HR697 := Aside0.mk (show Kd.C (Kd.int .u8) w91 A94 y694.length y694 from by rw [Ny694.out, KA94.out]; exact Kd.C_drop (m := ((t628.length : Int) : Int).toNat) (c := co64) (Kd.R_reads' HO_10.out).2.2 KL94.out (Kd.R_reads' HO_10.out).2.1)
                refine hK.out _ _ (bn8 BK610 (bn8 BK609 ((by have T_ := Kd.x_C_string (P := Try.prog) (A := A94) (c := c94) Try.underlying47 Try.underlying5 Try.underlying9 (by repeat (first | (with_reducible exact HR697.out) | (with_reducible refine Kd.C_alloc ?_ _) | (with_reducible refine Kd.C_drewN ?_ _) | (with_reducible refine Kd.C_drew ?_) | exact HR697.out)); first | exact T_.1 | exact T_.2 _ | (simp only [World.drewN_drewN]; exact T_.2 _))))) (fun hHeld => ?_)
                clear hK K
                refine norm_ (a' := ?_) ?_ ?_
                rotate_left
                ·show Act.put _ (some 73) _ = _
                 simp only [Act.put, List.setIfInBounds_toArray, List.set_cons_zero, List.set_cons_succ, i64_w, i32_w]
                 rfl
                refine pure_ (i := 2) (N := some 74) (v := ?_) (a' := ?_) #[true, true, true, false, false, false, false, false, false, false, false, false, false, false, false, false, false, false, false, false] rfl rfl (any_of HT_.out (by kernel_rfl)) (fun _ _ _ h => h) (Or.inl ⟨by rfl, ?_⟩) ?_ ?_
                rotate_left
                ·intro w'
                 go_simp
                 with_reducible rfl
                rotate_left
                ·simp only [Act.put, List.setIfInBounds_toArray, List.set_cons_zero, List.set_cons_succ, i64_w, i32_w]
                 rfl
                refine pure_ (i := 3) (N := some 75) (v := ?_) (a' := ?_) #[true, true, true, true, false, false, false, false, false, false, false, false, false, false, false, false, false, false, false, false] rfl rfl (any_of HT_.out (by kernel_rfl)) (fun _ _ _ h => h) (Or.inl ⟨by rfl, ?_⟩) ?_ ?_
                rotate_left
                ·intro w'
                 go_simp
                 with_reducible rfl
                rotate_left
                ·simp only [Act.put, List.setIfInBounds_toArray, List.set_cons_zero, List.set_cons_succ, i64_w, i32_w]
                 rfl
                refine pure_ (i := 8) (N := some 80) (v := ?_) (a' := ?_) #[true, true, true, true, false, false, false, false, true, false, false, false, false, false, false, false, false, false, false, false] rfl rfl (any_of HT_.out (by kernel_rfl)) (fun _ _ _ h => h) (Or.inl ⟨by rfl, ?_⟩) ?_ ?_
                rotate_left
                ·intro w'
                 go_simp
                 with_reducible rfl
                rotate_left
                ·simp only [Act.put, List.setIfInBounds_toArray, List.set_cons_zero, List.set_cons_succ, i64_w, i32_w]
                 rfl
                refine pure_ (i := 9) (N := some 81) (v := ?_) (a' := ?_) #[true, true, true, true, false, false, false, false, true, true, false, false, false, false, false, false, false, false, false, false] rfl rfl (any_of HT_.out (by kernel_rfl)) (fun _ _ _ h => h) (Or.inl ⟨by rfl, ?_⟩) ?_ ?_
                rotate_left
                ·intro w'
                 go_simp
                 with_reducible rfl
                rotate_left
                ·simp only [Act.put, List.setIfInBounds_toArray, List.set_cons_zero, List.set_cons_succ, i64_w, i32_w]
                 rfl
                refine pure_ (i := 10) (N := some 82) (v := ?_) (a' := ?_) #[true, true, true, true, false, false, false, false, true, true, true, false, false, false, false, false, false, false, false, false] rfl rfl (any_of HT_.out (by kernel_rfl)) (fun _ _ _ h => h) (Or.inl ⟨by rfl, ?_⟩) ?_ ?_
                rotate_left
                ·intro w'
                 go_simp
                 with_reducible rfl
                rotate_left
                ·simp only [Act.put, List.setIfInBounds_toArray, List.set_cons_zero, List.set_cons_succ, i64_w, i32_w]
                 rfl
                refine pure_ (i := 11) (N := some 83) (v := ?_) (a' := ?_) #[true, true, true, true, false, false, false, false, true, true, true, true, false, false, false, false, false, false, false, false] rfl rfl (any_of HT_.out (by kernel_rfl)) (fun _ _ _ h => h) (Or.inl ⟨by rfl, ?_⟩) ?_ ?_
                rotate_left
                ·intro w'
                 go_simp
                 with_reducible rfl
                rotate_left
                ·simp only [Act.put, List.setIfInBounds_toArray, List.set_cons_zero, List.set_cons_succ, i64_w, i32_w]
                 rfl
                refine take_ (i := 4) (N := some 76) (v := ?_) (a' := ?_) #[true, true, true, true, true, false, false, false, true, true, true, true, false, false, false, false, false, false, false, false] rfl rfl (take_ofW HT_.out HW_.out (by kernel_rfl)) (fun _ _ _ h => h) (Or.inl ⟨by rfl, ?_⟩) hHeld ?_ ?_
                rotate_left
                ·rintro w' ⟨s0, s1, s2, s3, s4, s5, s6, s7, s8, s9, s10, s11, s12, s13, s14, s15, s16⟩
                 go_simp
                 with_reducible rfl
                rotate_left
                ·simp only [Act.put, List.setIfInBounds_toArray, List.set_cons_zero, List.set_cons_succ, i64_w, i32_w]
                 rfl
                refine take_ (i := 12) (N := some 84) (v := ?_) (a' := ?_) #[true, true, true, true, true, false, false, false, true, true, true, true, true, false, false, false, false, false, false, false] rfl rfl (take_ofW HT_.out HW_.out (by kernel_rfl)) (fun _ _ _ h => h) (Or.inl ⟨by rfl, ?_⟩) hHeld ?_ ?_
                rotate_left
                ·rintro w' ⟨s0, s1, s2, s3, s4, s5, s6, s7, s8, s9, s10, s11, s12, s13, s14, s15, s16⟩
                 go_simp
                 with_reducible rfl
                rotate_left
                ·simp only [Act.put, List.setIfInBounds_toArray, List.set_cons_zero, List.set_cons_succ, i64_w, i32_w]
                 rfl
                refine take_ (i := 14) (N := some 86) (v := ?_) (a' := ?_) #[true, true, true, true, true, false, false, false, true, true, true, true, true, false, true, false, false, false, false, false] rfl rfl (take_ofW HT_.out HW_.out (by kernel_rfl)) (fun _ _ _ h => h) (Or.inl ⟨by rfl, ?_⟩) hHeld ?_ ?_
                rotate_left
                ·rintro w' ⟨s0, s1, s2, s3, s4, s5, s6, s7, s8, s9, s10, s11, s12, s13, s14, s15, s16⟩
                 go_simp
                 with_reducible rfl
                rotate_left
                ·simp only [Act.put, List.setIfInBounds_toArray, List.set_cons_zero, List.set_cons_succ, i64_w, i32_w]
                 rfl
                refine take_ (i := 15) (N := some 87) (v := ?_) (a' := ?_) #[true, true, true, true, true, false, false, false, true, true, true, true, true, false, true, true, false, false, false, false] rfl rfl (take_ofW HT_.out HW_.out (by kernel_rfl)) (fun _ _ _ h => h) (Or.inl ⟨by rfl, ?_⟩) hHeld ?_ ?_
                rotate_left
                ·rintro w' ⟨s0, s1, s2, s3, s4, s5, s6, s7, s8, s9, s10, s11, s12, s13, s14, s15, s16⟩
                 go_simp
                 with_reducible rfl
                rotate_left
                ·simp only [Act.put, List.setIfInBounds_toArray, List.set_cons_zero, List.set_cons_succ, i64_w, i32_w]
                 rfl
                refine one_ (i := 5) (N := some 77) #[true, true, true, true, true, true, false, false, true, true, true, true, true, false, true, true, false, false, false, false] rfl rfl (one_of HT_.out (by kernel_rfl)) (by decide) (fun K hK => ?_)
                refine goes_ Try.func14 (by kernel_rfl) rfl #[.agg #[.string t620, .int .i64 t621, .float .f64 t622, .string t623, .int .i64 t624, .int .i64 t625, .float .f64 t626, .string t627]] (by rfl) rfl rfl (by (try simp only [List.map_toArray, List.map_cons, List.map_nil]); first | done | rfl | (simp only [List.length_drop, List.length_take]; rfl)) ?_
                with_reducible refine (engrosslaw10_Of.calls t620 t621 t622 t623 t624 t625 t626 t627 t683 t684 t685 t686 t687 t688 t689 t690 _ A85.out).mono ?_
                rintro e w92 ⟨rfl, hb⟩
                refine ⟨_, rfl, ?_⟩
                replace HO_2 := Aside0.mk (Kd.V_below (by (with_reducible repeat (first | apply Kd.V_alloc | apply Kd.V_drewN | apply Kd.V_drew)); exact HO_2.out) hb)
                replace HO_10 := Aside0.mk (Kd.R_below (by (with_reducible repeat (first | apply Kd.R_alloc | apply Kd.R_drewN | apply Kd.R_drew)); exact HO_10.out) hb)
                replace BK609 := bB BK609 hb
                replace BK610 := bB BK610 hb
                replace BK672 := bB BK672 hb
                replace HB := bW HB hb
                (try clear hb)
                (try clear hb2)
                (try clear hk)
                (try clear hi)
                replace HR697 := Aside0.mk (show Kd.C (Kd.int .u8) w92 A94 y694.length y694 from by rw [Ny694.out, KA94.out]; exact Kd.C_drop (m := ((t628.length : Int) : Int).toNat) (c := co64) (Kd.R_reads' HO_10.out).2.2 KL94.out (Kd.R_reads' HO_10.out).2.1)
                refine hK.out _ _ (bn8 BK610 (bn8 BK609 ((by have T_ := Kd.x_C_string (P := Try.prog) (A := A94) (c := c94) Try.underlying47 Try.underlying5 Try.underlying9 (by repeat (first | (with_reducible exact HR697.out) | (with_reducible refine Kd.C_alloc ?_ _) | (with_reducible refine Kd.C_drewN ?_ _) | (with_reducible refine Kd.C_drew ?_) | exact HR697.out)); first | exact T_.1 | exact T_.2 _ | (simp only [World.drewN_drewN]; exact T_.2 _))))) (fun hHeld => ?_)
                clear hK K
                refine norm_ (a' := ?_) ?_ ?_
                rotate_left
                ·show Act.put _ (some 77) _ = _
                 simp only [Act.put, List.setIfInBounds_toArray, List.set_cons_zero, List.set_cons_succ, i64_w, i32_w]
                 rfl
                refine one_ (i := 6) (N := some 78) #[true, true, true, true, true, true, true, false, true, true, true, true, true, false, true, true, false, false, false, false] rfl rfl (one_of HT_.out (by kernel_rfl)) (by decide) (fun K hK => ?_)
                refine goes_ Try.func29 (by kernel_rfl) rfl #[.slice none 0 0, .agg #[.string t683, .int .i64 t684, .float .f64 t685, .string t686, .int .i64 t687, .int .i64 t688, .float .f64 t689, .string t690]] (by rfl) rfl rfl (by (try simp only [List.map_toArray, List.map_cons, List.map_nil]); first | done | rfl | (simp only [List.length_drop, List.length_take]; rfl)) ?_
                with_reducible refine (cell_Put.calls kj23 (fun k_ => some k_ = (.slice none 0 0 : Value).ownBlock) (.slice none 0 0) ([] : List Int) t683 t684 t685 t686 t687 t688 t689 t690 t691 w _ ?side1 ?side2 A86.out).mono ?_
                (case side1 => repeat (first | (with_reducible first | exact HB.out | apply below_alloc | apply pw_below_drewN | apply below_drew1 | refine below_set ?_ GE609.out | refine below_set ?_ GE610.out | refine below_set ?_ GE672.out) | exact HB.out))
                (case side2 => exact Kd.R_nil _ _ _ _ _)
                rintro e w93 ⟨v692, rfl, ho0, hb, hkp⟩
                refine ⟨_, rfl, ?_⟩
                have HO693 := Aside0.mk (Kd.R_mono (ok' := fun k_ => some k_ ≠ (.slice Ao64 t646.length co64 : Value).ownBlock) ho0 (fun k_ hk_ => Or.elim hk_ (fun hs_ => absurd hs_ (by simp [Value.ownBlock])) (fun hn_ => (Kd.fresh' (Kd.R_lt (by (with_reducible repeat (first | apply Kd.R_alloc | apply Kd.R_drewN | apply Kd.R_drew)); exact HO_10.out)) k_ hn_))))
                replace HO_2 := Aside0.mk (Kd.V_mono (ok' := fun k_ => some k_ ≠ (.slice Ao64 t646.length co64 : Value).ownBlock ∧ k_ ≠ gb609 ∧ k_ ≠ gb610 ∧ k_ ≠ gb672 ∧ some k_ ≠ (v692 : Value).ownBlock) (Kd.V_keptB (HO_2.out) hkp (fun k_ hk_ hs_ => (fun e_ => by simp [Value.ownBlock] at e_) hs_)) (fun k_ hk_ => ⟨hk_.1.1, hk_.1.2.1, hk_.1.2.2.1, hk_.1.2.2.2, fun e_ => Or.elim (ho0.1 k_ e_.symm) (fun hs_ => hk_.2.1 hs_) (fun hn_ => Nat.not_le.2 hk_.2.2 hn_)⟩))
                replace HO_10 := Aside0.mk (Kd.R_mono (ok' := fun k_ => some k_ ≠ (v692 : Value).ownBlock) (Kd.R_keptB (HO_10.out) hkp (fun k_ hk_ hs_ => (fun e_ => by simp [Value.ownBlock] at e_) hs_)) (fun k_ hk_ => fun e_ => Or.elim (ho0.1 k_ e_.symm) (fun hs_ => hk_.2.1 hs_) (fun hn_ => Nat.not_le.2 hk_.2.2 hn_)))
                replace BK609 := Aside0.mk (blk_kept (bQ BK609) hkp (fun hs_ => (fun e_ => by simp [Value.ownBlock] at e_) hs_))
                replace BK610 := Aside0.mk (blk_kept (bQ BK610) hkp (fun hs_ => (fun e_ => by simp [Value.ownBlock] at e_) hs_))
                replace BK672 := Aside0.mk (blk_kept (bQ BK672) hkp (fun hs_ => (fun e_ => by simp [Value.ownBlock] at e_) hs_))
                replace HB := Aside0.mk (hb)
                (try clear hb)
                (try clear hkp)
                (try clear ho0)
                replace HR697 := Aside0.mk (show Kd.C (Kd.int .u8) w93 A94 y694.length y694 from by rw [Ny694.out, KA94.out]; exact Kd.C_drop (m := ((t628.length : Int) : Int).toNat) (c := co64) (Kd.R_reads' HO_10.out).2.2 KL94.out (Kd.R_reads' HO_10.out).2.1)
                replace q94 := eq_true q94
                replace HR697 := Aside0.mk (show Kd.C (Kd.int .u8) w93 A94 y694.length y694 from by rw [Ny694.out, KA94.out]; exact Kd.C_drop (m := ((t628.length : Int) : Int).toNat) (c := co64) (Kd.R_reads' HO_10.out).2.2 KL94.out (Kd.R_reads' HO_10.out).2.1)
                refine hK.out _ _ (bn8 BK610 (bn8 BK609 ((by have T_ := Kd.x_C_string (P := Try.prog) (A := A94) (c := c94) Try.underlying47 Try.underlying5 Try.underlying9 (by repeat (first | (with_reducible exact HR697.out) | (with_reducible refine Kd.C_alloc ?_ _) | (with_reducible refine Kd.C_drewN ?_ _) | (with_reducible refine Kd.C_drew ?_) | exact HR697.out)); first | exact T_.1 | exact T_.2 _ | (simp only [World.drewN_drewN]; exact T_.2 _))))) (fun hHeld => ?_)
                clear hK K
                refine norm_ (a' := ?_) ?_ ?_
                rotate_left
                ·show Act.put _ (some 78) _ = _
                 simp only [Act.put, List.setIfInBounds_toArray, List.set_cons_zero, List.set_cons_succ, i64_w, i32_w]
                 rfl
                refine join_ (σ := Unit) 3 #[true, true, true, true, true, true, true, true, true, true, true, true, true, true, true, true, true, false, false, false] (fun s_ => [(79, .string (strOfNums t691)), (88, .bool t698), (85, .bool ((strOfNums t691).toList == (strOfNums y694).toList))]) (fun s_ w' => (w'.cell? ⟨gb610, 0, none⟩ = some (.string t620) ∧ w'.cell? ⟨gb610, 1, none⟩ = some (.int .i64 t621) ∧ w'.cell? ⟨gb610, 2, none⟩ = some (.float .f64 t622) ∧ w'.cell? ⟨gb610, 3, none⟩ = some (.string t623) ∧ w'.cell? ⟨gb610, 4, none⟩ = some (.int .i64 t624) ∧ w'.cell? ⟨gb610, 5, none⟩ = some (.int .i64 t625) ∧ w'.cell? ⟨gb610, 6, none⟩ = some (.float .f64 t626) ∧ w'.cell? ⟨gb610, 7, none⟩ = some (.string t627) ∧ w'.cell? ⟨gb609, 0, none⟩ = some (.string t612) ∧ w'.cell? ⟨gb609, 1, none⟩ = some (.int .i64 t613) ∧ w'.cell? ⟨gb609, 2, none⟩ = some (.float .f64 t614) ∧ w'.cell? ⟨gb609, 3, none⟩ = some (.string t615) ∧ w'.cell? ⟨gb609, 4, none⟩ = some (.int .i64 t616) ∧ w'.cell? ⟨gb609, 5, none⟩ = some (.int .i64 t617) ∧ w'.cell? ⟨gb609, 6, none⟩ = some (.float .f64 t618) ∧ w'.cell? ⟨gb609, 7, none⟩ = some (.string t619) ∧ (convert 47 9 (.slice A94 y694.length c94)).run Try.prog w' = .ok (.string (strOfNums y694)) w') ∧ (Kd.R (Kd.int .u8) 5 w' w.heap.size (fun k_ => some k_ ≠ (.slice Ao64 t646.length co64 : Value).ownBlock) v692 t691) ∧ (Kd.R (Kd.int .u8) 5 w' w.heap.size (fun k_ => some k_ ≠ (v692 : Value).ownBlock) (.slice Ao64 t646.length co64) t646) ∧ (Kd.V (Kd.int .u8) 5 w' w.heap.size (fun k_ => some k_ ≠ (v692 : Value).ownBlock ∧ some k_ ≠ (.slice Ao64 t646.length co64 : Value).ownBlock ∧ k_ ≠ gb609 ∧ k_ ≠ gb610 ∧ k_ ≠ gb672) (.slice Ao54 t628.length co54) t628) ∧ (w'.heap[gb609]? = some (.cells #[.string t612, .int .i64 t613, .float .f64 t614, .string t615, .int .i64 t616, .int .i64 t617, .float .f64 t618, .string t619] 26 (0, 0))) ∧ (w'.heap[gb610]? = some (.cells #[.string t620, .int .i64 t621, .float .f64 t622, .string t623, .int .i64 t624, .int .i64 t625, .float .f64 t626, .string t627] 26 (0, 0))) ∧ (w'.heap[gb672]? = some (.cells #[.string t662, .int .i64 t663, .float .f64 t664, .string t665, .int .i64 t666, .int .i64 t667, .float .f64 t668, .string t669] 31 (0, 0))) ∧ (Below w.heap.size w w')) ?_ ?_
                rotate_left
                ·intro hCont
                 refine two_ (i := 7) (j := 16) (Ni := some 79) (Nj := some 88) #[true, true, true, true, true, true, true, true, true, true, true, true, true, false, true, true, false, false, false, false] #[true, true, true, true, true, true, true, false, true, true, true, true, true, false, true, true, true, false, false, false] rfl rfl rfl rfl (two_of HT_.out (by kernel_rfl)) (by decide) (by decide) (fun K hK => ?_) (fun K hK => ?_)
                 ·skip
                  have hcv96 := own_string (P := Try.prog) Try.underlying47 Try.underlying5 Try.underlying9 (Kd.own_of_R HO693.out)
                  refine value_ (w1 := ?_) (v := ?_) (by rfl) rfl ?_ ?_
                  rotate_left 2
                  ·go_simp
                   constructor
                   ·rfl
                   ·rfl
                  clear hcv96
                  refine hK.out _ _ (bn8 BK610 (bn8 BK609 ((by have T_ := Kd.x_C_string (P := Try.prog) (A := A94) (c := c94) Try.underlying47 Try.underlying5 Try.underlying9 (by repeat (first | (with_reducible exact HR697.out) | (with_reducible refine Kd.C_alloc ?_ _) | (with_reducible refine Kd.C_drewN ?_ _) | (with_reducible refine Kd.C_drew ?_) | exact HR697.out)); first | exact T_.1 | exact T_.2 _ | (simp only [World.drewN_drewN]; exact T_.2 _))))) (fun hHeld => ?_)
                  clear hK K
                  refine norm_ (a' := ?_) ?_ ?_
                  rotate_left
                  ·show Act.put _ (some 79) _ = _
                   simp only [Act.put, List.setIfInBounds_toArray, List.set_cons_zero, List.set_cons_succ, i64_w, i32_w]
                   rfl
                  refine pure_ (i := 13) (N := some 85) (v := ?_) (a' := ?_) #[true, true, true, true, true, true, true, true, true, true, true, true, true, true, true, true, false, false, false, false] rfl rfl (any_of HT_.out (by kernel_rfl)) (fun _ _ _ h => h) (Or.inl ⟨by rfl, ?_⟩) ?_ ?_
                  rotate_left
                  ·intro w'
                   go_simp
                   with_reducible rfl
                  rotate_left
                  ·simp only [Act.put, List.setIfInBounds_toArray, List.set_cons_zero, List.set_cons_succ, i64_w, i32_w]
                   rfl
                  refine one_ (i := 16) (N := some 88) #[true, true, true, true, true, true, true, true, true, true, true, true, true, true, true, true, true, false, false, false] rfl rfl (one_of HT_.out (by kernel_rfl)) (by decide) (fun K hK => ?_)
                  refine goes_ Try.func20 (by kernel_rfl) rfl #[.agg #[.string t612, .int .i64 t613, .float .f64 t614, .string t615, .int .i64 t616, .int .i64 t617, .float .f64 t618, .string t619], .agg #[.string t620, .int .i64 t621, .float .f64 t622, .string t623, .int .i64 t624, .int .i64 t625, .float .f64 t626, .string t627]] (by rfl) rfl rfl (by (try simp only [List.map_toArray, List.map_cons, List.map_nil]); first | done | rfl | (simp only [List.length_drop, List.length_take]; rfl)) ?_
                  with_reducible refine (engrossref10_Eq.calls t612 t613 t614 t615 t616 t617 t618 t619 t620 t621 t622 t623 t624 t625 t626 t627 t698 _ A89.out).mono ?_
                  rintro e w97 ⟨rfl, hb⟩
                  refine ⟨_, rfl, ?_⟩
                  replace HO_2 := Aside0.mk (Kd.V_below (by (with_reducible repeat (first | apply Kd.V_alloc | apply Kd.V_drewN | apply Kd.V_drew)); exact HO_2.out) hb)
                  replace HO_10 := Aside0.mk (Kd.R_below (by (with_reducible repeat (first | apply Kd.R_alloc | apply Kd.R_drewN | apply Kd.R_drew)); exact HO_10.out) hb)
                  replace HO693 := Aside0.mk (Kd.R_below (by (with_reducible repeat (first | apply Kd.R_alloc | apply Kd.R_drewN | apply Kd.R_drew)); exact HO693.out) hb)
                  replace BK609 := bB BK609 hb
                  replace BK610 := bB BK610 hb
                  replace BK672 := bB BK672 hb
                  replace HR697 := Aside0.mk (Kd.C_below (by repeat (first | (with_reducible exact HR697.out) | (with_reducible refine Kd.C_alloc ?_ _) | (with_reducible refine Kd.C_drewN ?_ _) | (with_reducible refine Kd.C_drew ?_) | exact HR697.out)) hb)
                  replace HB := bW HB hb
                  (try clear hb)
                  (try clear hb2)
                  (try clear hk)
                  (try clear hi)
                  refine hK.out _ _ (bn8 BK610 (bn8 BK609 ((by have T_ := Kd.x_C_string (P := Try.prog) (A := A94) (c := c94) Try.underlying47 Try.underlying5 Try.underlying9 (by repeat (first | (with_reducible exact HR697.out) | (with_reducible refine Kd.C_alloc ?_ _) | (with_reducible refine Kd.C_drewN ?_ _) | (with_reducible refine Kd.C_drew ?_) | exact HR697.out)); first | exact T_.1 | exact T_.2 _ | (simp only [World.drewN_drewN]; exact T_.2 _))))) (fun hHeld => ?_)
                  clear hK K
                  refine norm_ (a' := ?_) ?_ ?_
                  rotate_left
                  ·show Act.put _ (some 88) _ = _
                   simp only [Act.put, List.setIfInBounds_toArray, List.set_cons_zero, List.set_cons_succ, i64_w, i32_w]
                   rfl
                  exact norm_ (by simp only [putAll, Act.put, List.setIfInBounds_toArray, List.set_cons_zero, List.set_cons_succ]) (hCont () _ ⟨hHeld, (by (with_reducible repeat (first | apply Kd.R_alloc | apply Kd.R_drewN | apply Kd.R_drew)); exact HO693.out), (by (with_reducible repeat (first | apply Kd.R_alloc | apply Kd.R_drewN | apply Kd.R_drew)); exact HO_10.out), (by (with_reducible repeat (first | apply Kd.V_alloc | apply Kd.V_drewN | apply Kd.V_drew)); exact Kd.V_mono HO_2.out (fun _ hk => ⟨hk.2.2.2.2, ⟨hk.1, ⟨hk.2.1, ⟨hk.2.2.1, hk.2.2.2.1⟩⟩⟩⟩)), (bQ BK609), (bQ BK610), (bQ BK672), (bC HB)⟩)
                 ·skip
                  refine goes_ Try.func20 (by kernel_rfl) rfl #[.agg #[.string t612, .int .i64 t613, .float .f64 t614, .string t615, .int .i64 t616, .int .i64 t617, .float .f64 t618, .string t619], .agg #[.string t620, .int .i64 t621, .float .f64 t622, .string t623, .int .i64 t624, .int .i64 t625, .float .f64 t626, .string t627]] (by rfl) rfl rfl (by (try simp only [List.map_toArray, List.map_cons, List.map_nil]); first | done | rfl | (simp only [List.length_drop, List.length_take]; rfl)) ?_
                  with_reducible refine (engrossref10_Eq.calls t612 t613 t614 t615 t616 t617 t618 t619 t620 t621 t622 t623 t624 t625 t626 t627 t698 _ A89.out).mono ?_
                  rintro e w96 ⟨rfl, hb⟩
                  refine ⟨_, rfl, ?_⟩
                  replace HO_2 := Aside0.mk (Kd.V_below (by (with_reducible repeat (first | apply Kd.V_alloc | apply Kd.V_drewN | apply Kd.V_drew)); exact HO_2.out) hb)
                  replace HO_10 := Aside0.mk (Kd.R_below (by (with_reducible repeat (first | apply Kd.R_alloc | apply Kd.R_drewN | apply Kd.R_drew)); exact HO_10.out) hb)
                  replace HO693 := Aside0.mk (Kd.R_below (by (with_reducible repeat (first | apply Kd.R_alloc | apply Kd.R_drewN | apply Kd.R_drew)); exact HO693.out) hb)
                  replace BK609 := bB BK609 hb
                  replace BK610 := bB BK610 hb
                  replace BK672 := bB BK672 hb
                  replace HR697 := Aside0.mk (Kd.C_below (by repeat (first | (with_reducible exact HR697.out) | (with_reducible refine Kd.C_alloc ?_ _) | (with_reducible refine Kd.C_drewN ?_ _) | (with_reducible refine Kd.C_drew ?_) | exact HR697.out)) hb)
                  replace HB := bW HB hb
                  (try clear hb)
                  (try clear hb2)
                  (try clear hk)
                  (try clear hi)
                  refine hK.out _ _ (bn8 BK610 (bn8 BK609 ((by have T_ := Kd.x_C_string (P := Try.prog) (A := A94) (c := c94) Try.underlying47 Try.underlying5 Try.underlying9 (by repeat (first | (with_reducible exact HR697.out) | (with_reducible refine Kd.C_alloc ?_ _) | (with_reducible refine Kd.C_drewN ?_ _) | (with_reducible refine Kd.C_drew ?_) | exact HR697.out)); first | exact T_.1 | exact T_.2 _ | (simp only [World.drewN_drewN]; exact T_.2 _))))) (fun hHeld => ?_)
                  clear hK K
                  refine norm_ (a' := ?_) ?_ ?_
                  rotate_left
                  ·show Act.put _ (some 88) _ = _
                   simp only [Act.put, List.setIfInBounds_toArray, List.set_cons_zero, List.set_cons_succ, i64_w, i32_w]
                   rfl
                  refine one_ (i := 7) (N := some 79) #[true, true, true, true, true, true, true, true, true, true, true, true, true, false, true, true, true, false, false, false] rfl rfl (one_of HT_.out (by kernel_rfl)) (by decide) (fun K hK => ?_)
                  have hcv97 := own_string (P := Try.prog) Try.underlying47 Try.underlying5 Try.underlying9 (Kd.own_of_R HO693.out)
                  refine value_ (w1 := ?_) (v := ?_) (by rfl) rfl ?_ ?_
                  rotate_left 2
                  ·go_simp
                   constructor
                   ·rfl
                   ·rfl
                  clear hcv97
                  refine hK.out _ _ (bn8 BK610 (bn8 BK609 ((by have T_ := Kd.x_C_string (P := Try.prog) (A := A94) (c := c94) Try.underlying47 Try.underlying5 Try.underlying9 (by repeat (first | (with_reducible exact HR697.out) | (with_reducible refine Kd.C_alloc ?_ _) | (with_reducible refine Kd.C_drewN ?_ _) | (with_reducible refine Kd.C_drew ?_) | exact HR697.out)); first | exact T_.1 | exact T_.2 _ | (simp only [World.drewN_drewN]; exact T_.2 _))))) (fun hHeld => ?_)
                  clear hK K
                  refine norm_ (a' := ?_) ?_ ?_
                  rotate_left
                  ·show Act.put _ (some 79) _ = _
                   simp only [Act.put, List.setIfInBounds_toArray, List.set_cons_zero, List.set_cons_succ, i64_w, i32_w]
                   rfl
                  refine pure_ (i := 13) (N := some 85) (v := ?_) (a' := ?_) #[true, true, true, true, true, true, true, true, true, true, true, true, true, true, true, true, true, false, false, false] rfl rfl (any_of HT_.out (by kernel_rfl)) (fun _ _ _ h => h) (Or.inl ⟨by rfl, ?_⟩) ?_ ?_
                  rotate_left
                  ·intro w'
                   go_simp
                   with_reducible rfl
                  rotate_left
                  ·simp only [Act.put, List.setIfInBounds_toArray, List.set_cons_zero, List.set_cons_succ, i64_w, i32_w]
                   rfl
                  exact norm_ (by simp only [putAll, Act.put, List.setIfInBounds_toArray, List.set_cons_zero, List.set_cons_succ]) (hCont () _ ⟨hHeld, (by (with_reducible repeat (first | apply Kd.R_alloc | apply Kd.R_drewN | apply Kd.R_drew)); exact HO693.out), (by (with_reducible repeat (first | apply Kd.R_alloc | apply Kd.R_drewN | apply Kd.R_drew)); exact HO_10.out), (by (with_reducible repeat (first | apply Kd.V_alloc | apply Kd.V_drewN | apply Kd.V_drew)); exact Kd.V_mono HO_2.out (fun _ hk => ⟨hk.2.2.2.2, ⟨hk.1, ⟨hk.2.1, ⟨hk.2.2.1, hk.2.2.2.1⟩⟩⟩⟩)), (bQ BK609), (bQ BK610), (bQ BK672), (bC HB)⟩)
                rintro _ w98 ⟨hS_, h0_, h1_, h2_, h3_, h4_, h5_, h6_⟩
                have n0_ : Aside0 (Kd.R (Kd.int .u8) 5 w98 w.heap.size (fun k_ => some k_ ≠ (.slice Ao64 t646.length co64 : Value).ownBlock) v692 t691) := ⟨h0_⟩
                have n1_ : Aside0 (Kd.R (Kd.int .u8) 5 w98 w.heap.size (fun k_ => some k_ ≠ (v692 : Value).ownBlock) (.slice Ao64 t646.length co64) t646) := ⟨h1_⟩
                have n2_ : Aside0 (Kd.V (Kd.int .u8) 5 w98 w.heap.size (fun k_ => some k_ ≠ (v692 : Value).ownBlock ∧ some k_ ≠ (.slice Ao64 t646.length co64 : Value).ownBlock ∧ k_ ≠ gb609 ∧ k_ ≠ gb610 ∧ k_ ≠ gb672) (.slice Ao54 t628.length co54) t628) := ⟨h2_⟩
                have n3_ : Aside0 (w98.heap[gb609]? = some (.cells #[.string t612, .int .i64 t613, .float .f64 t614, .string t615, .int .i64 t616, .int .i64 t617, .float .f64 t618, .string t619] 26 (0, 0))) := ⟨h3_⟩
                have n4_ : Aside0 (w98.heap[gb610]? = some (.cells #[.string t620, .int .i64 t621, .float .f64 t622, .string t623, .int .i64 t624, .int .i64 t625, .float .f64 t626, .string t627] 26 (0, 0))) := ⟨h4_⟩
                have n5_ : Aside0 (w98.heap[gb672]? = some (.cells #[.string t662, .int .i64 t663, .float .f64 t664, .string t665, .int .i64 t666, .int .i64 t667, .float .f64 t668, .string t669] 31 (0, 0))) := ⟨h5_⟩
                have n6_ : Aside0 (Below w.heap.size w w98) := ⟨h6_⟩
                clear HO_2
                clear HO_10
                clear BK609
                clear BK610
                clear BK672
                clear HB
                clear h0_ h1_ h2_ h3_ h4_ h5_ h6_
                have HO693 := n0_
                have HO_10 := n1_
                have HO_2 := n2_
                have BK609 := n3_
                have BK610 := n4_
                have BK672 := n5_
                have HB := n6_
                clear n0_ n1_ n2_ n3_ n4_ n5_ n6_
                have hHeld : w98.cell? ⟨gb610, 0, none⟩ = some (.string t620) ∧ w98.cell? ⟨gb610, 1, none⟩ = some (.int .i64 t621) ∧ w98.cell? ⟨gb610, 2, none⟩ = some (.float .f64 t622) ∧ w98.cell? ⟨gb610, 3, none⟩ = some (.string t623) ∧ w98.cell? ⟨gb610, 4, none⟩ = some (.int .i64 t624) ∧ w98.cell? ⟨gb610, 5, none⟩ = some (.int .i64 t625) ∧ w98.cell? ⟨gb610, 6, none⟩ = some (.float .f64 t626) ∧ w98.cell? ⟨gb610, 7, none⟩ = some (.string t627) ∧ w98.cell? ⟨gb609, 0, none⟩ = some (.string t612) ∧ w98.cell? ⟨gb609, 1, none⟩ = some (.int .i64 t613) ∧ w98.cell? ⟨gb609, 2, none⟩ = some (.float .f64 t614) ∧ w98.cell? ⟨gb609, 3, none⟩ = some (.string t615) ∧ w98.cell? ⟨gb609, 4, none⟩ = some (.int .i64 t616) ∧ w98.cell? ⟨gb609, 5, none⟩ = some (.int .i64 t617) ∧ w98.cell? ⟨gb609, 6, none⟩ = some (.float .f64 t618) ∧ w98.cell? ⟨gb609, 7, none⟩ = some (.string t619) ∧ (convert 47 9 (.slice A94 y694.length c94)).run Try.prog w98 = .ok (.string (strOfNums y694)) w98 := hS_
                refine norm_ (a' := ?_) ?_ ?_
                rotate_left
                ·simp only [putAll, Act.put, List.setIfInBounds_toArray, List.set_cons_zero, List.set_cons_succ]
                 rfl
                refine pure_ (i := 17) (N := some 89) (v := ?_) (a' := ?_) #[true, true, true, true, true, true, true, true, true, true, true, true, true, true, true, true, true, true, false, false] rfl rfl (any_of HT_.out (by kernel_rfl)) (fun _ _ _ h => h) (Or.inl ⟨by rfl, ?_⟩) ?_ ?_
                rotate_left
                ·intro w'
                 go_simp
                 with_reducible rfl
                rotate_left
                ·simp only [Act.put, List.setIfInBounds_toArray, List.set_cons_zero, List.set_cons_succ, i64_w, i32_w]
                 rfl
                refine pure_ (i := 18) (N := some 90) (v := ?_) (a' := ?_) #[true, true, true, true, true, true, true, true, true, true, true, true, true, true, true, true, true, true, true, false] rfl rfl (any_of HT_.out (by kernel_rfl)) (fun _ _ _ h => h) (Or.inl ⟨by rfl, ?_⟩) ?_ ?_
                rotate_left
                ·intro w'
                 go_simp
                 with_reducible rfl
                rotate_left
                ·simp only [Act.put, List.setIfInBounds_toArray, List.set_cons_zero, List.set_cons_succ, i64_w, i32_w]
                 rfl
                refine pure_ (i := 19) (N := some 8) (v := ?_) (a' := ?_) #[true, true, true, true, true, true, true, true, true, true, true, true, true, true, true, true, true, true, true, true] rfl rfl (any_of HT_.out (by kernel_rfl)) (fun _ _ _ h => h) (Or.inl ⟨by rfl, ?_⟩) ?_ ?_
                rotate_left
                ·intro w'
                 go_simp
                 with_reducible rfl
                rotate_left
                ·simp only [Act.put, List.setIfInBounds_toArray, List.set_cons_zero, List.set_cons_succ, i64_w, i32_w]
                 rfl
                refine done_ (done_of HT_.out (by kernel_rfl)) ?_
                try go_wp2
                go_ret
                exact ⟨by first | rfl | (simp [errW_none, errW_some] <;> rfl) | (simp [*, errW_none, errW_some] <;> rfl), by repeat (first | (with_reducible first | exact HB.out | apply below_alloc | apply pw_below_drewN | apply below_drew1 | refine below_set ?_ GE609.out | refine below_set ?_ GE610.out | refine below_set ?_ GE672.out) | exact HB.out)⟩
               ·rw [if_neg c88] at H
                exact absurd H (by simp)
              ·rw [if_neg c87] at H
               exact absurd H (by simp)
             ·replace c84 := Bool.eq_false_iff.mpr c84
              subst c84
              have H1 : (some true) = some r := by rw [if_neg (show ¬ (false = true) by decide)] at H; exact H
              clear H
              have H := H1
              clear H1
              obtain rfl := Option.some.inj H
              try go_wp2
              replace HO_2 := Aside0.mk (Kd.V_drew HO_2.out)
              replace HO_10 := Aside0.mk (Kd.R_drew HO_10.out)
              replace BK609 := Aside0.mk (blk_drew BK609.out)
              replace BK610 := Aside0.mk (blk_drew BK610.out)
              replace BK672 := Aside0.mk (blk_drew BK672.out)
              replace HB := Aside0.mk (below_drew1 HB.out)
              refine start_ (n := 20) (S := fun w' => w'.cell? ⟨gb610, 0, none⟩ = some (.string t620) ∧ w'.cell? ⟨gb610, 1, none⟩ = some (.int .i64 t621) ∧ w'.cell? ⟨gb610, 2, none⟩ = some (.float .f64 t622) ∧ w'.cell? ⟨gb610, 3, none⟩ = some (.string t623) ∧ w'.cell? ⟨gb610, 4, none⟩ = some (.int .i64 t624) ∧ w'.cell? ⟨gb610, 5, none⟩ = some (.int .i64 t625) ∧ w'.cell? ⟨gb610, 6, none⟩ = some (.float .f64 t626) ∧ w'.cell? ⟨gb610, 7, none⟩ = some (.string t627)) (ds := []) #[false, false, false, false, false, false, false, false, false, false, false, false, false, false, false, false, false, false, false, false] (by kernel_rfl) rfl rfl (be8 BK610) (fun hHeld => ?_); refine with_tabW engrosslaw10_CellBytes.tab13 engrosslaw10_CellBytes.bits13 (fun HT_ HW_ => ?_)
              generalize wc.drew = w99 at HO_2 HO_10 BK609 BK610 BK672 HB hHeld ⊢
              refine take_ (i := 0) (N := some 72) (v := ?_) (a' := ?_) #[true, false, false, false, false, false, false, false, false, false, false, false, false, false, false, false, false, false, false, false] rfl rfl (take_ofW HT_.out HW_.out (by kernel_rfl)) (fun _ _ _ h => h) (Or.inl ⟨by rfl, ?_⟩) hHeld ?_ ?_
              rotate_left
              ·rintro w' ⟨s0, s1, s2, s3, s4, s5, s6, s7⟩
               go_simp
               with_reducible rfl
              rotate_left
              ·simp only [Act.put, List.setIfInBounds_toArray, List.set_cons_zero, List.set_cons_succ, i64_w, i32_w]
               rfl
              refine one_ (i := 1) (N := some 73) #[true, true, false, false, false, false, false, false, false, false, false, false, false, false, false, false, false, false, false, false] rfl rfl (one_of HT_.out (by kernel_rfl)) (by decide) (fun K hK => ?_)
              refine goes_ Try.func15 (by kernel_rfl) rfl #[.agg #[.string t620, .int .i64 t621, .float .f64 t622, .string t623, .int .i64 t624, .int .i64 t625, .float .f64 t626, .string t627]] (by rfl) rfl rfl (by (try simp only [List.map_toArray, List.map_cons, List.map_nil]); first | done | rfl | (simp only [List.length_drop, List.length_take]; rfl)) ?_
              with_reducible refine (engrossref10_May.calls t620 t621 t622 t623 t624 t625 t626 t627 false _ A83.out).mono ?_
              rintro e w100 ⟨rfl, hb⟩
              refine ⟨_, rfl, ?_⟩
              replace HO_2 := Aside0.mk (Kd.V_below (by (with_reducible repeat (first | apply Kd.V_alloc | apply Kd.V_drewN | apply Kd.V_drew)); exact HO_2.out) hb)
              replace HO_10 := Aside0.mk (Kd.R_below (by (with_reducible repeat (first | apply Kd.R_alloc | apply Kd.R_drewN | apply Kd.R_drew)); exact HO_10.out) hb)
              replace BK609 := bB BK609 hb
              replace BK610 := bB BK610 hb
              replace BK672 := bB BK672 hb
              replace HB := bW HB hb
              (try clear hb)
              (try clear hb2)
              (try clear hk)
              (try clear hi)
              refine hK.out _ _ (be8 BK610) (fun hHeld => ?_)
              clear hK K
              refine norm_ (a' := ?_) ?_ ?_
              rotate_left
              ·show Act.put _ (some 73) _ = _
               simp only [Act.put, List.setIfInBounds_toArray, List.set_cons_zero, List.set_cons_succ, i64_w, i32_w]
               rfl
              refine pure_ (i := 2) (N := some 74) (v := ?_) (a' := ?_) #[true, true, true, false, false, false, false, false, false, false, false, false, false, false, false, false, false, false, false, false] rfl rfl (any_of HT_.out (by kernel_rfl)) (fun _ _ _ h => h) (Or.inl ⟨by rfl, ?_⟩) ?_ ?_
              rotate_left
              ·intro w'
               go_simp
               with_reducible rfl
              rotate_left
              ·simp only [Act.put, List.setIfInBounds_toArray, List.set_cons_zero, List.set_cons_succ, i64_w, i32_w]
               rfl
              refine pure_ (i := 3) (N := some 75) (v := ?_) (a' := ?_) #[true, true, true, true, false, false, false, false, false, false, false, false, false, false, false, false, false, false, false, false] rfl rfl (any_of HT_.out (by kernel_rfl)) (fun _ _ _ h => h) (Or.inl ⟨by rfl, ?_⟩) ?_ ?_
              rotate_left
              ·intro w'
               go_simp
               with_reducible rfl
              rotate_left
              ·simp only [Act.put, List.setIfInBounds_toArray, List.set_cons_zero, List.set_cons_succ, i64_w, i32_w]
               rfl
              refine pure_ (i := 4) (N := some 76) (v := undef) (a' := ?_) #[true, true, true, true, true, false, false, false, false, false, false, false, false, false, false, false, false, false, false, false] rfl rfl (any_of HT_.out (by kernel_rfl)) (fun _ _ _ h => h) (Or.inr ⟨by rfl, rfl⟩) ?_ ?_
              rotate_left
              ·simp only [Act.put, List.setIfInBounds_toArray, List.set_cons_zero, List.set_cons_succ, i64_w, i32_w]
               rfl
              refine pure_ (i := 5) (N := some 77) (v := undef) (a' := ?_) #[true, true, true, true, true, true, false, false, false, false, false, false, false, false, false, false, false, false, false, false] rfl rfl (any_of HT_.out (by kernel_rfl)) (fun _ _ _ h => h) (Or.inr ⟨by rfl, rfl⟩) ?_ ?_
              rotate_left
              ·simp only [Act.put, List.setIfInBounds_toArray, List.set_cons_zero, List.set_cons_succ, i64_w, i32_w]
               rfl
              refine pure_ (i := 6) (N := some 78) (v := undef) (a' := ?_) #[true, true, true, true, true, true, true, false, false, false, false, false, false, false, false, false, false, false, false, false] rfl rfl (any_of HT_.out (by kernel_rfl)) (fun _ _ _ h => h) (Or.inr ⟨by rfl, rfl⟩) ?_ ?_
              rotate_left
              ·simp only [Act.put, List.setIfInBounds_toArray, List.set_cons_zero, List.set_cons_succ, i64_w, i32_w]
               rfl
              refine pure_ (i := 7) (N := some 79) (v := undef) (a' := ?_) #[true, true, true, true, true, true, true, true, false, false, false, false, false, false, false, false, false, false, false, false] rfl rfl (any_of HT_.out (by kernel_rfl)) (fun _ _ _ h => h) (Or.inr ⟨by rfl, rfl⟩) ?_ ?_
              rotate_left
              ·simp only [Act.put, List.setIfInBounds_toArray, List.set_cons_zero, List.set_cons_succ, i64_w, i32_w]
               rfl
              refine pure_ (i := 8) (N := some 80) (v := undef) (a' := ?_) #[true, true, true, true, true, true, true, true, true, false, false, false, false, false, false, false, false, false, false, false] rfl rfl (any_of HT_.out (by kernel_rfl)) (fun _ _ _ h => h) (Or.inr ⟨by rfl, rfl⟩) ?_ ?_
              rotate_left
              ·simp only [Act.put, List.setIfInBounds_toArray, List.set_cons_zero, List.set_cons_succ, i64_w, i32_w]
               rfl
              refine pure_ (i := 9) (N := some 81) (v := undef) (a' := ?_) #[true, true, true, true, true, true, true, true, true, true, false, false, false, false, false, false, false, false, false, false] rfl rfl (any_of HT_.out (by kernel_rfl)) (fun _ _ _ h => h) (Or.inr ⟨by rfl, rfl⟩) ?_ ?_
              rotate_left
              ·simp only [Act.put, List.setIfInBounds_toArray, List.set_cons_zero, List.set_cons_succ, i64_w, i32_w]
               rfl
              refine pure_ (i := 10) (N := some 82) (v := undef) (a' := ?_) #[true, true, true, true, true, true, true, true, true, true, true, false, false, false, false, false, false, false, false, false] rfl rfl (any_of HT_.out (by kernel_rfl)) (fun _ _ _ h => h) (Or.inr ⟨by rfl, rfl⟩) ?_ ?_
              rotate_left
              ·simp only [Act.put, List.setIfInBounds_toArray, List.set_cons_zero, List.set_cons_succ, i64_w, i32_w]
               rfl
              refine pure_ (i := 11) (N := some 83) (v := undef) (a' := ?_) #[true, true, true, true, true, true, true, true, true, true, true, true, false, false, false, false, false, false, false, false] rfl rfl (any_of HT_.out (by kernel_rfl)) (fun _ _ _ h => h) (Or.inr ⟨by rfl, rfl⟩) ?_ ?_
              rotate_left
              ·simp only [Act.put, List.setIfInBounds_toArray, List.set_cons_zero, List.set_cons_succ, i64_w, i32_w]
               rfl
              refine pure_ (i := 12) (N := some 84) (v := undef) (a' := ?_) #[true, true, true, true, true, true, true, true, true, true, true, true, true, false, false, false, false, false, false, false] rfl rfl (any_of HT_.out (by kernel_rfl)) (fun _ _ _ h => h) (Or.inr ⟨by rfl, rfl⟩) ?_ ?_
              rotate_left
              ·simp only [Act.put, List.setIfInBounds_toArray, List.set_cons_zero, List.set_cons_succ, i64_w, i32_w]
               rfl
              refine pure_ (i := 13) (N := some 85) (v := undef) (a' := ?_) #[true, true, true, true, true, true, true, true, true, true, true, true, true, true, false, false, false, false, false, false] rfl rfl (any_of HT_.out (by kernel_rfl)) (fun _ _ _ h => h) (Or.inr ⟨by rfl, rfl⟩) ?_ ?_
              rotate_left
              ·simp only [Act.put, List.setIfInBounds_toArray, List.set_cons_zero, List.set_cons_succ, i64_w, i32_w]
               rfl
              refine pure_ (i := 14) (N := some 86) (v := undef) (a' := ?_) #[true, true, true, true, true, true, true, true, true, true, true, true, true, true, true, false, false, false, false, false] rfl rfl (any_of HT_.out (by kernel_rfl)) (fun _ _ _ h => h) (Or.inr ⟨by rfl, rfl⟩) ?_ ?_
              rotate_left
              ·simp only [Act.put, List.setIfInBounds_toArray, List.set_cons_zero, List.set_cons_succ, i64_w, i32_w]
               rfl
              refine pure_ (i := 15) (N := some 87) (v := undef) (a' := ?_) #[true, true, true, true, true, true, true, true, true, true, true, true, true, true, true, true, false, false, false, false] rfl rfl (any_of HT_.out (by kernel_rfl)) (fun _ _ _ h => h) (Or.inr ⟨by rfl, rfl⟩) ?_ ?_
              rotate_left
              ·simp only [Act.put, List.setIfInBounds_toArray, List.set_cons_zero, List.set_cons_succ, i64_w, i32_w]
               rfl
              refine pure_ (i := 16) (N := some 88) (v := undef) (a' := ?_) #[true, true, true, true, true, true, true, true, true, true, true, true, true, true, true, true, true, false, false, false] rfl rfl (any_of HT_.out (by kernel_rfl)) (fun _ _ _ h => h) (Or.inr ⟨by rfl, rfl⟩) ?_ ?_
              rotate_left
              ·simp only [Act.put, List.setIfInBounds_toArray, List.set_cons_zero, List.set_cons_succ, i64_w, i32_w]
               rfl
              refine pure_ (i := 17) (N := some 89) (v := undef) (a' := ?_) #[true, true, true, true, true, true, true, true, true, true, true, true, true, true, true, true, true, true, false, false] rfl rfl (any_of HT_.out (by kernel_rfl)) (fun _ _ _ h => h) (Or.inr ⟨by rfl, rfl⟩) ?_ ?_
              rotate_left
              ·simp only [Act.put, List.setIfInBounds_toArray, List.set_cons_zero, List.set_cons_succ, i64_w, i32_w]
               rfl
              refine pure_ (i := 18) (N := some 90) (v := ?_) (a' := ?_) #[true, true, true, true, true, true, true, true, true, true, true, true, true, true, true, true, true, true, true, false] rfl rfl (any_of HT_.out (by kernel_rfl)) (fun _ _ _ h => h) (Or.inl ⟨by rfl, ?_⟩) ?_ ?_
              rotate_left
              ·intro w'
               go_simp
               with_reducible rfl
              rotate_left
              ·simp only [Act.put, List.setIfInBounds_toArray, List.set_cons_zero, List.set_cons_succ, i64_w, i32_w]
               rfl
              refine pure_ (i := 19) (N := some 8) (v := ?_) (a' := ?_) #[true, true, true, true, true, true, true, true, true, true, true, true, true, true, true, true, true, true, true, true] rfl rfl (any_of HT_.out (by kernel_rfl)) (fun _ _ _ h => h) (Or.inl ⟨by rfl, ?_⟩) ?_ ?_
              rotate_left
              ·intro w'
               go_simp
               with_reducible rfl
              rotate_left
              ·simp only [Act.put, List.setIfInBounds_toArray, List.set_cons_zero, List.set_cons_succ, i64_w, i32_w]
               rfl
              refine done_ (done_of HT_.out (by kernel_rfl)) ?_
              try go_wp2
              go_ret
              exact ⟨by first | rfl | (simp [errW_none, errW_some] <;> rfl) | (simp [*, errW_none, errW_some] <;> rfl), by repeat (first | (with_reducible first | exact HB.out | apply below_alloc | apply pw_below_drewN | apply below_drew1 | refine below_set ?_ GE609.out | refine below_set ?_ GE610.out | refine below_set ?_ GE672.out) | exact HB.out)⟩
         ·rw [if_neg c22] at H
          exact absurd H (by simp)
        ·rw [if_neg c21] at H
         exact absurd H (by simp)
       ·rw [if_neg c20] at H
        exact absurd H (by simp)
      ·rw [if_neg c19] at H
       exact absurd H (by simp)
     ·rw [if_neg c18] at H
      exact absurd H (by simp)
    ·rw [if_neg c17] at H
     exact absurd H (by simp)
   ·rw [if_neg c13] at H
    exact absurd H (by simp)
  ·replace c12 := Bool.eq_false_iff.mpr c12
   subst c12
   have H1 : (some true) = some r := by rw [if_neg (show ¬ (false = true) by decide)] at H; exact H
   clear H
   have H := H1
   clear H1
   obtain rfl := Option.some.inj H
   go_enter Try.func4, Try.ntmps4
   try go_wp2_with (first | ((with_reducible refine gate_dst (N := 4) rfl ?_); (try (refine gate_guard (by rfl) ?_; dsimp only)); refine box_event ?hg (N := 4) ?hd (cs := #[.string a0_0, .int .i64 a0_1, .float .f64 a0_2, .string a0_3, .int .i64 a0_4, .int .i64 a0_5, .float .f64 a0_6, .string a0_7]) (t := 26) ?hr ?_; (case hd => rfl); (case hg => rfl); (case hr => first | (go_simp; done) | (go_simp; rfl)); intro gb609 hg w101 hbox hb; have BK609 := Aside0.mk (hbox); have GW609 := bZ HB hg; have GE609 := bZ HB hg; replace HB := bW HB hb; clear hb hbox hg) | ((with_reducible refine gate_dst (N := 5) rfl ?_); (try (refine gate_guard (by rfl) ?_; dsimp only)); refine box_event ?hg (N := 5) ?hd (cs := #[.string a1_0, .int .i64 a1_1, .float .f64 a1_2, .string a1_3, .int .i64 a1_4, .int .i64 a1_5, .float .f64 a1_6, .string a1_7]) (t := 26) ?hr ?_; (case hd => rfl); (case hg => rfl); (case hr => first | (go_simp; done) | (go_simp; rfl)); intro gb610 hg w102 hbox hb; have BK610 := Aside0.mk (hbox); have GW610 := bZ HB hg; have GE610 := bZ HB hg; have NB609_610 := bL BK609 hg; have NB610_609 := bG BK609 hg; replace BK609 := bB BK609 hb; replace HB := bW HB hb; clear hb hbox hg) | ((with_reducible refine gate_callee (f := 10) rfl ?_); refine goesL_ (some 14) rfl rfl Try.func10 (by kernel_rfl) rfl #[] rfl (by (try simp only [List.map_toArray, List.map_cons, List.map_nil]); first | done | rfl | (simp only [List.length_drop, List.length_take]; rfl)) ?_; (with_reducible refine (engrosslaw10_begun.calls k  true _ A5.out).mono ?_); rintro e w103 ⟨rfl, hb⟩; refine ⟨_, rfl, ?_⟩; replace BK609 := bB BK609 hb; replace BK610 := bB BK610 hb; replace HB := bW HB hb; (try clear hb); (try clear hb2); (try clear hk); (try clear hi)))
   replace BK609 := Aside0.mk (blk_drew BK609.out)
   replace BK610 := Aside0.mk (blk_drew BK610.out)
   replace HB := Aside0.mk (below_drew1 HB.out)
   refine start_ (n := 12) (S := fun w' => w'.cell? ⟨gb609, 0, none⟩ = some (.string a0_0) ∧ w'.cell? ⟨gb609, 1, none⟩ = some (.int .i64 a0_1) ∧ w'.cell? ⟨gb609, 2, none⟩ = some (.float .f64 a0_2) ∧ w'.cell? ⟨gb609, 3, none⟩ = some (.string a0_3) ∧ w'.cell? ⟨gb609, 4, none⟩ = some (.int .i64 a0_4) ∧ w'.cell? ⟨gb609, 5, none⟩ = some (.int .i64 a0_5) ∧ w'.cell? ⟨gb609, 6, none⟩ = some (.float .f64 a0_6) ∧ w'.cell? ⟨gb609, 7, none⟩ = some (.string a0_7) ∧ w'.cell? ⟨gb610, 0, none⟩ = some (.string a1_0) ∧ w'.cell? ⟨gb610, 1, none⟩ = some (.int .i64 a1_1) ∧ w'.cell? ⟨gb610, 2, none⟩ = some (.float .f64 a1_2) ∧ w'.cell? ⟨gb610, 3, none⟩ = some (.string a1_3) ∧ w'.cell? ⟨gb610, 4, none⟩ = some (.int .i64 a1_4) ∧ w'.cell? ⟨gb610, 5, none⟩ = some (.int .i64 a1_5) ∧ w'.cell? ⟨gb610, 6, none⟩ = some (.float .f64 a1_6) ∧ w'.cell? ⟨gb610, 7, none⟩ = some (.string a1_7)) (ds := [8, 9]) #[false, false, false, false, false, false, false, false, false, false, false, false] (by kernel_rfl) rfl rfl (bn8 BK609 (be8 BK610)) (fun hHeld => ?_); refine with_tabW engrosslaw10_CellBytes.tab4 engrosslaw10_CellBytes.bits4 (fun HT_ HW_ => ?_)
   generalize w103.drew = w104 at BK609 BK610 HB hHeld ⊢
   refine pure_ (i := 4) (N := some 21) (v := ?_) (a' := ?_) #[false, false, false, false, true, false, false, false, false, false, false, false] rfl rfl (any_of HT_.out (by kernel_rfl)) (fun _ _ _ h => h) (Or.inl ⟨by rfl, ?_⟩) ?_ ?_
   rotate_left
   ·intro w'
    go_simp
    with_reducible rfl
   rotate_left
   ·simp only [Act.put, List.setIfInBounds_toArray, List.set_cons_zero, List.set_cons_succ, i64_w, i32_w]
    rfl
   refine pure_ (i := 6) (N := some 23) (v := ?_) (a' := ?_) #[false, false, false, false, true, false, true, false, false, false, false, false] rfl rfl (any_of HT_.out (by kernel_rfl)) (fun _ _ _ h => h) (Or.inl ⟨by rfl, ?_⟩) ?_ ?_
   rotate_left
   ·intro w'
    go_simp
    with_reducible rfl
   rotate_left
   ·simp only [Act.put, List.setIfInBounds_toArray, List.set_cons_zero, List.set_cons_succ, i64_w, i32_w]
    rfl
   refine take_ (i := 0) (N := some 17) (v := ?_) (a' := ?_) #[true, false, false, false, true, false, true, false, false, false, false, false] rfl rfl (take_ofW HT_.out HW_.out (by kernel_rfl)) (fun _ _ _ h => h) (Or.inl ⟨by rfl, ?_⟩) hHeld ?_ ?_
   rotate_left
   ·rintro w' ⟨s0, s1, s2, s3, s4, s5, s6, s7, s8, s9, s10, s11, s12, s13, s14, s15⟩
    go_simp
    with_reducible rfl
   rotate_left
   ·simp only [Act.put, List.setIfInBounds_toArray, List.set_cons_zero, List.set_cons_succ, i64_w, i32_w]
    rfl
   refine take_ (i := 2) (N := some 19) (v := ?_) (a' := ?_) #[true, false, true, false, true, false, true, false, false, false, false, false] rfl rfl (take_ofW HT_.out HW_.out (by kernel_rfl)) (fun _ _ _ h => h) (Or.inl ⟨by rfl, ?_⟩) hHeld ?_ ?_
   rotate_left
   ·rintro w' ⟨s0, s1, s2, s3, s4, s5, s6, s7, s8, s9, s10, s11, s12, s13, s14, s15⟩
    go_simp
    with_reducible rfl
   rotate_left
   ·simp only [Act.put, List.setIfInBounds_toArray, List.set_cons_zero, List.set_cons_succ, i64_w, i32_w]
    rfl
   refine one_ (i := 1) (N := some 18) #[true, true, true, false, true, false, true, false, false, false, false, false] rfl rfl (one_of HT_.out (by kernel_rfl)) (by decide) (fun K hK => ?_)
   refine goes_ Try.func11 (by kernel_rfl) rfl #[.agg #[.string a0_0, .int .i64 a0_1, .float .f64 a0_2, .string a0_3, .int .i64 a0_4, .int .i64 a0_5, .float .f64 a0_6, .string a0_7]] (by rfl) rfl rfl (by (try simp only [List.map_toArray, List.map_cons, List.map_nil]); first | done | rfl | (simp only [List.length_drop, List.length_take]; rfl)) ?_
   with_reducible refine (engrosslaw10_Cut.calls a0_0 a0_1 a0_2 a0_3 a0_4 a0_5 a0_6 a0_7 t612 t613 t614 t615 t616 t617 t618 t619 _ A7.out).mono ?_
   rintro e w105 ⟨rfl, hb⟩
   refine ⟨_, rfl, ?_⟩
   replace BK609 := bB BK609 hb
   replace BK610 := bB BK610 hb
   replace HB := bW HB hb
   (try clear hb)
   (try clear hb2)
   (try clear hk)
   (try clear hi)
   refine hK.out _ _ (bn8 BK609 (be8 BK610)) (fun hHeld => ?_)
   clear hK K
   refine norm_ (a' := ?_) ?_ ?_
   rotate_left
   ·show Act.put _ (some 18) _ = _
    simp only [Act.put, List.setIfInBounds_toArray, List.set_cons_zero, List.set_cons_succ, i64_w, i32_w]
    rfl
   refine one_ (i := 3) (N := some 20) #[true, true, true, true, true, false, true, false, false, false, false, false] rfl rfl (one_of HT_.out (by kernel_rfl)) (by decide) (fun K hK => ?_)
   refine goes_ Try.func11 (by kernel_rfl) rfl #[.agg #[.string a1_0, .int .i64 a1_1, .float .f64 a1_2, .string a1_3, .int .i64 a1_4, .int .i64 a1_5, .float .f64 a1_6, .string a1_7]] (by rfl) rfl rfl (by (try simp only [List.map_toArray, List.map_cons, List.map_nil]); first | done | rfl | (simp only [List.length_drop, List.length_take]; rfl)) ?_
   with_reducible refine (engrosslaw10_Cut.calls a1_0 a1_1 a1_2 a1_3 a1_4 a1_5 a1_6 a1_7 t620 t621 t622 t623 t624 t625 t626 t627 _ A8.out).mono ?_
   rintro e w106 ⟨rfl, hb⟩
   refine ⟨_, rfl, ?_⟩
   replace BK609 := bB BK609 hb
   replace BK610 := bB BK610 hb
   replace HB := bW HB hb
   (try clear hb)
   (try clear hb2)
   (try clear hk)
   (try clear hi)
   refine hK.out _ _ (bn8 BK609 (be8 BK610)) (fun hHeld => ?_)
   clear hK K
   refine norm_ (a' := ?_) ?_ ?_
   rotate_left
   ·show Act.put _ (some 20) _ = _
    simp only [Act.put, List.setIfInBounds_toArray, List.set_cons_zero, List.set_cons_succ, i64_w, i32_w]
    rfl
   refine one_ (i := 5) (N := some 22) #[true, true, true, true, true, true, true, false, false, false, false, false] rfl rfl (one_of HT_.out (by kernel_rfl)) (by decide) (fun K hK => ?_)
   refine goes_ Try.func28 (by kernel_rfl) rfl #[.slice A2 l2.length c2, .int .i64 10] (by rfl) rfl rfl (by (try simp only [List.map_toArray, List.map_cons, List.map_nil]); first | done | rfl | (simp only [List.length_drop, List.length_take]; rfl)) ?_
   with_reducible refine (engrosslaw1_Short.calls (fun k_ => k_ < w.heap.size) _ _ l2 10 t628 _ ?side1 A9.out).mono ?_
   (case side1 => exact Kd.V_mk HC2.out (Kd.F_below (Kd.C_F (Kd.heap_int .u8) HR2.out) (bC HB)))
   rintro e w107 ⟨v629, rfl, ho0, hb⟩
   refine ⟨_, rfl, ?_⟩
   have HO630 := Aside0.mk (Kd.V_lower (Kd.V_mono (ok' := fun k_ => k_ ≠ gb609 ∧ k_ ≠ gb610) ho0 (fun k_ hk_ => ⟨Or.elim hk_ (fun hs_ => fun e_ => Nat.not_le.2 hs_ (by rw [e_]; exact GW609.out)) (fun hn_ => (Kd.freshB (bQ BK609) k_ hn_)), Or.elim hk_ (fun hs_ => fun e_ => Nat.not_le.2 hs_ (by rw [e_]; exact GW610.out)) (fun hn_ => (Kd.freshB (bQ BK610) k_ hn_))⟩)) (below_size (bC HB)))
   replace BK609 := bB BK609 hb
   replace BK610 := bB BK610 hb
   replace HB := bW HB hb
   (try clear hb)
   (try clear hb2)
   (try clear hk)
   (try clear hi)
   (try clear ho0)
   refine hK.out _ _ (bn8 BK609 (be8 BK610)) (fun hHeld => ?_)
   clear hK K
   refine norm_ (a' := ?_) ?_ ?_
   rotate_left
   ·show Act.put _ (some 22) _ = _
    simp only [Act.put, List.setIfInBounds_toArray, List.set_cons_zero, List.set_cons_succ, i64_w, i32_w]
    rfl
   refine one_ (i := 7) (N := some 24) #[true, true, true, true, true, true, true, true, false, false, false, false] rfl rfl (one_of HT_.out (by kernel_rfl)) (by decide) (fun K hK => ?_)
   refine goes_ Try.func28 (by kernel_rfl) rfl #[.slice A3 l3.length c3, .int .i64 10] (by rfl) rfl rfl (by (try simp only [List.map_toArray, List.map_cons, List.map_nil]); first | done | rfl | (simp only [List.length_drop, List.length_take]; rfl)) ?_
   with_reducible refine (engrosslaw1_Short.calls (fun k_ => k_ < w.heap.size) _ _ l3 10 t631 _ ?side1 A10.out).mono ?_
   (case side1 => exact Kd.V_mk HC3.out (Kd.F_below (Kd.C_F (Kd.heap_int .u8) HR3.out) (bC HB)))
   rintro e w108 ⟨v632, rfl, ho0, hb⟩
   refine ⟨_, rfl, ?_⟩
   have HO633 := Aside0.mk (Kd.V_lower (Kd.V_mono (ok' := fun k_ => k_ ≠ gb609 ∧ k_ ≠ gb610) ho0 (fun k_ hk_ => ⟨Or.elim hk_ (fun hs_ => fun e_ => Nat.not_le.2 hs_ (by rw [e_]; exact GW609.out)) (fun hn_ => (Kd.freshB (bQ BK609) k_ hn_)), Or.elim hk_ (fun hs_ => fun e_ => Nat.not_le.2 hs_ (by rw [e_]; exact GW610.out)) (fun hn_ => (Kd.freshB (bQ BK610) k_ hn_))⟩)) (below_size (bC HB)))
   replace HO630 := Aside0.mk (Kd.V_below (by (with_reducible repeat (first | apply Kd.V_alloc | apply Kd.V_drewN | apply Kd.V_drew)); exact HO630.out) hb)
   replace BK609 := bB BK609 hb
   replace BK610 := bB BK610 hb
   replace HB := bW HB hb
   (try clear hb)
   (try clear hb2)
   (try clear hk)
   (try clear hi)
   (try clear ho0)
   refine hK.out _ _ (bn8 BK609 (be8 BK610)) (fun hHeld => ?_)
   clear hK K
   refine norm_ (a' := ?_) ?_ ?_
   rotate_left
   ·show Act.put _ (some 24) _ = _
    simp only [Act.put, List.setIfInBounds_toArray, List.set_cons_zero, List.set_cons_succ, i64_w, i32_w]
    rfl
   refine last_ (i := 8) (N := none) #[true, true, true, true, true, true, true, true, true, false, false, false] rfl rfl (one_of HT_.out (by kernel_rfl)) (by decide) (fun K hK => ?_)
   have hs109 : w108.cell? ⟨gb609, 0, none⟩ = some (.string a0_0) := (blk_cell BK609.out 0).trans rfl
   have hfs109 := blk_frozen BK609.out 0
   have hns109_1 := NB610_609.out
   have hms109_1 := NB609_610.out
   have hs110 : w108.cell? ⟨gb609, 1, none⟩ = some (.int .i64 a0_1) := (blk_cell BK609.out 1).trans rfl
   have hfs110 := blk_frozen BK609.out 1
   have hns110_1 := NB610_609.out
   have hms110_1 := NB609_610.out
   have hs111 : w108.cell? ⟨gb609, 2, none⟩ = some (.float .f64 a0_2) := (blk_cell BK609.out 2).trans rfl
   have hfs111 := blk_frozen BK609.out 2
   have hns111_1 := NB610_609.out
   have hms111_1 := NB609_610.out
   have hs112 : w108.cell? ⟨gb609, 3, none⟩ = some (.string a0_3) := (blk_cell BK609.out 3).trans rfl
   have hfs112 := blk_frozen BK609.out 3
   have hns112_1 := NB610_609.out
   have hms112_1 := NB609_610.out
   have hs113 : w108.cell? ⟨gb609, 4, none⟩ = some (.int .i64 a0_4) := (blk_cell BK609.out 4).trans rfl
   have hfs113 := blk_frozen BK609.out 4
   have hns113_1 := NB610_609.out
   have hms113_1 := NB609_610.out
   have hs114 : w108.cell? ⟨gb609, 5, none⟩ = some (.int .i64 a0_5) := (blk_cell BK609.out 5).trans rfl
   have hfs114 := blk_frozen BK609.out 5
   have hns114_1 := NB610_609.out
   have hms114_1 := NB609_610.out
   have hs115 : w108.cell? ⟨gb609, 6, none⟩ = some (.float .f64 a0_6) := (blk_cell BK609.out 6).trans rfl
   have hfs115 := blk_frozen BK609.out 6
   have hns115_1 := NB610_609.out
   have hms115_1 := NB609_610.out
   have hs116 : w108.cell? ⟨gb609, 7, none⟩ = some (.string a0_7) := (blk_cell BK609.out 7).trans rfl
   have hfs116 := blk_frozen BK609.out 7
   have hns116_1 := NB610_609.out
   have hms116_1 := NB609_610.out
   with_reducible refine skip_ (w1 := ?_) (by with_unfolding_all rfl) (by with_unfolding_all rfl) ?_ ?_
   rotate_left
   ·go_simp
    rfl
   refine hK.out _ _ ?_
   clear hK K
   refine last_ (i := 9) (N := none) #[true, true, true, true, true, true, true, true, true, true, false, false] rfl rfl (one_of HT_.out (by kernel_rfl)) (by decide) (fun K hK => ?_)
   have hs117 : w108.cell? ⟨gb610, 0, none⟩ = some (.string a1_0) := (blk_cell BK610.out 0).trans rfl
   have hfs117 := blk_frozen BK610.out 0
   have hns117_0 := NB609_610.out
   have hms117_0 := NB610_609.out
   have hs118 : w108.cell? ⟨gb610, 1, none⟩ = some (.int .i64 a1_1) := (blk_cell BK610.out 1).trans rfl
   have hfs118 := blk_frozen BK610.out 1
   have hns118_0 := NB609_610.out
   have hms118_0 := NB610_609.out
   have hs119 : w108.cell? ⟨gb610, 2, none⟩ = some (.float .f64 a1_2) := (blk_cell BK610.out 2).trans rfl
   have hfs119 := blk_frozen BK610.out 2
   have hns119_0 := NB609_610.out
   have hms119_0 := NB610_609.out
   have hs120 : w108.cell? ⟨gb610, 3, none⟩ = some (.string a1_3) := (blk_cell BK610.out 3).trans rfl
   have hfs120 := blk_frozen BK610.out 3
   have hns120_0 := NB609_610.out
   have hms120_0 := NB610_609.out
   have hs121 : w108.cell? ⟨gb610, 4, none⟩ = some (.int .i64 a1_4) := (blk_cell BK610.out 4).trans rfl
   have hfs121 := blk_frozen BK610.out 4
   have hns121_0 := NB609_610.out
   have hms121_0 := NB610_609.out
   have hs122 : w108.cell? ⟨gb610, 5, none⟩ = some (.int .i64 a1_5) := (blk_cell BK610.out 5).trans rfl
   have hfs122 := blk_frozen BK610.out 5
   have hns122_0 := NB609_610.out
   have hms122_0 := NB610_609.out
   have hs123 : w108.cell? ⟨gb610, 6, none⟩ = some (.float .f64 a1_6) := (blk_cell BK610.out 6).trans rfl
   have hfs123 := blk_frozen BK610.out 6
   have hns123_0 := NB609_610.out
   have hms123_0 := NB610_609.out
   have hs124 : w108.cell? ⟨gb610, 7, none⟩ = some (.string a1_7) := (blk_cell BK610.out 7).trans rfl
   have hfs124 := blk_frozen BK610.out 7
   have hns124_0 := NB609_610.out
   have hms124_0 := NB610_609.out
   with_reducible refine skip_ (w1 := ?_) (by with_unfolding_all rfl) (by with_unfolding_all rfl) ?_ ?_
   rotate_left
   ·go_simp
    rfl
   refine hK.out _ _ ?_
   clear hK K
   refine pure_ (i := 10) (N := some 2) (v := ?_) (a' := ?_) #[true, true, true, true, true, true, true, true, true, true, true, false] rfl rfl (any_of HT_.out (by kernel_rfl)) (fun _ _ _ h => h) (Or.inl ⟨by rfl, ?_⟩) ?_ ?_
   rotate_left
   ·intro w'
    go_simp
    with_reducible rfl
   rotate_left
   ·simp only [Act.put, List.setIfInBounds_toArray, List.set_cons_zero, List.set_cons_succ, i64_w, i32_w]
    rfl
   refine pure_ (i := 11) (N := some 3) (v := ?_) (a' := ?_) #[true, true, true, true, true, true, true, true, true, true, true, true] rfl rfl (any_of HT_.out (by kernel_rfl)) (fun _ _ _ h => h) (Or.inl ⟨by rfl, ?_⟩) ?_ ?_
   rotate_left
   ·intro w'
    go_simp
    with_reducible rfl
   rotate_left
   ·simp only [Act.put, List.setIfInBounds_toArray, List.set_cons_zero, List.set_cons_succ, i64_w, i32_w]
    rfl
   refine done_ (done_of HT_.out (by kernel_rfl)) ?_
   have hnb125 := NB609_610.out
   have hnc125 := NB610_609.out
   obtain ⟨hcz126_0, hcz126_1, hcz126_2, hcz126_3, hcz126_4, hcz126_5, hcz126_6, hcz126_7, hfz126_0, hfz126_1, hfz126_2, hfz126_3, hfz126_4, hfz126_5, hfz126_6, hfz126_7⟩ := bf8 (w := w108) BK609
   try go_wp2_with (first | ((with_reducible refine gate_callee (f := 15) rfl ?_); refine goesL_ (some 26) rfl rfl Try.func15 (by kernel_rfl) rfl #[.agg #[.string t612, .int .i64 t613, .float .f64 t614, .string t615, .int .i64 t616, .int .i64 t617, .float .f64 t618, .string t619]] rfl (by (try simp only [List.map_toArray, List.map_cons, List.map_nil]); first | done | rfl | (simp only [List.length_drop, List.length_take]; rfl)) ?_; (with_reducible refine (engrossref10_May.calls t612 t613 t614 t615 t616 t617 t618 t619 false _ A11.out).mono ?_); rintro e w127 ⟨rfl, hb⟩; refine ⟨_, rfl, ?_⟩; replace HO630 := Aside0.mk (Kd.V_below (by (with_reducible repeat (first | apply Kd.V_alloc | apply Kd.V_drewN | apply Kd.V_drew)); exact (Kd.V_mono (Kd.V_mono (Kd.V_far (p := ⟨gb610, 7, none⟩) (Kd.V_far (p := ⟨gb610, 6, none⟩) (Kd.V_far (p := ⟨gb610, 5, none⟩) (Kd.V_far (p := ⟨gb610, 4, none⟩) (Kd.V_far (p := ⟨gb610, 3, none⟩) (Kd.V_far (p := ⟨gb610, 2, none⟩) (Kd.V_far (p := ⟨gb610, 1, none⟩) (Kd.V_far (p := ⟨gb610, 0, none⟩) (Kd.V_far (p := ⟨gb609, 7, none⟩) (Kd.V_far (p := ⟨gb609, 6, none⟩) (Kd.V_far (p := ⟨gb609, 5, none⟩) (Kd.V_far (p := ⟨gb609, 4, none⟩) (Kd.V_far (p := ⟨gb609, 3, none⟩) (Kd.V_far (p := ⟨gb609, 2, none⟩) (Kd.V_far (p := ⟨gb609, 1, none⟩) (Kd.V_far (p := ⟨gb609, 0, none⟩) (Kd.V_mono (Kd.V_mono HO630.out (fun k_ hk => (⟨hk, hk.1⟩ : _ ∧ k_ ≠ gb609))) (fun k_ hk => (⟨hk, hk.1.2⟩ : _ ∧ k_ ≠ gb610))) (fun _ hk => hk.1.2) (.string t612)) (fun _ hk => hk.1.2) (.int .i64 t613)) (fun _ hk => hk.1.2) (.float .f64 t614)) (fun _ hk => hk.1.2) (.string t615)) (fun _ hk => hk.1.2) (.int .i64 t616)) (fun _ hk => hk.1.2) (.int .i64 t617)) (fun _ hk => hk.1.2) (.float .f64 t618)) (fun _ hk => hk.1.2) (.string t619)) (fun _ hk => hk.2) (.string t620)) (fun _ hk => hk.2) (.int .i64 t621)) (fun _ hk => hk.2) (.float .f64 t622)) (fun _ hk => hk.2) (.string t623)) (fun _ hk => hk.2) (.int .i64 t624)) (fun _ hk => hk.2) (.int .i64 t625)) (fun _ hk => hk.2) (.float .f64 t626)) (fun _ hk => hk.2) (.string t627)) (fun _ h_ => h_.1)) (fun _ h_ => h_.1))) hb); replace HO633 := Aside0.mk (Kd.V_below (by (with_reducible repeat (first | apply Kd.V_alloc | apply Kd.V_drewN | apply Kd.V_drew)); exact (Kd.V_mono (Kd.V_mono (Kd.V_far (p := ⟨gb610, 7, none⟩) (Kd.V_far (p := ⟨gb610, 6, none⟩) (Kd.V_far (p := ⟨gb610, 5, none⟩) (Kd.V_far (p := ⟨gb610, 4, none⟩) (Kd.V_far (p := ⟨gb610, 3, none⟩) (Kd.V_far (p := ⟨gb610, 2, none⟩) (Kd.V_far (p := ⟨gb610, 1, none⟩) (Kd.V_far (p := ⟨gb610, 0, none⟩) (Kd.V_far (p := ⟨gb609, 7, none⟩) (Kd.V_far (p := ⟨gb609, 6, none⟩) (Kd.V_far (p := ⟨gb609, 5, none⟩) (Kd.V_far (p := ⟨gb609, 4, none⟩) (Kd.V_far (p := ⟨gb609, 3, none⟩) (Kd.V_far (p := ⟨gb609, 2, none⟩) (Kd.V_far (p := ⟨gb609, 1, none⟩) (Kd.V_far (p := ⟨gb609, 0, none⟩) (Kd.V_mono (Kd.V_mono HO633.out (fun k_ hk => (⟨hk, hk.1⟩ : _ ∧ k_ ≠ gb609))) (fun k_ hk => (⟨hk, hk.1.2⟩ : _ ∧ k_ ≠ gb610))) (fun _ hk => hk.1.2) (.string t612)) (fun _ hk => hk.1.2) (.int .i64 t613)) (fun _ hk => hk.1.2) (.float .f64 t614)) (fun _ hk => hk.1.2) (.string t615)) (fun _ hk => hk.1.2) (.int .i64 t616)) (fun _ hk => hk.1.2) (.int .i64 t617)) (fun _ hk => hk.1.2) (.float .f64 t618)) (fun _ hk => hk.1.2) (.string t619)) (fun _ hk => hk.2) (.string t620)) (fun _ hk => hk.2) (.int .i64 t621)) (fun _ hk => hk.2) (.float .f64 t622)) (fun _ hk => hk.2) (.string t623)) (fun _ hk => hk.2) (.int .i64 t624)) (fun _ hk => hk.2) (.int .i64 t625)) (fun _ hk => hk.2) (.float .f64 t626)) (fun _ hk => hk.2) (.string t627)) (fun _ h_ => h_.1)) (fun _ h_ => h_.1))) hb); replace BK609 := Aside0.mk (blk_below (g := gb609) (o := .cells #[.string t612, .int .i64 t613, .float .f64 t614, .string t615, .int .i64 t616, .int .i64 t617, .float .f64 t618, .string t619] 26 (0, 0)) (bR BK609) hb); replace BK610 := Aside0.mk (blk_below (g := gb610) (o := .cells #[.string t620, .int .i64 t621, .float .f64 t622, .string t623, .int .i64 t624, .int .i64 t625, .float .f64 t626, .string t627] 26 (0, 0)) (bR BK610) hb); replace HB := bW HB hb; (try clear hb); (try clear hb2); (try clear hk); (try clear hi)))
   go_ret
   exact ⟨by first | rfl | (simp [errW_none, errW_some] <;> rfl) | (simp [*, errW_none, errW_some] <;> rfl), by repeat (first | (with_reducible first | exact HB.out | apply below_alloc | apply pw_below_drewN | apply below_drew1 | refine below_set ?_ GE609.out | refine below_set ?_ GE610.out) | exact HB.out)⟩
 ·replace c6 := Bool.eq_false_iff.mpr c6
  subst c6
  have H1 : (none) = some r := by rw [if_neg (show ¬ (false = true) by decide)] at H; exact H
  clear H
  have H := H1
  clear H1
  exact absurd H (by simp)

/-- THE ONE PURE STATEMENT of engrosslaw10_CellBytes. -/
def engrosslaw10_CellBytes.Pure : Prop := ∀ (x0 : S26) (x1 : S26) (l2 : List Int) (l3 : List Int), wf26 x0 → wf26 x1 → (l2.length ≤ 9223372036854775807 ∧ ∀ y ∈ l2, (Lit.int .u8 y).wf = true) → (l3.length ≤ 9223372036854775807 ∧ ∀ y ∈ l3, (Lit.int .u8 y).wf = true) → ∃ k, engrosslaw10_CellBytes.f k x0.f0 x0.f1.f0 x0.f1.f1 x0.f1.f2 x0.f2 x0.f3.f0 x0.f3.f1 x0.f3.f2 x1.f0 x1.f1.f0 x1.f1.f1 x1.f1.f2 x1.f2 x1.f3.f0 x1.f3.f1 x1.f3.f2 l2 l3 = some true

end Go.Proofs.Ytjhbeaffcdkhcaa.P
