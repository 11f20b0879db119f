/- Functions of the program as Lean functions, and that each call answers as its function does. No condition. (Lines written by a generator of this session.) -/
import Derived.Test.YtjhbeaffcdkhcaaPx0
import Derived.Test.YtjhbeaffcdkhcaaPx1
import Derived.Test.YtjhbeaffcdkhcaaPx2
import Derived.Test.YtjhbeaffcdkhcaaPx5
import Derived.Test.YtjhbeaffcdkhcaaPx6
namespace Go.Proofs.Ytjhbeaffcdkhcaa.P
open Go.RowKit Go.Proofs.YtjhbeaffcdkhcaaW.PrintWords Go.Proofs.YtjhbeaffcdkhcaaW.PrintLast Go.Proofs.YtjhbeaffcdkhcaaW.PrintMore
attribute [local go_sem] max2_int min2_int max_two min_two max_three min_three max_four min_four   -- for this text's walks alone
attribute [local go_sem] x_str_gtr x_str_leq x_str_geq ext_bits ext_frombits ext_neg x_store_float Instr.field asAgg
set_option linter.unusedVariables false
set_option linter.unusedSimpArgs false

/-! ### engrosslaw10_CellTwice: function 8 -/
def engrosslaw10_CellTwice.j0 : Nat → Int → Bool → ByteArray → Int → Nat → ByteArray → Int → Int → Nat → ByteArray → Int → Nat → ByteArray → Int → Nat → ByteArray → Option (Bool)
 | 0, _, _, _, _, _, _, _, _, _, _, _, _, _, _, _, _ => none
 | k + 1, x1, x49, x957000, x957001, x957002, x957003, x957004, x957005, x957006, x957007, x958000, x958001, x958002, x959000, x959001, x959002 => if x49 = true then (some true) else ((engrosslaw10_Of.f x957000 x957001 x957002 x957003 x957004 x957005 x957006 x957007).bind fun bt977 => ((cell_Write.f bt977.1 bt977.2.1 bt977.2.2.1 bt977.2.2.2.1 bt977.2.2.2.2.1 bt977.2.2.2.2.2.1 bt977.2.2.2.2.2.2.1 bt977.2.2.2.2.2.2.2 x1 x958000 x958001 x958002).bind fun bt985 => ((cell_Write.f bt985.1 bt985.2.1 bt985.2.2.1 bt985.2.2.2.1 bt985.2.2.2.2.1 bt985.2.2.2.2.2.1 bt985.2.2.2.2.2.2.1 bt985.2.2.2.2.2.2.2 x1 x959000 x959001 x959002).bind fun bt993 => ((cell_Undo.f bt993.1 bt993.2.1 bt993.2.2.1 bt993.2.2.2.1 bt993.2.2.2.2.1 bt993.2.2.2.2.2.1 bt993.2.2.2.2.2.2.1 bt993.2.2.2.2.2.2.2).bind fun bt1002 => ((cell_Commit.f bt993.1 bt993.2.1 bt993.2.2.1 bt993.2.2.2.1 bt993.2.2.2.2.1 bt993.2.2.2.2.2.1 bt993.2.2.2.2.2.2.1 bt993.2.2.2.2.2.2.2).bind fun bt1012 => (if bt1002.2.2.2.2.2.2.2.2 = true then ((engrosslaw10_Of.f x957000 x957001 x957002 x957003 x957004 x957005 x957006 x957007).bind fun bt1022 => ((cell_Eq.f bt1002.1 bt1002.2.1 bt1002.2.2.1 bt1002.2.2.2.1 bt1002.2.2.2.2.1 bt1002.2.2.2.2.2.1 bt1002.2.2.2.2.2.2.1 bt1002.2.2.2.2.2.2.2.1 bt1022.1 bt1022.2.1 bt1022.2.2.1 bt1022.2.2.2.1 bt1022.2.2.2.2.1 bt1022.2.2.2.2.2.1 bt1022.2.2.2.2.2.2.1 bt1022.2.2.2.2.2.2.2).bind fun t1030 => (if t1030 = true then ((cell_See.f bt993.1 bt993.2.1 bt993.2.2.1 bt993.2.2.2.1 bt993.2.2.2.2.1 bt993.2.2.2.2.2.1 bt993.2.2.2.2.2.2.1 bt993.2.2.2.2.2.2.2 x1).bind fun bt1031 => ((engrossref1_EqVal.f bt1031.1 bt1031.2.1 bt1031.2.2 x959000 x959001 x959002).bind fun t1034 => (if t1034 = true then ((cell_See.f bt993.1 bt993.2.1 bt993.2.2.1 bt993.2.2.2.1 bt993.2.2.2.2.1 bt993.2.2.2.2.2.1 bt993.2.2.2.2.2.2.1 bt993.2.2.2.2.2.2.2 (wrap64 (x1 + 1))).bind fun bt1035 => ((engrossref1_EqVal.f bt1035.1 bt1035.2.1 bt1035.2.2 x957001 x957002 x957003).bind fun t1038 => (if t1038 = true then (if (bt1012.2.2.2.2.2.2.2.2 == (x959000 != 0)) = true then (if bt1012.2.2.2.2.2.2.2.2 = true then ((engrossref1_EqVal.f bt1012.2.1 bt1012.2.2.1 bt1012.2.2.2.1 x959000 x959001 x959002).bind fun t1039 => (if t1039 = true then (some (bt1012.2.2.2.2.1 == 0)) else (none))) else (some true)) else (none)) else (none)))) else (none)))) else (none)))) else (none)))))))
def engrosslaw10_CellTwice.f (k : Nat) (a0_0 : ByteArray) (a0_1 : Int) (a0_2 : Nat) (a0_3 : ByteArray) (a0_4 : Int) (a0_5 : Int) (a0_6 : Nat) (a0_7 : ByteArray) (a1 : Int) (a2_0 : Int) (a2_1 : Nat) (a2_2 : ByteArray) (a3_0 : Int) (a3_1 : Nat) (a3_2 : ByteArray) : Option (Bool) := (engrosslaw10_begun.f k).bind fun t959 => (if t959 = true then ((engrosslaw10_Cut.f a0_0 a0_1 a0_2 a0_3 a0_4 a0_5 a0_6 a0_7).bind fun bt960 => ((engrosslaw10_Val.f a2_0 a2_1 a2_2).bind fun bt968 => ((engrosslaw10_Val.f a3_0 a3_1 a3_2).bind fun bt971 => ((engrossref10_May.f bt960.1 bt960.2.1 bt960.2.2.1 bt960.2.2.2.1 bt960.2.2.2.2.1 bt960.2.2.2.2.2.1 bt960.2.2.2.2.2.2.1 bt960.2.2.2.2.2.2.2).bind fun t974 => (if t974 = true then (if bt960.2.2.2.2.1 = 0 then (if a1 < 1 then (engrosslaw10_CellTwice.j0 k a1 true bt960.1 bt960.2.1 bt960.2.2.1 bt960.2.2.2.1 bt960.2.2.2.2.1 bt960.2.2.2.2.2.1 bt960.2.2.2.2.2.2.1 bt960.2.2.2.2.2.2.2 bt968.1 bt968.2.1 bt968.2.2 bt971.1 bt971.2.1 bt971.2.2) else (if a1 > 1099511627776 then (engrosslaw10_CellTwice.j0 k a1 true bt960.1 bt960.2.1 bt960.2.2.1 bt960.2.2.2.1 bt960.2.2.2.2.1 bt960.2.2.2.2.2.1 bt960.2.2.2.2.2.2.1 bt960.2.2.2.2.2.2.2 bt968.1 bt968.2.1 bt968.2.2 bt971.1 bt971.2.1 bt971.2.2) else ((engrossref1_MayVal.f bt968.1 bt968.2.1 bt968.2.2).bind fun t975 => (if t975 = true then ((engrossref1_MayVal.f bt971.1 bt971.2.1 bt971.2.2).bind fun t976 => (engrosslaw10_CellTwice.j0 k a1 (!t976) bt960.1 bt960.2.1 bt960.2.2.1 bt960.2.2.2.1 bt960.2.2.2.2.1 bt960.2.2.2.2.2.1 bt960.2.2.2.2.2.2.1 bt960.2.2.2.2.2.2.2 bt968.1 bt968.2.1 bt968.2.2 bt971.1 bt971.2.1 bt971.2.2)) else (engrosslaw10_CellTwice.j0 k a1 true bt960.1 bt960.2.1 bt960.2.2.1 bt960.2.2.2.1 bt960.2.2.2.2.1 bt960.2.2.2.2.2.1 bt960.2.2.2.2.2.2.1 bt960.2.2.2.2.2.2.2 bt968.1 bt968.2.1 bt968.2.2 bt971.1 bt971.2.1 bt971.2.2))))) else (engrosslaw10_CellTwice.j0 k a1 true bt960.1 bt960.2.1 bt960.2.2.1 bt960.2.2.2.1 bt960.2.2.2.2.1 bt960.2.2.2.2.2.1 bt960.2.2.2.2.2.2.1 bt960.2.2.2.2.2.2.2 bt968.1 bt968.2.1 bt968.2.2 bt971.1 bt971.2.1 bt971.2.2)) else (engrosslaw10_CellTwice.j0 k a1 true bt960.1 bt960.2.1 bt960.2.2.1 bt960.2.2.2.1 bt960.2.2.2.2.1 bt960.2.2.2.2.2.1 bt960.2.2.2.2.2.2.1 bt960.2.2.2.2.2.2.2 bt968.1 bt968.2.1 bt968.2.2 bt971.1 bt971.2.1 bt971.2.2)))))) else (none))
theorem engrosslaw10_CellTwice.mono_l : ∀ k, (∀ y0 y1 y2 y3 y4 y5 y6 y7 y8 y9 y10 y11 y12 y13 y14 y15, LeO (engrosslaw10_CellTwice.j0 k y0 y1 y2 y3 y4 y5 y6 y7 y8 y9 y10 y11 y12 y13 y14 y15) (engrosslaw10_CellTwice.j0 (k + 1) y0 y1 y2 y3 y4 y5 y6 y7 y8 y9 y10 y11 y12 y13 y14 y15))
 | 0 => fun _ _ _ _ _ _ _ _ _ _ _ _ _ _ _ _ r h => by simp [engrosslaw10_CellTwice.j0] at h
 | k + 1 => by
  have ih0 := engrosslaw10_CellTwice.mono_l k
  ·intro y0 y1 y2 y3 y4 y5 y6 y7 y8 y9 y10 y11 y12 y13 y14 y15
   unfold engrosslaw10_CellTwice.j0
   repeat' first
   | (with_reducible exact ih0 _ _ _ _ _ _ _ _ _ _ _ _ _ _ _ _)
   | (with_reducible exact engrosslaw10_begun.mono _)
   | (with_reducible exact LeO.refl _)
   | (with_reducible exact LeO.none _)
   | (with_reducible refine LeO.ite ?_ ?_)
   | (with_reducible refine LeO.bind ?_ (fun _ => ?_))
   | exact ih0 _ _ _ _ _ _ _ _ _ _ _ _ _ _ _ _
   | exact engrosslaw10_begun.mono _
   | exact LeO.none _
   | refine LeO.ite ?_ ?_
   | refine LeO.bind ?_ (fun _ => ?_)
theorem engrosslaw10_CellTwice.mono : ∀ a0 a1 a2 a3 a4 a5 a6 a7 a8 a9 a10 a11 a12 a13 a14 k, LeO (engrosslaw10_CellTwice.f k a0 a1 a2 a3 a4 a5 a6 a7 a8 a9 a10 a11 a12 a13 a14) (engrosslaw10_CellTwice.f (k + 1) a0 a1 a2 a3 a4 a5 a6 a7 a8 a9 a10 a11 a12 a13 a14) := by
 intro a0 a1 a2 a3 a4 a5 a6 a7 a8 a9 a10 a11 a12 a13 a14 k
 have ih0 := engrosslaw10_CellTwice.mono_l k
 unfold engrosslaw10_CellTwice.f
 repeat' first
   | (with_reducible exact ih0 _ _ _ _ _ _ _ _ _ _ _ _ _ _ _ _)
   | (with_reducible exact engrosslaw10_begun.mono _)
   | (with_reducible exact LeO.refl _)
   | (with_reducible exact LeO.none _)
   | (with_reducible refine LeO.ite ?_ ?_)
   | (with_reducible refine LeO.bind ?_ (fun _ => ?_))
   | exact ih0 _ _ _ _ _ _ _ _ _ _ _ _ _ _ _ _
   | exact engrosslaw10_begun.mono _
   | exact LeO.none _
   | refine LeO.ite ?_ ?_
   | refine LeO.bind ?_ (fun _ => ?_)
def engrosslaw10_CellTwice.T4 : Bool × List (List Nat × List Nat) := (true, [([], []), ([0], [0]), ([], []), ([2, 1], [2]), ([], []), ([4, 3], [4]), ([1, 5, 0, 1], [1]), ([3, 6, 0, 1, 2, 3, 6], [3]), ([5, 7, 0, 1, 2, 3, 4, 5, 6, 7], [5])])
def engrosslaw10_CellTwice.B4 : List Nat := [0, 1, 0, 7, 0, 31, 63, 127, 255]
theorem engrosslaw10_CellTwice.tab4 : rtab .any (opsOf Try.f8 4) = engrosslaw10_CellTwice.T4 := by kernel_rfl
theorem engrosslaw10_CellTwice.bits4 : waitsOk engrosslaw10_CellTwice.T4.2 engrosslaw10_CellTwice.B4 = true := by kernel_rfl
def engrosslaw10_CellTwice.T7 : Bool × List (List Nat × List Nat) := (true, [([], []), ([0], [0]), ([], []), ([], []), ([1, 2, 3, 1], [1, 2, 3]), ([], []), ([], []), ([4, 5, 6, 4], [4, 5, 6]), ([], []), ([8, 7, 7, 0, 1, 2, 3, 4, 5, 6, 7, 8], [7, 8])])
def engrosslaw10_CellTwice.B7 : List Nat := [0, 1, 0, 0, 15, 0, 0, 127, 0, 511]
theorem engrosslaw10_CellTwice.tab7 : rtab .any (opsOf Try.f8 7) = engrosslaw10_CellTwice.T7 := by kernel_rfl
theorem engrosslaw10_CellTwice.bits7 : waitsOk engrosslaw10_CellTwice.T7.2 engrosslaw10_CellTwice.B7 = true := by kernel_rfl
def engrosslaw10_CellTwice.T10 : Bool × List (List Nat × List Nat) := (true, [([], []), ([0], [0]), ([1], [1]), ([1], [1]), ([3, 1, 1], [1, 3]), ([2, 4, 4, 1], [1, 2, 4]), ([1, 5], [1, 5]), ([6, 5], [6]), ([7], [7]), ([7], [7]), ([8, 9, 7, 7], [7, 8, 9]), ([7], [7]), ([10, 11, 10, 7], [7, 10, 11]), ([7, 12], [7, 12]), ([13, 12], [13]), ([14], [14]), ([14], [14]), ([16, 14], [14, 16]), ([15, 17, 14, 14], [14, 15, 17]), ([14], [14]), ([19, 14], [14, 19]), ([18, 20, 18, 14], [14, 18, 20]), ([14, 21], [14, 21]), ([22, 21], [22]), ([23], [23]), ([23], [23]), ([25, 23], [23, 25]), ([26, 23], [23, 26]), ([24, 27, 23], [23, 24, 27]), ([23, 28], [23, 28]), ([29, 23], [29]), ([30], [30]), ([31, 30], [30, 31]), ([32, 30, 30], [30, 32]), ([33], [33]), ([34, 33], [33, 34]), ([33], [33]), ([35, 36, 33, 33], [33, 35, 36]), ([37, 37, 33], [33, 37]), ([38], [38]), ([39, 38], [38, 39]), ([40, 38], [38, 40]), ([38, 41, 33], [33, 38, 41]), ([33, 42, 30], [30, 33, 42]), ([30, 43], [30, 43]), ([44, 38, 0, 1, 2, 3, 4, 5, 6, 7, 8, 9, 10, 11, 12, 13, 14, 15, 16, 17, 18, 19, 20, 21, 22, 23, 24, 25, 26, 27, 28, 29, 30, 31, 32, 33, 34, 35, 36, 37, 38, 39, 40, 41, 42, 43, 44], [44])])
def engrosslaw10_CellTwice.B10 : List Nat := [0, 1, 3, 3, 11, 31, 63, 127, 255, 255, 1023, 255, 4095, 8191, 16383, 32767, 32767, 98303, 262143, 32767, 557055, 2097151, 4194303, 8388607, 16777215, 16777215, 50331647, 117440511, 268435455, 536870911, 1073741823, 2147483647, 4294967295, 8589934591, 17179869183, 34359738367, 17179869183, 137438953471, 274877906943, 549755813887, 1099511627775, 2199023255551, 4398046511103, 8796093022207, 17592186044415, 35184372088831]
theorem engrosslaw10_CellTwice.tab10 : rtab .any (opsOf Try.f8 10) = engrosslaw10_CellTwice.T10 := by kernel_rfl
theorem engrosslaw10_CellTwice.bits10 : waitsOk engrosslaw10_CellTwice.T10.2 engrosslaw10_CellTwice.B10 = true := by kernel_rfl
set_option maxHeartbeats 8000000 in
set_option maxRecDepth 100000 in
theorem engrosslaw10_CellTwice.calls (k : Nat) (a0_0 : ByteArray) (a0_1 : Int) (a0_2 : Nat) (a0_3 : ByteArray) (a0_4 : Int) (a0_5 : Int) (a0_6 : Nat) (a0_7 : ByteArray) (a1 : Int) (a2_0 : Int) (a2_1 : Nat) (a2_2 : ByteArray) (a3_0 : Int) (a3_1 : Nat) (a3_2 : ByteArray) (r : Bool) (w : World) (h : engrosslaw10_CellTwice.f k a0_0 a0_1 a0_2 a0_3 a0_4 a0_5 a0_6 a0_7 a1 a2_0 a2_1 a2_2 a3_0 a3_1 a3_2 = some r) :
  Calls Try.prog 8 #[.agg #[.string a0_0, .int .i64 a0_1, .float .f64 a0_2, .string a0_3, .int .i64 a0_4, .int .i64 a0_5, .float .f64 a0_6, .string a0_7], .int .i64 a1, .agg #[.int .i64 a2_0, .float .f64 a2_1, .string a2_2], .agg #[.int .i64 a3_0, .float .f64 a3_1, .string a3_2]] w fun e w' => e = .returned (.bool r) ∧ Below w.heap.size w w' := by
 have hu26 := Try.underlying26
 have hu24 := Try.underlying24
 have hu31 := Try.underlying31
 have HB := Aside0.mk (Below.refl w.heap.size w)
 have H : ((engrosslaw10_begun.f k).bind fun t959 => (if t959 = true then ((engrosslaw10_Cut.f a0_0 a0_1 a0_2 a0_3 a0_4 a0_5 a0_6 a0_7).bind fun bt960 => ((engrosslaw10_Val.f a2_0 a2_1 a2_2).bind fun bt968 => ((engrosslaw10_Val.f a3_0 a3_1 a3_2).bind fun bt971 => ((engrossref10_May.f bt960.1 bt960.2.1 bt960.2.2.1 bt960.2.2.2.1 bt960.2.2.2.2.1 bt960.2.2.2.2.2.1 bt960.2.2.2.2.2.2.1 bt960.2.2.2.2.2.2.2).bind fun t974 => (if t974 = true then (if bt960.2.2.2.2.1 = 0 then (if a1 < 1 then (engrosslaw10_CellTwice.j0 k a1 true bt960.1 bt960.2.1 bt960.2.2.1 bt960.2.2.2.1 bt960.2.2.2.2.1 bt960.2.2.2.2.2.1 bt960.2.2.2.2.2.2.1 bt960.2.2.2.2.2.2.2 bt968.1 bt968.2.1 bt968.2.2 bt971.1 bt971.2.1 bt971.2.2) else (if a1 > 1099511627776 then (engrosslaw10_CellTwice.j0 k a1 true bt960.1 bt960.2.1 bt960.2.2.1 bt960.2.2.2.1 bt960.2.2.2.2.1 bt960.2.2.2.2.2.1 bt960.2.2.2.2.2.2.1 bt960.2.2.2.2.2.2.2 bt968.1 bt968.2.1 bt968.2.2 bt971.1 bt971.2.1 bt971.2.2) else ((engrossref1_MayVal.f bt968.1 bt968.2.1 bt968.2.2).bind fun t975 => (if t975 = true then ((engrossref1_MayVal.f bt971.1 bt971.2.1 bt971.2.2).bind fun t976 => (engrosslaw10_CellTwice.j0 k a1 (!t976) bt960.1 bt960.2.1 bt960.2.2.1 bt960.2.2.2.1 bt960.2.2.2.2.1 bt960.2.2.2.2.2.1 bt960.2.2.2.2.2.2.1 bt960.2.2.2.2.2.2.2 bt968.1 bt968.2.1 bt968.2.2 bt971.1 bt971.2.1 bt971.2.2)) else (engrosslaw10_CellTwice.j0 k a1 true bt960.1 bt960.2.1 bt960.2.2.1 bt960.2.2.2.1 bt960.2.2.2.2.1 bt960.2.2.2.2.2.1 bt960.2.2.2.2.2.2.1 bt960.2.2.2.2.2.2.2 bt968.1 bt968.2.1 bt968.2.2 bt971.1 bt971.2.1 bt971.2.2))))) else (engrosslaw10_CellTwice.j0 k a1 true bt960.1 bt960.2.1 bt960.2.2.1 bt960.2.2.2.1 bt960.2.2.2.2.1 bt960.2.2.2.2.2.1 bt960.2.2.2.2.2.2.1 bt960.2.2.2.2.2.2.2 bt968.1 bt968.2.1 bt968.2.2 bt971.1 bt971.2.1 bt971.2.2)) else (engrosslaw10_CellTwice.j0 k a1 true bt960.1 bt960.2.1 bt960.2.2.1 bt960.2.2.2.1 bt960.2.2.2.2.1 bt960.2.2.2.2.2.1 bt960.2.2.2.2.2.2.1 bt960.2.2.2.2.2.2.2 bt968.1 bt968.2.1 bt968.2.2 bt971.1 bt971.2.1 bt971.2.2)))))) else (none))) = some r := h
 clear h
 replace H := Option.bind_eq_some_iff.mp H
 obtain ⟨t959, A50, H⟩ := H
 replace H : (if t959 = true then ((engrosslaw10_Cut.f a0_0 a0_1 a0_2 a0_3 a0_4 a0_5 a0_6 a0_7).bind fun bt960 => ((engrosslaw10_Val.f a2_0 a2_1 a2_2).bind fun bt968 => ((engrosslaw10_Val.f a3_0 a3_1 a3_2).bind fun bt971 => ((engrossref10_May.f bt960.1 bt960.2.1 bt960.2.2.1 bt960.2.2.2.1 bt960.2.2.2.2.1 bt960.2.2.2.2.2.1 bt960.2.2.2.2.2.2.1 bt960.2.2.2.2.2.2.2).bind fun t974 => (if t974 = true then (if bt960.2.2.2.2.1 = 0 then (if a1 < 1 then (engrosslaw10_CellTwice.j0 k a1 true bt960.1 bt960.2.1 bt960.2.2.1 bt960.2.2.2.1 bt960.2.2.2.2.1 bt960.2.2.2.2.2.1 bt960.2.2.2.2.2.2.1 bt960.2.2.2.2.2.2.2 bt968.1 bt968.2.1 bt968.2.2 bt971.1 bt971.2.1 bt971.2.2) else (if a1 > 1099511627776 then (engrosslaw10_CellTwice.j0 k a1 true bt960.1 bt960.2.1 bt960.2.2.1 bt960.2.2.2.1 bt960.2.2.2.2.1 bt960.2.2.2.2.2.1 bt960.2.2.2.2.2.2.1 bt960.2.2.2.2.2.2.2 bt968.1 bt968.2.1 bt968.2.2 bt971.1 bt971.2.1 bt971.2.2) else ((engrossref1_MayVal.f bt968.1 bt968.2.1 bt968.2.2).bind fun t975 => (if t975 = true then ((engrossref1_MayVal.f bt971.1 bt971.2.1 bt971.2.2).bind fun t976 => (engrosslaw10_CellTwice.j0 k a1 (!t976) bt960.1 bt960.2.1 bt960.2.2.1 bt960.2.2.2.1 bt960.2.2.2.2.1 bt960.2.2.2.2.2.1 bt960.2.2.2.2.2.2.1 bt960.2.2.2.2.2.2.2 bt968.1 bt968.2.1 bt968.2.2 bt971.1 bt971.2.1 bt971.2.2)) else (engrosslaw10_CellTwice.j0 k a1 true bt960.1 bt960.2.1 bt960.2.2.1 bt960.2.2.2.1 bt960.2.2.2.2.1 bt960.2.2.2.2.2.1 bt960.2.2.2.2.2.2.1 bt960.2.2.2.2.2.2.2 bt968.1 bt968.2.1 bt968.2.2 bt971.1 bt971.2.1 bt971.2.2))))) else (engrosslaw10_CellTwice.j0 k a1 true bt960.1 bt960.2.1 bt960.2.2.1 bt960.2.2.2.1 bt960.2.2.2.2.1 bt960.2.2.2.2.2.1 bt960.2.2.2.2.2.2.1 bt960.2.2.2.2.2.2.2 bt968.1 bt968.2.1 bt968.2.2 bt971.1 bt971.2.1 bt971.2.2)) else (engrosslaw10_CellTwice.j0 k a1 true bt960.1 bt960.2.1 bt960.2.2.1 bt960.2.2.2.1 bt960.2.2.2.2.1 bt960.2.2.2.2.2.1 bt960.2.2.2.2.2.2.1 bt960.2.2.2.2.2.2.2 bt968.1 bt968.2.1 bt968.2.2 bt971.1 bt971.2.1 bt971.2.2)))))) else (none)) = some r := H
 have A5 := Aside0.mk A50
 clear A50
 by_cases c6 : t959 = true
 ·subst c6
  have H1 : ((engrosslaw10_Cut.f a0_0 a0_1 a0_2 a0_3 a0_4 a0_5 a0_6 a0_7).bind fun bt960 => ((engrosslaw10_Val.f a2_0 a2_1 a2_2).bind fun bt968 => ((engrosslaw10_Val.f a3_0 a3_1 a3_2).bind fun bt971 => ((engrossref10_May.f bt960.1 bt960.2.1 bt960.2.2.1 bt960.2.2.2.1 bt960.2.2.2.2.1 bt960.2.2.2.2.2.1 bt960.2.2.2.2.2.2.1 bt960.2.2.2.2.2.2.2).bind fun t974 => (if t974 = true then (if bt960.2.2.2.2.1 = 0 then (if a1 < 1 then (engrosslaw10_CellTwice.j0 k a1 true bt960.1 bt960.2.1 bt960.2.2.1 bt960.2.2.2.1 bt960.2.2.2.2.1 bt960.2.2.2.2.2.1 bt960.2.2.2.2.2.2.1 bt960.2.2.2.2.2.2.2 bt968.1 bt968.2.1 bt968.2.2 bt971.1 bt971.2.1 bt971.2.2) else (if a1 > 1099511627776 then (engrosslaw10_CellTwice.j0 k a1 true bt960.1 bt960.2.1 bt960.2.2.1 bt960.2.2.2.1 bt960.2.2.2.2.1 bt960.2.2.2.2.2.1 bt960.2.2.2.2.2.2.1 bt960.2.2.2.2.2.2.2 bt968.1 bt968.2.1 bt968.2.2 bt971.1 bt971.2.1 bt971.2.2) else ((engrossref1_MayVal.f bt968.1 bt968.2.1 bt968.2.2).bind fun t975 => (if t975 = true then ((engrossref1_MayVal.f bt971.1 bt971.2.1 bt971.2.2).bind fun t976 => (engrosslaw10_CellTwice.j0 k a1 (!t976) bt960.1 bt960.2.1 bt960.2.2.1 bt960.2.2.2.1 bt960.2.2.2.2.1 bt960.2.2.2.2.2.1 bt960.2.2.2.2.2.2.1 bt960.2.2.2.2.2.2.2 bt968.1 bt968.2.1 bt968.2.2 bt971.1 bt971.2.1 bt971.2.2)) else (engrosslaw10_CellTwice.j0 k a1 true bt960.1 bt960.2.1 bt960.2.2.1 bt960.2.2.2.1 bt960.2.2.2.2.1 bt960.2.2.2.2.2.1 bt960.2.2.2.2.2.2.1 bt960.2.2.2.2.2.2.2 bt968.1 bt968.2.1 bt968.2.2 bt971.1 bt971.2.1 bt971.2.2))))) else (engrosslaw10_CellTwice.j0 k a1 true bt960.1 bt960.2.1 bt960.2.2.1 bt960.2.2.2.1 bt960.2.2.2.2.1 bt960.2.2.2.2.2.1 bt960.2.2.2.2.2.2.1 bt960.2.2.2.2.2.2.2 bt968.1 bt968.2.1 bt968.2.2 bt971.1 bt971.2.1 bt971.2.2)) else (engrosslaw10_CellTwice.j0 k a1 true bt960.1 bt960.2.1 bt960.2.2.1 bt960.2.2.2.1 bt960.2.2.2.2.1 bt960.2.2.2.2.2.1 bt960.2.2.2.2.2.2.1 bt960.2.2.2.2.2.2.2 bt968.1 bt968.2.1 bt968.2.2 bt971.1 bt971.2.1 bt971.2.2)))))) = some r := by rw [if_pos rfl] at H; exact H
  clear H
  have H := H1
  clear H1
  replace H := Option.bind_eq_some_iff.mp H
  obtain ⟨⟨t960, t961, t962, t963, t964, t965, t966, t967⟩, A70, H⟩ := H
  replace H : ((engrosslaw10_Val.f a2_0 a2_1 a2_2).bind fun bt968 => ((engrosslaw10_Val.f a3_0 a3_1 a3_2).bind fun bt971 => ((engrossref10_May.f t960 t961 t962 t963 t964 t965 t966 t967).bind fun t974 => (if t974 = true then (if t964 = 0 then (if a1 < 1 then (engrosslaw10_CellTwice.j0 k a1 true t960 t961 t962 t963 t964 t965 t966 t967 bt968.1 bt968.2.1 bt968.2.2 bt971.1 bt971.2.1 bt971.2.2) else (if a1 > 1099511627776 then (engrosslaw10_CellTwice.j0 k a1 true t960 t961 t962 t963 t964 t965 t966 t967 bt968.1 bt968.2.1 bt968.2.2 bt971.1 bt971.2.1 bt971.2.2) else ((engrossref1_MayVal.f bt968.1 bt968.2.1 bt968.2.2).bind fun t975 => (if t975 = true then ((engrossref1_MayVal.f bt971.1 bt971.2.1 bt971.2.2).bind fun t976 => (engrosslaw10_CellTwice.j0 k a1 (!t976) t960 t961 t962 t963 t964 t965 t966 t967 bt968.1 bt968.2.1 bt968.2.2 bt971.1 bt971.2.1 bt971.2.2)) else (engrosslaw10_CellTwice.j0 k a1 true t960 t961 t962 t963 t964 t965 t966 t967 bt968.1 bt968.2.1 bt968.2.2 bt971.1 bt971.2.1 bt971.2.2))))) else (engrosslaw10_CellTwice.j0 k a1 true t960 t961 t962 t963 t964 t965 t966 t967 bt968.1 bt968.2.1 bt968.2.2 bt971.1 bt971.2.1 bt971.2.2)) else (engrosslaw10_CellTwice.j0 k a1 true t960 t961 t962 t963 t964 t965 t966 t967 bt968.1 bt968.2.1 bt968.2.2 bt971.1 bt971.2.1 bt971.2.2))))) = some r := H
  have A7 := Aside0.mk A70
  clear A70
  replace H := Option.bind_eq_some_iff.mp H
  obtain ⟨⟨t968, t969, t970⟩, A80, H⟩ := H
  replace H : ((engrosslaw10_Val.f a3_0 a3_1 a3_2).bind fun bt971 => ((engrossref10_May.f t960 t961 t962 t963 t964 t965 t966 t967).bind fun t974 => (if t974 = true then (if t964 = 0 then (if a1 < 1 then (engrosslaw10_CellTwice.j0 k a1 true t960 t961 t962 t963 t964 t965 t966 t967 t968 t969 t970 bt971.1 bt971.2.1 bt971.2.2) else (if a1 > 1099511627776 then (engrosslaw10_CellTwice.j0 k a1 true t960 t961 t962 t963 t964 t965 t966 t967 t968 t969 t970 bt971.1 bt971.2.1 bt971.2.2) else ((engrossref1_MayVal.f t968 t969 t970).bind fun t975 => (if t975 = true then ((engrossref1_MayVal.f bt971.1 bt971.2.1 bt971.2.2).bind fun t976 => (engrosslaw10_CellTwice.j0 k a1 (!t976) t960 t961 t962 t963 t964 t965 t966 t967 t968 t969 t970 bt971.1 bt971.2.1 bt971.2.2)) else (engrosslaw10_CellTwice.j0 k a1 true t960 t961 t962 t963 t964 t965 t966 t967 t968 t969 t970 bt971.1 bt971.2.1 bt971.2.2))))) else (engrosslaw10_CellTwice.j0 k a1 true t960 t961 t962 t963 t964 t965 t966 t967 t968 t969 t970 bt971.1 bt971.2.1 bt971.2.2)) else (engrosslaw10_CellTwice.j0 k a1 true t960 t961 t962 t963 t964 t965 t966 t967 t968 t969 t970 bt971.1 bt971.2.1 bt971.2.2)))) = some r := H
  have A8 := Aside0.mk A80
  clear A80
  replace H := Option.bind_eq_some_iff.mp H
  obtain ⟨⟨t971, t972, t973⟩, A90, H⟩ := H
  replace H : ((engrossref10_May.f t960 t961 t962 t963 t964 t965 t966 t967).bind fun t974 => (if t974 = true then (if t964 = 0 then (if a1 < 1 then (engrosslaw10_CellTwice.j0 k a1 true t960 t961 t962 t963 t964 t965 t966 t967 t968 t969 t970 t971 t972 t973) else (if a1 > 1099511627776 then (engrosslaw10_CellTwice.j0 k a1 true t960 t961 t962 t963 t964 t965 t966 t967 t968 t969 t970 t971 t972 t973) else ((engrossref1_MayVal.f t968 t969 t970).bind fun t975 => (if t975 = true then ((engrossref1_MayVal.f t971 t972 t973).bind fun t976 => (engrosslaw10_CellTwice.j0 k a1 (!t976) t960 t961 t962 t963 t964 t965 t966 t967 t968 t969 t970 t971 t972 t973)) else (engrosslaw10_CellTwice.j0 k a1 true t960 t961 t962 t963 t964 t965 t966 t967 t968 t969 t970 t971 t972 t973))))) else (engrosslaw10_CellTwice.j0 k a1 true t960 t961 t962 t963 t964 t965 t966 t967 t968 t969 t970 t971 t972 t973)) else (engrosslaw10_CellTwice.j0 k a1 true t960 t961 t962 t963 t964 t965 t966 t967 t968 t969 t970 t971 t972 t973))) = some r := H
  have A9 := Aside0.mk A90
  clear A90
  have HC10 := Aside0.mk H
  clear H
  go_enter Try.func8, Try.ntmps8
  try go_wp2_with (first | ((with_reducible refine gate_dst (N := 4) rfl ?_); refine box_event ?hg (N := 4) ?hd (cs := #[.string a0_0, .int .i64 a0_1, .float .f64 a0_2, .string a0_3, .int .i64 a0_4, .int .i64 a0_5, .float .f64 a0_6, .string a0_7]) (t := 26) ?hr ?_; (case hd => rfl); (case hg => rfl); (case hr => first | (go_simp; done) | (go_simp; rfl)); intro gb956 hg w11 hbox hb; have BK956 := Aside0.mk (hbox); have GW956 := bZ HB hg; have GE956 := bZ HB hg; replace HB := bW HB hb; clear hb hbox hg) | ((with_reducible refine gate_dst (N := 6) rfl ?_); refine box_event ?hg (N := 6) ?hd (cs := #[.int .i64 a2_0, .float .f64 a2_1, .string a2_2]) (t := 24) ?hr ?_; (case hd => rfl); (case hg => rfl); (case hr => first | (go_simp; done) | (go_simp; rfl)); intro gb957 hg w12 hbox hb; have BK957 := Aside0.mk (hbox); have GW957 := bZ HB hg; have GE957 := bZ HB hg; have NB956_957 := bL BK956 hg; have NB957_956 := bG BK956 hg; replace BK956 := bB BK956 hb; replace HB := bW HB hb; clear hb hbox hg) | ((with_reducible refine gate_dst (N := 7) rfl ?_); refine box_event ?hg (N := 7) ?hd (cs := #[.int .i64 a3_0, .float .f64 a3_1, .string a3_2]) (t := 24) ?hr ?_; (case hd => rfl); (case hg => rfl); (case hr => first | (go_simp; done) | (go_simp; rfl)); intro gb958 hg w13 hbox hb; have BK958 := Aside0.mk (hbox); have GW958 := bZ HB hg; have GE958 := bZ HB hg; have NB956_958 := bL BK956 hg; have NB958_956 := bG BK956 hg; have NB957_958 := bL BK957 hg; have NB958_957 := bG BK957 hg; replace BK956 := bB BK956 hb; replace BK957 := bB BK957 hb; replace HB := bW HB hb; clear hb hbox hg) | ((with_reducible refine gate_callee (f := 10) rfl ?_); refine goesL_ (some 15) rfl rfl Try.func10 (by kernel_rfl) rfl #[] rfl (by (try simp only [List.map_toArray, List.map_cons, List.map_nil]); first | done | rfl | (simp only [List.length_drop, List.length_take]; rfl)) ?_; (with_reducible refine (engrosslaw10_begun.calls k  true _ A5.out).mono ?_); rintro e w14 ⟨rfl, hb⟩; refine ⟨_, rfl, ?_⟩; replace BK956 := bB BK956 hb; replace BK957 := bB BK957 hb; replace BK958 := bB BK958 hb; replace HB := bW HB hb; (try clear hb); (try clear hb2); (try clear hk); (try clear hi)))
  replace BK956 := Aside0.mk (blk_drew BK956.out)
  replace BK957 := Aside0.mk (blk_drew BK957.out)
  replace BK958 := Aside0.mk (blk_drew BK958.out)
  replace HB := Aside0.mk (below_drew1 HB.out)
  refine start_ (n := 9) (S := fun w' => w'.cell? ⟨gb956, 0, none⟩ = some (.string a0_0) ∧ w'.cell? ⟨gb956, 1, none⟩ = some (.int .i64 a0_1) ∧ w'.cell? ⟨gb956, 2, none⟩ = some (.float .f64 a0_2) ∧ w'.cell? ⟨gb956, 3, none⟩ = some (.string a0_3) ∧ w'.cell? ⟨gb956, 4, none⟩ = some (.int .i64 a0_4) ∧ w'.cell? ⟨gb956, 5, none⟩ = some (.int .i64 a0_5) ∧ w'.cell? ⟨gb956, 6, none⟩ = some (.float .f64 a0_6) ∧ w'.cell? ⟨gb956, 7, none⟩ = some (.string a0_7) ∧ w'.cell? ⟨gb957, 0, none⟩ = some (.int .i64 a2_0) ∧ w'.cell? ⟨gb957, 1, none⟩ = some (.float .f64 a2_1) ∧ w'.cell? ⟨gb957, 2, none⟩ = some (.string a2_2) ∧ w'.cell? ⟨gb958, 0, none⟩ = some (.int .i64 a3_0) ∧ w'.cell? ⟨gb958, 1, none⟩ = some (.float .f64 a3_1) ∧ w'.cell? ⟨gb958, 2, none⟩ = some (.string a3_2)) (ds := [6, 7, 8]) #[false, false, false, false, false, false, false, false, false] (by kernel_rfl) rfl rfl (bn8 BK956 (bn3 BK957 (be3 BK958))) (fun hHeld => ?_); refine with_tabW engrosslaw10_CellTwice.tab4 engrosslaw10_CellTwice.bits4 (fun HT_ HW_ => ?_)
  generalize w14.drew = w15 at BK956 BK957 BK958 HB hHeld ⊢
  refine take_ (i := 0) (N := some 18) (v := ?_) (a' := ?_) #[true, false, false, false, false, false, false, false, false] rfl rfl (take_ofW HT_.out HW_.out (by kernel_rfl)) (fun _ _ _ h => h) (Or.inl ⟨by rfl, ?_⟩) hHeld ?_ ?_
  rotate_left
  ·rintro w' ⟨s0, s1, s2, s3, s4, s5, s6, s7, s8, s9, s10, s11, s12, s13⟩
   go_simp
   with_reducible rfl
  rotate_left
  ·simp only [Act.put, List.setIfInBounds_toArray, List.set_cons_zero, List.set_cons_succ, i64_w, i32_w]
   rfl
  refine take_ (i := 2) (N := some 20) (v := ?_) (a' := ?_) #[true, false, true, false, false, false, false, false, false] rfl rfl (take_ofW HT_.out HW_.out (by kernel_rfl)) (fun _ _ _ h => h) (Or.inl ⟨by rfl, ?_⟩) hHeld ?_ ?_
  rotate_left
  ·rintro w' ⟨s0, s1, s2, s3, s4, s5, s6, s7, s8, s9, s10, s11, s12, s13⟩
   go_simp
   with_reducible rfl
  rotate_left
  ·simp only [Act.put, List.setIfInBounds_toArray, List.set_cons_zero, List.set_cons_succ, i64_w, i32_w]
   rfl
  refine take_ (i := 4) (N := some 22) (v := ?_) (a' := ?_) #[true, false, true, false, true, false, false, false, false] rfl rfl (take_ofW HT_.out HW_.out (by kernel_rfl)) (fun _ _ _ h => h) (Or.inl ⟨by rfl, ?_⟩) hHeld ?_ ?_
  rotate_left
  ·rintro w' ⟨s0, s1, s2, s3, s4, s5, s6, s7, s8, s9, s10, s11, s12, s13⟩
   go_simp
   with_reducible rfl
  rotate_left
  ·simp only [Act.put, List.setIfInBounds_toArray, List.set_cons_zero, List.set_cons_succ, i64_w, i32_w]
   rfl
  refine one_ (i := 1) (N := some 19) #[true, true, true, false, true, false, false, false, false] rfl rfl (one_of HT_.out (by kernel_rfl)) (by decide) (fun K hK => ?_)
  refine goes_ Try.func11 (by kernel_rfl) rfl #[.agg #[.string a0_0, .int .i64 a0_1, .float .f64 a0_2, .string a0_3, .int .i64 a0_4, .int .i64 a0_5, .float .f64 a0_6, .string a0_7]] (by rfl) rfl rfl (by (try simp only [List.map_toArray, List.map_cons, List.map_nil]); first | done | rfl | (simp only [List.length_drop, List.length_take]; rfl)) ?_
  with_reducible refine (engrosslaw10_Cut.calls a0_0 a0_1 a0_2 a0_3 a0_4 a0_5 a0_6 a0_7 t960 t961 t962 t963 t964 t965 t966 t967 _ A7.out).mono ?_
  rintro e w16 ⟨rfl, hb⟩
  refine ⟨_, rfl, ?_⟩
  replace BK956 := bB BK956 hb
  replace BK957 := bB BK957 hb
  replace BK958 := bB BK958 hb
  replace HB := bW HB hb
  (try clear hb)
  (try clear hb2)
  (try clear hk)
  (try clear hi)
  refine hK.out _ _ (bn8 BK956 (bn3 BK957 (be3 BK958))) (fun hHeld => ?_)
  clear hK K
  refine norm_ (a' := ?_) ?_ ?_
  rotate_left
  ·show Act.put _ (some 19) _ = _
   simp only [Act.put, List.setIfInBounds_toArray, List.set_cons_zero, List.set_cons_succ, i64_w, i32_w]
   rfl
  refine one_ (i := 3) (N := some 21) #[true, true, true, true, true, false, false, false, false] rfl rfl (one_of HT_.out (by kernel_rfl)) (by decide) (fun K hK => ?_)
  refine goes_ Try.func12 (by kernel_rfl) rfl #[.agg #[.int .i64 a2_0, .float .f64 a2_1, .string a2_2]] (by rfl) rfl rfl (by (try simp only [List.map_toArray, List.map_cons, List.map_nil]); first | done | rfl | (simp only [List.length_drop, List.length_take]; rfl)) ?_
  with_reducible refine (engrosslaw10_Val.calls a2_0 a2_1 a2_2 t968 t969 t970 _ A8.out).mono ?_
  rintro e w17 ⟨rfl, hb⟩
  refine ⟨_, rfl, ?_⟩
  replace BK956 := bB BK956 hb
  replace BK957 := bB BK957 hb
  replace BK958 := bB BK958 hb
  replace HB := bW HB hb
  (try clear hb)
  (try clear hb2)
  (try clear hk)
  (try clear hi)
  refine hK.out _ _ (bn8 BK956 (bn3 BK957 (be3 BK958))) (fun hHeld => ?_)
  clear hK K
  refine norm_ (a' := ?_) ?_ ?_
  rotate_left
  ·show Act.put _ (some 21) _ = _
   simp only [Act.put, List.setIfInBounds_toArray, List.set_cons_zero, List.set_cons_succ, i64_w, i32_w]
   rfl
  refine one_ (i := 5) (N := some 23) #[true, true, true, true, true, true, false, false, false] rfl rfl (one_of HT_.out (by kernel_rfl)) (by decide) (fun K hK => ?_)
  refine goes_ Try.func12 (by kernel_rfl) rfl #[.agg #[.int .i64 a3_0, .float .f64 a3_1, .string a3_2]] (by rfl) rfl rfl (by (try simp only [List.map_toArray, List.map_cons, List.map_nil]); first | done | rfl | (simp only [List.length_drop, List.length_take]; rfl)) ?_
  with_reducible refine (engrosslaw10_Val.calls a3_0 a3_1 a3_2 t971 t972 t973 _ A9.out).mono ?_
  rintro e w18 ⟨rfl, hb⟩
  refine ⟨_, rfl, ?_⟩
  replace BK956 := bB BK956 hb
  replace BK957 := bB BK957 hb
  replace BK958 := bB BK958 hb
  replace HB := bW HB hb
  (try clear hb)
  (try clear hb2)
  (try clear hk)
  (try clear hi)
  refine hK.out _ _ (bn8 BK956 (bn3 BK957 (be3 BK958))) (fun hHeld => ?_)
  clear hK K
  refine norm_ (a' := ?_) ?_ ?_
  rotate_left
  ·show Act.put _ (some 23) _ = _
   simp only [Act.put, List.setIfInBounds_toArray, List.set_cons_zero, List.set_cons_succ, i64_w, i32_w]
   rfl
  refine last_ (i := 6) (N := none) #[true, true, true, true, true, true, true, false, false] rfl rfl (one_of HT_.out (by kernel_rfl)) (by decide) (fun K hK => ?_)
  have hs19 : w18.cell? ⟨gb956, 0, none⟩ = some (.string a0_0) := (blk_cell BK956.out 0).trans rfl
  have hfs19 := blk_frozen BK956.out 0
  have hns19_1 := NB957_956.out
  have hns19_2 := NB958_956.out
  have hms19_1 := NB956_957.out
  have hms19_2 := NB956_958.out
  have hs20 : w18.cell? ⟨gb956, 1, none⟩ = some (.int .i64 a0_1) := (blk_cell BK956.out 1).trans rfl
  have hfs20 := blk_frozen BK956.out 1
  have hns20_1 := NB957_956.out
  have hns20_2 := NB958_956.out
  have hms20_1 := NB956_957.out
  have hms20_2 := NB956_958.out
  have hs21 : w18.cell? ⟨gb956, 2, none⟩ = some (.float .f64 a0_2) := (blk_cell BK956.out 2).trans rfl
  have hfs21 := blk_frozen BK956.out 2
  have hns21_1 := NB957_956.out
  have hns21_2 := NB958_956.out
  have hms21_1 := NB956_957.out
  have hms21_2 := NB956_958.out
  have hs22 : w18.cell? ⟨gb956, 3, none⟩ = some (.string a0_3) := (blk_cell BK956.out 3).trans rfl
  have hfs22 := blk_frozen BK956.out 3
  have hns22_1 := NB957_956.out
  have hns22_2 := NB958_956.out
  have hms22_1 := NB956_957.out
  have hms22_2 := NB956_958.out
  have hs23 : w18.cell? ⟨gb956, 4, none⟩ = some (.int .i64 a0_4) := (blk_cell BK956.out 4).trans rfl
  have hfs23 := blk_frozen BK956.out 4
  have hns23_1 := NB957_956.out
  have hns23_2 := NB958_956.out
  have hms23_1 := NB956_957.out
  have hms23_2 := NB956_958.out
  have hs24 : w18.cell? ⟨gb956, 5, none⟩ = some (.int .i64 a0_5) := (blk_cell BK956.out 5).trans rfl
  have hfs24 := blk_frozen BK956.out 5
  have hns24_1 := NB957_956.out
  have hns24_2 := NB958_956.out
  have hms24_1 := NB956_957.out
  have hms24_2 := NB956_958.out
  have hs25 : w18.cell? ⟨gb956, 6, none⟩ = some (.float .f64 a0_6) := (blk_cell BK956.out 6).trans rfl
  have hfs25 := blk_frozen BK956.out 6
  have hns25_1 := NB957_956.out
  have hns25_2 := NB958_956.out
  have hms25_1 := NB956_957.out
  have hms25_2 := NB956_958.out
  have hs26 : w18.cell? ⟨gb956, 7, none⟩ = some (.string a0_7) := (blk_cell BK956.out 7).trans rfl
  have hfs26 := blk_frozen BK956.out 7
  have hns26_1 := NB957_956.out
  have hns26_2 := NB958_956.out
  have hms26_1 := NB956_957.out
  have hms26_2 := NB956_958.out
  with_reducible refine skip_ (w1 := ?_) (by with_unfolding_all rfl) (by with_unfolding_all rfl) ?_ ?_
  rotate_left
  ·go_simp
   rfl
  refine hK.out _ _ ?_
  clear hK K
  refine last_ (i := 7) (N := none) #[true, true, true, true, true, true, true, true, false] rfl rfl (one_of HT_.out (by kernel_rfl)) (by decide) (fun K hK => ?_)
  have hs27 : w18.cell? ⟨gb957, 0, none⟩ = some (.int .i64 a2_0) := (blk_cell BK957.out 0).trans rfl
  have hfs27 := blk_frozen BK957.out 0
  have hns27_0 := NB956_957.out
  have hns27_2 := NB958_957.out
  have hms27_0 := NB957_956.out
  have hms27_2 := NB957_958.out
  have hs28 : w18.cell? ⟨gb957, 1, none⟩ = some (.float .f64 a2_1) := (blk_cell BK957.out 1).trans rfl
  have hfs28 := blk_frozen BK957.out 1
  have hns28_0 := NB956_957.out
  have hns28_2 := NB958_957.out
  have hms28_0 := NB957_956.out
  have hms28_2 := NB957_958.out
  have hs29 : w18.cell? ⟨gb957, 2, none⟩ = some (.string a2_2) := (blk_cell BK957.out 2).trans rfl
  have hfs29 := blk_frozen BK957.out 2
  have hns29_0 := NB956_957.out
  have hns29_2 := NB958_957.out
  have hms29_0 := NB957_956.out
  have hms29_2 := NB957_958.out
  with_reducible refine skip_ (w1 := ?_) (by with_unfolding_all rfl) (by with_unfolding_all rfl) ?_ ?_
  rotate_left
  ·go_simp
   rfl
  refine hK.out _ _ ?_
  clear hK K
  refine last_ (i := 8) (N := none) #[true, true, true, true, true, true, true, true, true] rfl rfl (one_of HT_.out (by kernel_rfl)) (by decide) (fun K hK => ?_)
  have hs30 : w18.cell? ⟨gb958, 0, none⟩ = some (.int .i64 a3_0) := (blk_cell BK958.out 0).trans rfl
  have hfs30 := blk_frozen BK958.out 0
  have hns30_0 := NB956_958.out
  have hns30_1 := NB957_958.out
  have hms30_0 := NB958_956.out
  have hms30_1 := NB958_957.out
  have hs31 : w18.cell? ⟨gb958, 1, none⟩ = some (.float .f64 a3_1) := (blk_cell BK958.out 1).trans rfl
  have hfs31 := blk_frozen BK958.out 1
  have hns31_0 := NB956_958.out
  have hns31_1 := NB957_958.out
  have hms31_0 := NB958_956.out
  have hms31_1 := NB958_957.out
  have hs32 : w18.cell? ⟨gb958, 2, none⟩ = some (.string a3_2) := (blk_cell BK958.out 2).trans rfl
  have hfs32 := blk_frozen BK958.out 2
  have hns32_0 := NB956_958.out
  have hns32_1 := NB957_958.out
  have hms32_0 := NB958_956.out
  have hms32_1 := NB958_957.out
  with_reducible refine skip_ (w1 := ?_) (by with_unfolding_all rfl) (by with_unfolding_all rfl) ?_ ?_
  rotate_left
  ·go_simp
   rfl
  refine hK.out _ _ ?_
  clear hK K
  refine done_ (done_of HT_.out (by kernel_rfl)) ?_
  go_upto_region 5 with (fail)
  go_cut [49] (fun v49 wc => ∃ (kq : Nat) (x49_9 : Bool), v49 = .bool x49_9 ∧ Aside0 (engrosslaw10_CellTwice.j0 kq a1 x49_9 t960 t961 t962 t963 t964 t965 t966 t967 t968 t969 t970 t971 t972 t973 = some r) ∧ Aside0 (kq ≤ k) ∧ Aside0 (wc.heap[gb956]? = some (.cells #[.string t960, .int .i64 t961, .float .f64 t962, .string t963, .int .i64 t964, .int .i64 t965, .float .f64 t966, .string t967] 26 (0, 0))) ∧ Aside0 (wc.heap[gb957]? = some (.cells #[.int .i64 t968, .float .f64 t969, .string t970] 24 (0, 0))) ∧ Aside0 (wc.heap[gb958]? = some (.cells #[.int .i64 t971, .float .f64 t972, .string t973] 24 (0, 0))) ∧ Aside0 (Below w.heap.size w wc))
  case first =>
   have H := HC10.out
   clear HC10
   replace H := Option.bind_eq_some_iff.mp H
   obtain ⟨t974, A330, H⟩ := H
   replace H : (if t974 = true then (if t964 = 0 then (if a1 < 1 then (engrosslaw10_CellTwice.j0 k a1 true t960 t961 t962 t963 t964 t965 t966 t967 t968 t969 t970 t971 t972 t973) else (if a1 > 1099511627776 then (engrosslaw10_CellTwice.j0 k a1 true t960 t961 t962 t963 t964 t965 t966 t967 t968 t969 t970 t971 t972 t973) else ((engrossref1_MayVal.f t968 t969 t970).bind fun t975 => (if t975 = true then ((engrossref1_MayVal.f t971 t972 t973).bind fun t976 => (engrosslaw10_CellTwice.j0 k a1 (!t976) t960 t961 t962 t963 t964 t965 t966 t967 t968 t969 t970 t971 t972 t973)) else (engrosslaw10_CellTwice.j0 k a1 true t960 t961 t962 t963 t964 t965 t966 t967 t968 t969 t970 t971 t972 t973))))) else (engrosslaw10_CellTwice.j0 k a1 true t960 t961 t962 t963 t964 t965 t966 t967 t968 t969 t970 t971 t972 t973)) else (engrosslaw10_CellTwice.j0 k a1 true t960 t961 t962 t963 t964 t965 t966 t967 t968 t969 t970 t971 t972 t973)) = some r := H
   have A33 := Aside0.mk A330
   clear A330
   by_cases c34 : t974 = true
   ·subst c34
    have H1 : (if t964 = 0 then (if a1 < 1 then (engrosslaw10_CellTwice.j0 k a1 true t960 t961 t962 t963 t964 t965 t966 t967 t968 t969 t970 t971 t972 t973) else (if a1 > 1099511627776 then (engrosslaw10_CellTwice.j0 k a1 true t960 t961 t962 t963 t964 t965 t966 t967 t968 t969 t970 t971 t972 t973) else ((engrossref1_MayVal.f t968 t969 t970).bind fun t975 => (if t975 = true then ((engrossref1_MayVal.f t971 t972 t973).bind fun t976 => (engrosslaw10_CellTwice.j0 k a1 (!t976) t960 t961 t962 t963 t964 t965 t966 t967 t968 t969 t970 t971 t972 t973)) else (engrosslaw10_CellTwice.j0 k a1 true t960 t961 t962 t963 t964 t965 t966 t967 t968 t969 t970 t971 t972 t973))))) else (engrosslaw10_CellTwice.j0 k a1 true t960 t961 t962 t963 t964 t965 t966 t967 t968 t969 t970 t971 t972 t973)) = some r := by rw [if_pos rfl] at H; exact H
    clear H
    have H := H1
    clear H1
    by_cases c35 : t964 = 0
    ·rw [if_pos c35] at H
     have c35b0 : (t964 == 0) = true := beq_iff_eq.mpr c35
     have c35b1 : (t964 != 0) = false := bne_eq_false_iff_eq.mpr c35
     clear c35
     (first | rw [c35b0] | (simp only [i64_w, i32_w]; rw [c35b0]) | skip)
     by_cases c36 : a1 < 1
     ·rw [if_pos c36] at H
      have c36b0 : decide (a1 < 1) = true := decide_eq_true c36
      clear c36
      have H' := Aside0.mk H
      clear H
      have hnb37 := NB956_957.out
      have hnc37 := NB957_956.out
      have hnb38 := NB956_958.out
      have hnc38 := NB958_956.out
      obtain ⟨hcz39_0, hcz39_1, hcz39_2, hcz39_3, hcz39_4, hcz39_5, hcz39_6, hcz39_7, hfz39_0, hfz39_1, hfz39_2, hfz39_3, hfz39_4, hfz39_5, hfz39_6, hfz39_7⟩ := bf8 (w := w18) BK956
      go_wp2_with (first | ((with_reducible refine gate_callee (f := 15) rfl ?_); refine goesL_ (some 25) rfl rfl Try.func15 (by kernel_rfl) rfl #[.agg #[.string t960, .int .i64 t961, .float .f64 t962, .string t963, .int .i64 t964, .int .i64 t965, .float .f64 t966, .string t967]] rfl (by (try simp only [List.map_toArray, List.map_cons, List.map_nil]); first | done | rfl | (simp only [List.length_drop, List.length_take]; rfl)) ?_; (with_reducible refine (engrossref10_May.calls t960 t961 t962 t963 t964 t965 t966 t967 true _ A33.out).mono ?_); rintro e w40 ⟨rfl, hb⟩; refine ⟨_, rfl, ?_⟩; replace BK956 := Aside0.mk (blk_below (g := gb956) (o := .cells #[.string t960, .int .i64 t961, .float .f64 t962, .string t963, .int .i64 t964, .int .i64 t965, .float .f64 t966, .string t967] 26 (0, 0)) (bR BK956) hb); replace BK957 := Aside0.mk (blk_below (g := gb957) (o := .cells #[.int .i64 t968, .float .f64 t969, .string t970] 24 (0, 0)) (bR BK957) hb); replace BK958 := Aside0.mk (blk_below (g := gb958) (o := .cells #[.int .i64 t971, .float .f64 t972, .string t973] 24 (0, 0)) (bR BK958) hb); replace HB := bW HB hb; (try clear hb); (try clear hb2); (try clear hk); (try clear hi); obtain ⟨hcz41_0, hcz41_1, hcz41_2, hcz41_3, hcz41_4, hcz41_5, hcz41_6, hcz41_7, hfz41_0, hfz41_1, hfz41_2, hfz41_3, hfz41_4, hfz41_5, hfz41_6, hfz41_7⟩ := bf8 (w := w40) BK956))
      go_meet
      case rel => exact ⟨_, (true), (by first | rfl | (simp; done) | (simp [*]; done)), H', ⟨by first | omega | exact Nat.le_refl _⟩, ⟨by (with_reducible repeat (first | refine blk_drewN ?_ _ | refine blk_drew ?_ | refine blk_alloc ?_ _)); exact BK956.out⟩, ⟨by (with_reducible repeat (first | refine blk_drewN ?_ _ | refine blk_drew ?_ | refine blk_alloc ?_ _)); exact BK957.out⟩, ⟨by (with_reducible repeat (first | refine blk_drewN ?_ _ | refine blk_drew ?_ | refine blk_alloc ?_ _)); exact BK958.out⟩, ⟨by repeat (first | (with_reducible first | exact HB.out | apply below_alloc | apply pw_below_drewN | apply below_drew1 | refine below_set ?_ GE956.out | refine below_set ?_ GE957.out | refine below_set ?_ GE958.out) | exact HB.out)⟩⟩
     ·rw [if_neg c36] at H
      have c36b0 : decide (a1 < 1) = false := decide_eq_false c36
      clear c36
      by_cases c42 : a1 > 1099511627776
      ·rw [if_pos c42] at H
       have c42b0 : decide (1099511627776 < a1) = true := decide_eq_true c42
       clear c42
       have H' := Aside0.mk H
       clear H
       have hnb43 := NB956_957.out
       have hnc43 := NB957_956.out
       have hnb44 := NB956_958.out
       have hnc44 := NB958_956.out
       obtain ⟨hcz45_0, hcz45_1, hcz45_2, hcz45_3, hcz45_4, hcz45_5, hcz45_6, hcz45_7, hfz45_0, hfz45_1, hfz45_2, hfz45_3, hfz45_4, hfz45_5, hfz45_6, hfz45_7⟩ := bf8 (w := w18) BK956
       go_wp2_with (first | ((with_reducible refine gate_callee (f := 15) rfl ?_); refine goesL_ (some 25) rfl rfl Try.func15 (by kernel_rfl) rfl #[.agg #[.string t960, .int .i64 t961, .float .f64 t962, .string t963, .int .i64 t964, .int .i64 t965, .float .f64 t966, .string t967]] rfl (by (try simp only [List.map_toArray, List.map_cons, List.map_nil]); first | done | rfl | (simp only [List.length_drop, List.length_take]; rfl)) ?_; (with_reducible refine (engrossref10_May.calls t960 t961 t962 t963 t964 t965 t966 t967 true _ A33.out).mono ?_); rintro e w46 ⟨rfl, hb⟩; refine ⟨_, rfl, ?_⟩; replace BK956 := Aside0.mk (blk_below (g := gb956) (o := .cells #[.string t960, .int .i64 t961, .float .f64 t962, .string t963, .int .i64 t964, .int .i64 t965, .float .f64 t966, .string t967] 26 (0, 0)) (bR BK956) hb); replace BK957 := Aside0.mk (blk_below (g := gb957) (o := .cells #[.int .i64 t968, .float .f64 t969, .string t970] 24 (0, 0)) (bR BK957) hb); replace BK958 := Aside0.mk (blk_below (g := gb958) (o := .cells #[.int .i64 t971, .float .f64 t972, .string t973] 24 (0, 0)) (bR BK958) hb); replace HB := bW HB hb; (try clear hb); (try clear hb2); (try clear hk); (try clear hi); obtain ⟨hcz47_0, hcz47_1, hcz47_2, hcz47_3, hcz47_4, hcz47_5, hcz47_6, hcz47_7, hfz47_0, hfz47_1, hfz47_2, hfz47_3, hfz47_4, hfz47_5, hfz47_6, hfz47_7⟩ := bf8 (w := w46) BK956))
       go_meet
       case rel => exact ⟨_, (true), (by first | rfl | (simp; done) | (simp [*]; done)), H', ⟨by first | omega | exact Nat.le_refl _⟩, ⟨by (with_reducible repeat (first | refine blk_drewN ?_ _ | refine blk_drew ?_ | refine blk_alloc ?_ _)); exact BK956.out⟩, ⟨by (with_reducible repeat (first | refine blk_drewN ?_ _ | refine blk_drew ?_ | refine blk_alloc ?_ _)); exact BK957.out⟩, ⟨by (with_reducible repeat (first | refine blk_drewN ?_ _ | refine blk_drew ?_ | refine blk_alloc ?_ _)); exact BK958.out⟩, ⟨by repeat (first | (with_reducible first | exact HB.out | apply below_alloc | apply pw_below_drewN | apply below_drew1 | refine below_set ?_ GE956.out | refine below_set ?_ GE957.out | refine below_set ?_ GE958.out) | exact HB.out)⟩⟩
      ·rw [if_neg c42] at H
       have c42b0 : decide (1099511627776 < a1) = false := decide_eq_false c42
       clear c42
       replace H := Option.bind_eq_some_iff.mp H
       obtain ⟨t975, A480, H⟩ := H
       replace H : (if t975 = true then ((engrossref1_MayVal.f t971 t972 t973).bind fun t976 => (engrosslaw10_CellTwice.j0 k a1 (!t976) t960 t961 t962 t963 t964 t965 t966 t967 t968 t969 t970 t971 t972 t973)) else (engrosslaw10_CellTwice.j0 k a1 true t960 t961 t962 t963 t964 t965 t966 t967 t968 t969 t970 t971 t972 t973)) = some r := H
       have A48 := Aside0.mk A480
       clear A480
       by_cases c49 : t975 = true
       ·subst c49
        have H1 : ((engrossref1_MayVal.f t971 t972 t973).bind fun t976 => (engrosslaw10_CellTwice.j0 k a1 (!t976) t960 t961 t962 t963 t964 t965 t966 t967 t968 t969 t970 t971 t972 t973)) = some r := by rw [if_pos rfl] at H; exact H
        clear H
        have H := H1
        clear H1
        replace H := Option.bind_eq_some_iff.mp H
        obtain ⟨t976, A500, H⟩ := H
        replace H : (engrosslaw10_CellTwice.j0 k a1 (!t976) t960 t961 t962 t963 t964 t965 t966 t967 t968 t969 t970 t971 t972 t973) = some r := H
        have A50 := Aside0.mk A500
        clear A500
        have H' := Aside0.mk H
        clear H
        have hnb51 := NB956_957.out
        have hnc51 := NB957_956.out
        have hnb52 := NB956_958.out
        have hnc52 := NB958_956.out
        obtain ⟨hcz53_0, hcz53_1, hcz53_2, hcz53_3, hcz53_4, hcz53_5, hcz53_6, hcz53_7, hfz53_0, hfz53_1, hfz53_2, hfz53_3, hfz53_4, hfz53_5, hfz53_6, hfz53_7⟩ := bf8 (w := w18) BK956
        go_wp2_with (first | ((with_reducible refine gate_callee (f := 15) rfl ?_); refine goesL_ (some 25) rfl rfl Try.func15 (by kernel_rfl) rfl #[.agg #[.string t960, .int .i64 t961, .float .f64 t962, .string t963, .int .i64 t964, .int .i64 t965, .float .f64 t966, .string t967]] rfl (by (try simp only [List.map_toArray, List.map_cons, List.map_nil]); first | done | rfl | (simp only [List.length_drop, List.length_take]; rfl)) ?_; (with_reducible refine (engrossref10_May.calls t960 t961 t962 t963 t964 t965 t966 t967 true _ A33.out).mono ?_); rintro e w54 ⟨rfl, hb⟩; refine ⟨_, rfl, ?_⟩; replace BK956 := Aside0.mk (blk_below (g := gb956) (o := .cells #[.string t960, .int .i64 t961, .float .f64 t962, .string t963, .int .i64 t964, .int .i64 t965, .float .f64 t966, .string t967] 26 (0, 0)) (bR BK956) hb); replace BK957 := Aside0.mk (blk_below (g := gb957) (o := .cells #[.int .i64 t968, .float .f64 t969, .string t970] 24 (0, 0)) (bR BK957) hb); replace BK958 := Aside0.mk (blk_below (g := gb958) (o := .cells #[.int .i64 t971, .float .f64 t972, .string t973] 24 (0, 0)) (bR BK958) hb); replace HB := bW HB hb; (try clear hb); (try clear hb2); (try clear hk); (try clear hi); obtain ⟨hcz55_0, hcz55_1, hcz55_2, hcz55_3, hcz55_4, hcz55_5, hcz55_6, hcz55_7, hfz55_0, hfz55_1, hfz55_2, hfz55_3, hfz55_4, hfz55_5, hfz55_6, hfz55_7⟩ := bf8 (w := w54) BK956; have hnb56 := NB957_958.out; have hnc56 := NB958_957.out; obtain ⟨hcz57_0, hcz57_1, hcz57_2, hfz57_0, hfz57_1, hfz57_2⟩ := bf3 (w := w54) BK957) | (go_at_call 26; (with_reducible refine (engrossref1_MayVal.calls t968 t969 t970 true _ A48.out).mono ?_); rintro e w58 ⟨rfl, hb⟩; replace BK956 := bB BK956 hb; replace BK957 := bB BK957 hb; replace BK958 := bB BK958 hb; replace HB := bW HB hb; (try clear hb); (try clear hb2); (try clear hk); (try clear hi); obtain ⟨hcz59_0, hcz59_1, hcz59_2, hfz59_0, hfz59_1, hfz59_2⟩ := bf3 (w := w58) BK958) | (go_at_call 26; (with_reducible refine (engrossref1_MayVal.calls t971 t972 t973 t976 _ A50.out).mono ?_); rintro e w60 ⟨rfl, hb⟩; replace BK956 := bB BK956 hb; replace BK957 := bB BK957 hb; replace BK958 := bB BK958 hb; replace HB := bW HB hb; (try clear hb); (try clear hb2); (try clear hk); (try clear hi)))
        go_meet
        case rel => exact ⟨_, (!t976), (by first | rfl | (simp; done) | (simp [*]; done)), H', ⟨by first | omega | exact Nat.le_refl _⟩, ⟨by (with_reducible repeat (first | refine blk_drewN ?_ _ | refine blk_drew ?_ | refine blk_alloc ?_ _)); exact BK956.out⟩, ⟨by (with_reducible repeat (first | refine blk_drewN ?_ _ | refine blk_drew ?_ | refine blk_alloc ?_ _)); exact BK957.out⟩, ⟨by (with_reducible repeat (first | refine blk_drewN ?_ _ | refine blk_drew ?_ | refine blk_alloc ?_ _)); exact BK958.out⟩, ⟨by repeat (first | (with_reducible first | exact HB.out | apply below_alloc | apply pw_below_drewN | apply below_drew1 | refine below_set ?_ GE956.out | refine below_set ?_ GE957.out | refine below_set ?_ GE958.out) | exact HB.out)⟩⟩
       ·replace c49 := Bool.eq_false_iff.mpr c49
        subst c49
        have H1 : (engrosslaw10_CellTwice.j0 k a1 true t960 t961 t962 t963 t964 t965 t966 t967 t968 t969 t970 t971 t972 t973) = some r := by rw [if_neg (show ¬ (false = true) by decide)] at H; exact H
        clear H
        have H := H1
        clear H1
        have H' := Aside0.mk H
        clear H
        have hnb61 := NB956_957.out
        have hnc61 := NB957_956.out
        have hnb62 := NB956_958.out
        have hnc62 := NB958_956.out
        obtain ⟨hcz63_0, hcz63_1, hcz63_2, hcz63_3, hcz63_4, hcz63_5, hcz63_6, hcz63_7, hfz63_0, hfz63_1, hfz63_2, hfz63_3, hfz63_4, hfz63_5, hfz63_6, hfz63_7⟩ := bf8 (w := w18) BK956
        go_wp2_with (first | ((with_reducible refine gate_callee (f := 15) rfl ?_); refine goesL_ (some 25) rfl rfl Try.func15 (by kernel_rfl) rfl #[.agg #[.string t960, .int .i64 t961, .float .f64 t962, .string t963, .int .i64 t964, .int .i64 t965, .float .f64 t966, .string t967]] rfl (by (try simp only [List.map_toArray, List.map_cons, List.map_nil]); first | done | rfl | (simp only [List.length_drop, List.length_take]; rfl)) ?_; (with_reducible refine (engrossref10_May.calls t960 t961 t962 t963 t964 t965 t966 t967 true _ A33.out).mono ?_); rintro e w64 ⟨rfl, hb⟩; refine ⟨_, rfl, ?_⟩; replace BK956 := Aside0.mk (blk_below (g := gb956) (o := .cells #[.string t960, .int .i64 t961, .float .f64 t962, .string t963, .int .i64 t964, .int .i64 t965, .float .f64 t966, .string t967] 26 (0, 0)) (bR BK956) hb); replace BK957 := Aside0.mk (blk_below (g := gb957) (o := .cells #[.int .i64 t968, .float .f64 t969, .string t970] 24 (0, 0)) (bR BK957) hb); replace BK958 := Aside0.mk (blk_below (g := gb958) (o := .cells #[.int .i64 t971, .float .f64 t972, .string t973] 24 (0, 0)) (bR BK958) hb); replace HB := bW HB hb; (try clear hb); (try clear hb2); (try clear hk); (try clear hi); obtain ⟨hcz65_0, hcz65_1, hcz65_2, hcz65_3, hcz65_4, hcz65_5, hcz65_6, hcz65_7, hfz65_0, hfz65_1, hfz65_2, hfz65_3, hfz65_4, hfz65_5, hfz65_6, hfz65_7⟩ := bf8 (w := w64) BK956; have hnb66 := NB957_958.out; have hnc66 := NB958_957.out; obtain ⟨hcz67_0, hcz67_1, hcz67_2, hfz67_0, hfz67_1, hfz67_2⟩ := bf3 (w := w64) BK957) | (go_at_call 26; (with_reducible refine (engrossref1_MayVal.calls t968 t969 t970 false _ A48.out).mono ?_); rintro e w68 ⟨rfl, hb⟩; replace BK956 := bB BK956 hb; replace BK957 := bB BK957 hb; replace BK958 := bB BK958 hb; replace HB := bW HB hb; (try clear hb); (try clear hb2); (try clear hk); (try clear hi)))
        go_meet
        case rel => exact ⟨_, (true), (by first | rfl | (simp; done) | (simp [*]; done)), H', ⟨by first | omega | exact Nat.le_refl _⟩, ⟨by (with_reducible repeat (first | refine blk_drewN ?_ _ | refine blk_drew ?_ | refine blk_alloc ?_ _)); exact BK956.out⟩, ⟨by (with_reducible repeat (first | refine blk_drewN ?_ _ | refine blk_drew ?_ | refine blk_alloc ?_ _)); exact BK957.out⟩, ⟨by (with_reducible repeat (first | refine blk_drewN ?_ _ | refine blk_drew ?_ | refine blk_alloc ?_ _)); exact BK958.out⟩, ⟨by repeat (first | (with_reducible first | exact HB.out | apply below_alloc | apply pw_below_drewN | apply below_drew1 | refine below_set ?_ GE956.out | refine below_set ?_ GE957.out | refine below_set ?_ GE958.out) | exact HB.out)⟩⟩
    ·rw [if_neg c35] at H
     have c35b0 : (t964 == 0) = false := beq_eq_false_iff_ne.mpr c35
     have c35b1 : (t964 != 0) = true := bne_iff_ne.mpr c35
     (first | rw [c35b0] | (simp only [i64_w, i32_w]; rw [c35b0]) | skip)
     have H' := Aside0.mk H
     clear H
     have hnb69 := NB956_957.out
     have hnc69 := NB957_956.out
     have hnb70 := NB956_958.out
     have hnc70 := NB958_956.out
     obtain ⟨hcz71_0, hcz71_1, hcz71_2, hcz71_3, hcz71_4, hcz71_5, hcz71_6, hcz71_7, hfz71_0, hfz71_1, hfz71_2, hfz71_3, hfz71_4, hfz71_5, hfz71_6, hfz71_7⟩ := bf8 (w := w18) BK956
     go_wp2_with (first | ((with_reducible refine gate_callee (f := 15) rfl ?_); refine goesL_ (some 25) rfl rfl Try.func15 (by kernel_rfl) rfl #[.agg #[.string t960, .int .i64 t961, .float .f64 t962, .string t963, .int .i64 t964, .int .i64 t965, .float .f64 t966, .string t967]] rfl (by (try simp only [List.map_toArray, List.map_cons, List.map_nil]); first | done | rfl | (simp only [List.length_drop, List.length_take]; rfl)) ?_; (with_reducible refine (engrossref10_May.calls t960 t961 t962 t963 t964 t965 t966 t967 true _ A33.out).mono ?_); rintro e w72 ⟨rfl, hb⟩; refine ⟨_, rfl, ?_⟩; replace BK956 := Aside0.mk (blk_below (g := gb956) (o := .cells #[.string t960, .int .i64 t961, .float .f64 t962, .string t963, .int .i64 t964, .int .i64 t965, .float .f64 t966, .string t967] 26 (0, 0)) (bR BK956) hb); replace BK957 := Aside0.mk (blk_below (g := gb957) (o := .cells #[.int .i64 t968, .float .f64 t969, .string t970] 24 (0, 0)) (bR BK957) hb); replace BK958 := Aside0.mk (blk_below (g := gb958) (o := .cells #[.int .i64 t971, .float .f64 t972, .string t973] 24 (0, 0)) (bR BK958) hb); replace HB := bW HB hb; (try clear hb); (try clear hb2); (try clear hk); (try clear hi); obtain ⟨hcz73_0, hcz73_1, hcz73_2, hcz73_3, hcz73_4, hcz73_5, hcz73_6, hcz73_7, hfz73_0, hfz73_1, hfz73_2, hfz73_3, hfz73_4, hfz73_5, hfz73_6, hfz73_7⟩ := bf8 (w := w72) BK956))
     go_meet
     case rel => exact ⟨_, (true), (by first | rfl | (simp; done) | (simp [*]; done)), H', ⟨by first | omega | exact Nat.le_refl _⟩, ⟨by (with_reducible repeat (first | refine blk_drewN ?_ _ | refine blk_drew ?_ | refine blk_alloc ?_ _)); exact BK956.out⟩, ⟨by (with_reducible repeat (first | refine blk_drewN ?_ _ | refine blk_drew ?_ | refine blk_alloc ?_ _)); exact BK957.out⟩, ⟨by (with_reducible repeat (first | refine blk_drewN ?_ _ | refine blk_drew ?_ | refine blk_alloc ?_ _)); exact BK958.out⟩, ⟨by repeat (first | (with_reducible first | exact HB.out | apply below_alloc | apply pw_below_drewN | apply below_drew1 | refine below_set ?_ GE956.out | refine below_set ?_ GE957.out | refine below_set ?_ GE958.out) | exact HB.out)⟩⟩
   ·replace c34 := Bool.eq_false_iff.mpr c34
    subst c34
    have H1 : (engrosslaw10_CellTwice.j0 k a1 true t960 t961 t962 t963 t964 t965 t966 t967 t968 t969 t970 t971 t972 t973) = some r := by rw [if_neg (show ¬ (false = true) by decide)] at H; exact H
    clear H
    have H := H1
    clear H1
    have H' := Aside0.mk H
    clear H
    have hnb74 := NB956_957.out
    have hnc74 := NB957_956.out
    have hnb75 := NB956_958.out
    have hnc75 := NB958_956.out
    obtain ⟨hcz76_0, hcz76_1, hcz76_2, hcz76_3, hcz76_4, hcz76_5, hcz76_6, hcz76_7, hfz76_0, hfz76_1, hfz76_2, hfz76_3, hfz76_4, hfz76_5, hfz76_6, hfz76_7⟩ := bf8 (w := w18) BK956
    go_wp2_with (first | ((with_reducible refine gate_callee (f := 15) rfl ?_); refine goesL_ (some 25) rfl rfl Try.func15 (by kernel_rfl) rfl #[.agg #[.string t960, .int .i64 t961, .float .f64 t962, .string t963, .int .i64 t964, .int .i64 t965, .float .f64 t966, .string t967]] rfl (by (try simp only [List.map_toArray, List.map_cons, List.map_nil]); first | done | rfl | (simp only [List.length_drop, List.length_take]; rfl)) ?_; (with_reducible refine (engrossref10_May.calls t960 t961 t962 t963 t964 t965 t966 t967 false _ A33.out).mono ?_); rintro e w77 ⟨rfl, hb⟩; refine ⟨_, rfl, ?_⟩; replace BK956 := Aside0.mk (blk_below (g := gb956) (o := .cells #[.string t960, .int .i64 t961, .float .f64 t962, .string t963, .int .i64 t964, .int .i64 t965, .float .f64 t966, .string t967] 26 (0, 0)) (bR BK956) hb); replace BK957 := Aside0.mk (blk_below (g := gb957) (o := .cells #[.int .i64 t968, .float .f64 t969, .string t970] 24 (0, 0)) (bR BK957) hb); replace BK958 := Aside0.mk (blk_below (g := gb958) (o := .cells #[.int .i64 t971, .float .f64 t972, .string t973] 24 (0, 0)) (bR BK958) hb); replace HB := bW HB hb; (try clear hb); (try clear hb2); (try clear hk); (try clear hi)))
    go_meet
    case rel => exact ⟨_, (true), (by first | rfl | (simp; done) | (simp [*]; done)), H', ⟨by first | omega | exact Nat.le_refl _⟩, ⟨by (with_reducible repeat (first | refine blk_drewN ?_ _ | refine blk_drew ?_ | refine blk_alloc ?_ _)); exact BK956.out⟩, ⟨by (with_reducible repeat (first | refine blk_drewN ?_ _ | refine blk_drew ?_ | refine blk_alloc ?_ _)); exact BK957.out⟩, ⟨by (with_reducible repeat (first | refine blk_drewN ?_ _ | refine blk_drew ?_ | refine blk_alloc ?_ _)); exact BK958.out⟩, ⟨by repeat (first | (with_reducible first | exact HB.out | apply below_alloc | apply pw_below_drewN | apply below_drew1 | refine below_set ?_ GE956.out | refine below_set ?_ GE957.out | refine below_set ?_ GE958.out) | exact HB.out)⟩⟩
  case rest =>
   clear HC10
   try clear c1
   try clear p2
   try clear c3
   try clear c4
   try clear c5
   try clear c6
   try clear c7
   try clear c8
   try clear c10
   try clear c11
   try clear c12
   try clear c15
   try clear c34
   try clear c35
   try clear c35b0
   try clear c35b1
   try clear c36
   try clear c36b0
   try clear c37
   try clear c38
   try clear c42
   try clear c42b0
   try clear c43
   try clear c44
   try clear c49
   try clear c51
   try clear c52
   try clear c56
   try clear c61
   try clear c62
   try clear c66
   try clear c69
   try clear c70
   try clear c74
   try clear c75
   try clear hcz39_0
   try clear hcz39_1
   try clear hcz39_2
   try clear hcz39_3
   try clear hcz39_4
   try clear hcz39_5
   try clear hcz39_6
   try clear hcz39_7
   try clear hcz41_0
   try clear hcz41_1
   try clear hcz41_2
   try clear hcz41_3
   try clear hcz41_4
   try clear hcz41_5
   try clear hcz41_6
   try clear hcz41_7
   try clear hcz45_0
   try clear hcz45_1
   try clear hcz45_2
   try clear hcz45_3
   try clear hcz45_4
   try clear hcz45_5
   try clear hcz45_6
   try clear hcz45_7
   try clear hcz47_0
   try clear hcz47_1
   try clear hcz47_2
   try clear hcz47_3
   try clear hcz47_4
   try clear hcz47_5
   try clear hcz47_6
   try clear hcz47_7
   try clear hcz53_0
   try clear hcz53_1
   try clear hcz53_2
   try clear hcz53_3
   try clear hcz53_4
   try clear hcz53_5
   try clear hcz53_6
   try clear hcz53_7
   try clear hcz55_0
   try clear hcz55_1
   try clear hcz55_2
   try clear hcz55_3
   try clear hcz55_4
   try clear hcz55_5
   try clear hcz55_6
   try clear hcz55_7
   try clear hcz57_0
   try clear hcz57_1
   try clear hcz57_2
   try clear hcz59_0
   try clear hcz59_1
   try clear hcz59_2
   try clear hcz63_0
   try clear hcz63_1
   try clear hcz63_2
   try clear hcz63_3
   try clear hcz63_4
   try clear hcz63_5
   try clear hcz63_6
   try clear hcz63_7
   try clear hcz65_0
   try clear hcz65_1
   try clear hcz65_2
   try clear hcz65_3
   try clear hcz65_4
   try clear hcz65_5
   try clear hcz65_6
   try clear hcz65_7
   try clear hcz67_0
   try clear hcz67_1
   try clear hcz67_2
   try clear hcz71_0
   try clear hcz71_1
   try clear hcz71_2
   try clear hcz71_3
   try clear hcz71_4
   try clear hcz71_5
   try clear hcz71_6
   try clear hcz71_7
   try clear hcz73_0
   try clear hcz73_1
   try clear hcz73_2
   try clear hcz73_3
   try clear hcz73_4
   try clear hcz73_5
   try clear hcz73_6
   try clear hcz73_7
   try clear hcz76_0
   try clear hcz76_1
   try clear hcz76_2
   try clear hcz76_3
   try clear hcz76_4
   try clear hcz76_5
   try clear hcz76_6
   try clear hcz76_7
   try clear hfz39_0
   try clear hfz39_1
   try clear hfz39_2
   try clear hfz39_3
   try clear hfz39_4
   try clear hfz39_5
   try clear hfz39_6
   try clear hfz39_7
   try clear hfz41_0
   try clear hfz41_1
   try clear hfz41_2
   try clear hfz41_3
   try clear hfz41_4
   try clear hfz41_5
   try clear hfz41_6
   try clear hfz41_7
   try clear hfz45_0
   try clear hfz45_1
   try clear hfz45_2
   try clear hfz45_3
   try clear hfz45_4
   try clear hfz45_5
   try clear hfz45_6
   try clear hfz45_7
   try clear hfz47_0
   try clear hfz47_1
   try clear hfz47_2
   try clear hfz47_3
   try clear hfz47_4
   try clear hfz47_5
   try clear hfz47_6
   try clear hfz47_7
   try clear hfz53_0
   try clear hfz53_1
   try clear hfz53_2
   try clear hfz53_3
   try clear hfz53_4
   try clear hfz53_5
   try clear hfz53_6
   try clear hfz53_7
   try clear hfz55_0
   try clear hfz55_1
   try clear hfz55_2
   try clear hfz55_3
   try clear hfz55_4
   try clear hfz55_5
   try clear hfz55_6
   try clear hfz55_7
   try clear hfz57_0
   try clear hfz57_1
   try clear hfz57_2
   try clear hfz59_0
   try clear hfz59_1
   try clear hfz59_2
   try clear hfz63_0
   try clear hfz63_1
   try clear hfz63_2
   try clear hfz63_3
   try clear hfz63_4
   try clear hfz63_5
   try clear hfz63_6
   try clear hfz63_7
   try clear hfz65_0
   try clear hfz65_1
   try clear hfz65_2
   try clear hfz65_3
   try clear hfz65_4
   try clear hfz65_5
   try clear hfz65_6
   try clear hfz65_7
   try clear hfz67_0
   try clear hfz67_1
   try clear hfz67_2
   try clear hfz71_0
   try clear hfz71_1
   try clear hfz71_2
   try clear hfz71_3
   try clear hfz71_4
   try clear hfz71_5
   try clear hfz71_6
   try clear hfz71_7
   try clear hfz73_0
   try clear hfz73_1
   try clear hfz73_2
   try clear hfz73_3
   try clear hfz73_4
   try clear hfz73_5
   try clear hfz73_6
   try clear hfz73_7
   try clear hfz76_0
   try clear hfz76_1
   try clear hfz76_2
   try clear hfz76_3
   try clear hfz76_4
   try clear hfz76_5
   try clear hfz76_6
   try clear hfz76_7
   obtain ⟨kq, x49_9, rfl, HA, HJ9, BK956, BK957, BK958, HB⟩ := hcut
   cases kq with
   | zero => exact absurd HA.out (by simp [engrosslaw10_CellTwice.j0])
   | succ kj9 =>
    have H := HA.out
    clear HA
    simp only [engrosslaw10_CellTwice.j0] at H
    by_cases c78 : x49_9 = true
    ·subst c78
     have H1 : (some true) = some r := by rw [if_pos rfl] at H; exact H
     clear H
     have H := H1
     clear H1
     obtain rfl := Option.some.inj H
     go_wp2
     go_ret
     exact ⟨by first | rfl | (simp [errW_none, errW_some] <;> rfl) | (simp [*, errW_none, errW_some] <;> rfl), by repeat (first | (with_reducible first | exact HB.out | apply below_alloc | apply pw_below_drewN | apply below_drew1 | refine below_set ?_ GE956.out | refine below_set ?_ GE957.out | refine below_set ?_ GE958.out) | exact HB.out)⟩
    ·replace c78 := Bool.eq_false_iff.mpr c78
     subst c78
     have H1 : ((engrosslaw10_Of.f t960 t961 t962 t963 t964 t965 t966 t967).bind fun bt977 => ((cell_Write.f bt977.1 bt977.2.1 bt977.2.2.1 bt977.2.2.2.1 bt977.2.2.2.2.1 bt977.2.2.2.2.2.1 bt977.2.2.2.2.2.2.1 bt977.2.2.2.2.2.2.2 a1 t968 t969 t970).bind fun bt985 => ((cell_Write.f bt985.1 bt985.2.1 bt985.2.2.1 bt985.2.2.2.1 bt985.2.2.2.2.1 bt985.2.2.2.2.2.1 bt985.2.2.2.2.2.2.1 bt985.2.2.2.2.2.2.2 a1 t971 t972 t973).bind fun bt993 => ((cell_Undo.f bt993.1 bt993.2.1 bt993.2.2.1 bt993.2.2.2.1 bt993.2.2.2.2.1 bt993.2.2.2.2.2.1 bt993.2.2.2.2.2.2.1 bt993.2.2.2.2.2.2.2).bind fun bt1002 => ((cell_Commit.f bt993.1 bt993.2.1 bt993.2.2.1 bt993.2.2.2.1 bt993.2.2.2.2.1 bt993.2.2.2.2.2.1 bt993.2.2.2.2.2.2.1 bt993.2.2.2.2.2.2.2).bind fun bt1012 => (if bt1002.2.2.2.2.2.2.2.2 = true then ((engrosslaw10_Of.f t960 t961 t962 t963 t964 t965 t966 t967).bind fun bt1022 => ((cell_Eq.f bt1002.1 bt1002.2.1 bt1002.2.2.1 bt1002.2.2.2.1 bt1002.2.2.2.2.1 bt1002.2.2.2.2.2.1 bt1002.2.2.2.2.2.2.1 bt1002.2.2.2.2.2.2.2.1 bt1022.1 bt1022.2.1 bt1022.2.2.1 bt1022.2.2.2.1 bt1022.2.2.2.2.1 bt1022.2.2.2.2.2.1 bt1022.2.2.2.2.2.2.1 bt1022.2.2.2.2.2.2.2).bind fun t1030 => (if t1030 = true then ((cell_See.f bt993.1 bt993.2.1 bt993.2.2.1 bt993.2.2.2.1 bt993.2.2.2.2.1 bt993.2.2.2.2.2.1 bt993.2.2.2.2.2.2.1 bt993.2.2.2.2.2.2.2 a1).bind fun bt1031 => ((engrossref1_EqVal.f bt1031.1 bt1031.2.1 bt1031.2.2 t971 t972 t973).bind fun t1034 => (if t1034 = true then ((cell_See.f bt993.1 bt993.2.1 bt993.2.2.1 bt993.2.2.2.1 bt993.2.2.2.2.1 bt993.2.2.2.2.2.1 bt993.2.2.2.2.2.2.1 bt993.2.2.2.2.2.2.2 (wrap64 (a1 + 1))).bind fun bt1035 => ((engrossref1_EqVal.f bt1035.1 bt1035.2.1 bt1035.2.2 t961 t962 t963).bind fun t1038 => (if t1038 = true then (if (bt1012.2.2.2.2.2.2.2.2 == (t971 != 0)) = true then (if bt1012.2.2.2.2.2.2.2.2 = true then ((engrossref1_EqVal.f bt1012.2.1 bt1012.2.2.1 bt1012.2.2.2.1 t971 t972 t973).bind fun t1039 => (if t1039 = true then (some (bt1012.2.2.2.2.1 == 0)) else (none))) else (some true)) else (none)) else (none)))) else (none)))) else (none)))) else (none))))))) = some r := by rw [if_neg (show ¬ (false = true) by decide)] at H; exact H
     clear H
     have H := H1
     clear H1
     replace H := Option.bind_eq_some_iff.mp H
     obtain ⟨⟨t977, t978, t979, t980, t981, t982, t983, t984⟩, A790, H⟩ := H
     replace H : ((cell_Write.f t977 t978 t979 t980 t981 t982 t983 t984 a1 t968 t969 t970).bind fun bt985 => ((cell_Write.f bt985.1 bt985.2.1 bt985.2.2.1 bt985.2.2.2.1 bt985.2.2.2.2.1 bt985.2.2.2.2.2.1 bt985.2.2.2.2.2.2.1 bt985.2.2.2.2.2.2.2 a1 t971 t972 t973).bind fun bt993 => ((cell_Undo.f bt993.1 bt993.2.1 bt993.2.2.1 bt993.2.2.2.1 bt993.2.2.2.2.1 bt993.2.2.2.2.2.1 bt993.2.2.2.2.2.2.1 bt993.2.2.2.2.2.2.2).bind fun bt1002 => ((cell_Commit.f bt993.1 bt993.2.1 bt993.2.2.1 bt993.2.2.2.1 bt993.2.2.2.2.1 bt993.2.2.2.2.2.1 bt993.2.2.2.2.2.2.1 bt993.2.2.2.2.2.2.2).bind fun bt1012 => (if bt1002.2.2.2.2.2.2.2.2 = true then ((engrosslaw10_Of.f t960 t961 t962 t963 t964 t965 t966 t967).bind fun bt1022 => ((cell_Eq.f bt1002.1 bt1002.2.1 bt1002.2.2.1 bt1002.2.2.2.1 bt1002.2.2.2.2.1 bt1002.2.2.2.2.2.1 bt1002.2.2.2.2.2.2.1 bt1002.2.2.2.2.2.2.2.1 bt1022.1 bt1022.2.1 bt1022.2.2.1 bt1022.2.2.2.1 bt1022.2.2.2.2.1 bt1022.2.2.2.2.2.1 bt1022.2.2.2.2.2.2.1 bt1022.2.2.2.2.2.2.2).bind fun t1030 => (if t1030 = true then ((cell_See.f bt993.1 bt993.2.1 bt993.2.2.1 bt993.2.2.2.1 bt993.2.2.2.2.1 bt993.2.2.2.2.2.1 bt993.2.2.2.2.2.2.1 bt993.2.2.2.2.2.2.2 a1).bind fun bt1031 => ((engrossref1_EqVal.f bt1031.1 bt1031.2.1 bt1031.2.2 t971 t972 t973).bind fun t1034 => (if t1034 = true then ((cell_See.f bt993.1 bt993.2.1 bt993.2.2.1 bt993.2.2.2.1 bt993.2.2.2.2.1 bt993.2.2.2.2.2.1 bt993.2.2.2.2.2.2.1 bt993.2.2.2.2.2.2.2 (wrap64 (a1 + 1))).bind fun bt1035 => ((engrossref1_EqVal.f bt1035.1 bt1035.2.1 bt1035.2.2 t961 t962 t963).bind fun t1038 => (if t1038 = true then (if (bt1012.2.2.2.2.2.2.2.2 == (t971 != 0)) = true then (if bt1012.2.2.2.2.2.2.2.2 = true then ((engrossref1_EqVal.f bt1012.2.1 bt1012.2.2.1 bt1012.2.2.2.1 t971 t972 t973).bind fun t1039 => (if t1039 = true then (some (bt1012.2.2.2.2.1 == 0)) else (none))) else (some true)) else (none)) else (none)))) else (none)))) else (none)))) else (none)))))) = some r := H
     have A79 := Aside0.mk A790
     clear A790
     replace H := Option.bind_eq_some_iff.mp H
     obtain ⟨⟨t985, t986, t987, t988, t989, t990, t991, t992⟩, A800, H⟩ := H
     replace H : ((cell_Write.f t985 t986 t987 t988 t989 t990 t991 t992 a1 t971 t972 t973).bind fun bt993 => ((cell_Undo.f bt993.1 bt993.2.1 bt993.2.2.1 bt993.2.2.2.1 bt993.2.2.2.2.1 bt993.2.2.2.2.2.1 bt993.2.2.2.2.2.2.1 bt993.2.2.2.2.2.2.2).bind fun bt1002 => ((cell_Commit.f bt993.1 bt993.2.1 bt993.2.2.1 bt993.2.2.2.1 bt993.2.2.2.2.1 bt993.2.2.2.2.2.1 bt993.2.2.2.2.2.2.1 bt993.2.2.2.2.2.2.2).bind fun bt1012 => (if bt1002.2.2.2.2.2.2.2.2 = true then ((engrosslaw10_Of.f t960 t961 t962 t963 t964 t965 t966 t967).bind fun bt1022 => ((cell_Eq.f bt1002.1 bt1002.2.1 bt1002.2.2.1 bt1002.2.2.2.1 bt1002.2.2.2.2.1 bt1002.2.2.2.2.2.1 bt1002.2.2.2.2.2.2.1 bt1002.2.2.2.2.2.2.2.1 bt1022.1 bt1022.2.1 bt1022.2.2.1 bt1022.2.2.2.1 bt1022.2.2.2.2.1 bt1022.2.2.2.2.2.1 bt1022.2.2.2.2.2.2.1 bt1022.2.2.2.2.2.2.2).bind fun t1030 => (if t1030 = true then ((cell_See.f bt993.1 bt993.2.1 bt993.2.2.1 bt993.2.2.2.1 bt993.2.2.2.2.1 bt993.2.2.2.2.2.1 bt993.2.2.2.2.2.2.1 bt993.2.2.2.2.2.2.2 a1).bind fun bt1031 => ((engrossref1_EqVal.f bt1031.1 bt1031.2.1 bt1031.2.2 t971 t972 t973).bind fun t1034 => (if t1034 = true then ((cell_See.f bt993.1 bt993.2.1 bt993.2.2.1 bt993.2.2.2.1 bt993.2.2.2.2.1 bt993.2.2.2.2.2.1 bt993.2.2.2.2.2.2.1 bt993.2.2.2.2.2.2.2 (wrap64 (a1 + 1))).bind fun bt1035 => ((engrossref1_EqVal.f bt1035.1 bt1035.2.1 bt1035.2.2 t961 t962 t963).bind fun t1038 => (if t1038 = true then (if (bt1012.2.2.2.2.2.2.2.2 == (t971 != 0)) = true then (if bt1012.2.2.2.2.2.2.2.2 = true then ((engrossref1_EqVal.f bt1012.2.1 bt1012.2.2.1 bt1012.2.2.2.1 t971 t972 t973).bind fun t1039 => (if t1039 = true then (some (bt1012.2.2.2.2.1 == 0)) else (none))) else (some true)) else (none)) else (none)))) else (none)))) else (none)))) else (none))))) = some r := H
     have A80 := Aside0.mk A800
     clear A800
     replace H := Option.bind_eq_some_iff.mp H
     obtain ⟨⟨t993, t994, t995, t996, t997, t998, t999, t1000⟩, A810, H⟩ := H
     replace H : ((cell_Undo.f t993 t994 t995 t996 t997 t998 t999 t1000).bind fun bt1002 => ((cell_Commit.f t993 t994 t995 t996 t997 t998 t999 t1000).bind fun bt1012 => (if bt1002.2.2.2.2.2.2.2.2 = true then ((engrosslaw10_Of.f t960 t961 t962 t963 t964 t965 t966 t967).bind fun bt1022 => ((cell_Eq.f bt1002.1 bt1002.2.1 bt1002.2.2.1 bt1002.2.2.2.1 bt1002.2.2.2.2.1 bt1002.2.2.2.2.2.1 bt1002.2.2.2.2.2.2.1 bt1002.2.2.2.2.2.2.2.1 bt1022.1 bt1022.2.1 bt1022.2.2.1 bt1022.2.2.2.1 bt1022.2.2.2.2.1 bt1022.2.2.2.2.2.1 bt1022.2.2.2.2.2.2.1 bt1022.2.2.2.2.2.2.2).bind fun t1030 => (if t1030 = true then ((cell_See.f t993 t994 t995 t996 t997 t998 t999 t1000 a1).bind fun bt1031 => ((engrossref1_EqVal.f bt1031.1 bt1031.2.1 bt1031.2.2 t971 t972 t973).bind fun t1034 => (if t1034 = true then ((cell_See.f t993 t994 t995 t996 t997 t998 t999 t1000 (wrap64 (a1 + 1))).bind fun bt1035 => ((engrossref1_EqVal.f bt1035.1 bt1035.2.1 bt1035.2.2 t961 t962 t963).bind fun t1038 => (if t1038 = true then (if (bt1012.2.2.2.2.2.2.2.2 == (t971 != 0)) = true then (if bt1012.2.2.2.2.2.2.2.2 = true then ((engrossref1_EqVal.f bt1012.2.1 bt1012.2.2.1 bt1012.2.2.2.1 t971 t972 t973).bind fun t1039 => (if t1039 = true then (some (bt1012.2.2.2.2.1 == 0)) else (none))) else (some true)) else (none)) else (none)))) else (none)))) else (none)))) else (none)))) = some r := H
     have A81 := Aside0.mk A810
     clear A810
     replace H := Option.bind_eq_some_iff.mp H
     obtain ⟨⟨t1002, t1003, t1004, t1005, t1006, t1007, t1008, t1009, t1010⟩, A820, H⟩ := H
     replace H : ((cell_Commit.f t993 t994 t995 t996 t997 t998 t999 t1000).bind fun bt1012 => (if t1010 = true then ((engrosslaw10_Of.f t960 t961 t962 t963 t964 t965 t966 t967).bind fun bt1022 => ((cell_Eq.f t1002 t1003 t1004 t1005 t1006 t1007 t1008 t1009 bt1022.1 bt1022.2.1 bt1022.2.2.1 bt1022.2.2.2.1 bt1022.2.2.2.2.1 bt1022.2.2.2.2.2.1 bt1022.2.2.2.2.2.2.1 bt1022.2.2.2.2.2.2.2).bind fun t1030 => (if t1030 = true then ((cell_See.f t993 t994 t995 t996 t997 t998 t999 t1000 a1).bind fun bt1031 => ((engrossref1_EqVal.f bt1031.1 bt1031.2.1 bt1031.2.2 t971 t972 t973).bind fun t1034 => (if t1034 = true then ((cell_See.f t993 t994 t995 t996 t997 t998 t999 t1000 (wrap64 (a1 + 1))).bind fun bt1035 => ((engrossref1_EqVal.f bt1035.1 bt1035.2.1 bt1035.2.2 t961 t962 t963).bind fun t1038 => (if t1038 = true then (if (bt1012.2.2.2.2.2.2.2.2 == (t971 != 0)) = true then (if bt1012.2.2.2.2.2.2.2.2 = true then ((engrossref1_EqVal.f bt1012.2.1 bt1012.2.2.1 bt1012.2.2.2.1 t971 t972 t973).bind fun t1039 => (if t1039 = true then (some (bt1012.2.2.2.2.1 == 0)) else (none))) else (some true)) else (none)) else (none)))) else (none)))) else (none)))) else (none))) = some r := H
     have A82 := Aside0.mk A820
     clear A820
     replace H := Option.bind_eq_some_iff.mp H
     obtain ⟨⟨t1012, t1013, t1014, t1015, t1016, t1017, t1018, t1019, t1020⟩, A830, H⟩ := H
     replace H : (if t1010 = true then ((engrosslaw10_Of.f t960 t961 t962 t963 t964 t965 t966 t967).bind fun bt1022 => ((cell_Eq.f t1002 t1003 t1004 t1005 t1006 t1007 t1008 t1009 bt1022.1 bt1022.2.1 bt1022.2.2.1 bt1022.2.2.2.1 bt1022.2.2.2.2.1 bt1022.2.2.2.2.2.1 bt1022.2.2.2.2.2.2.1 bt1022.2.2.2.2.2.2.2).bind fun t1030 => (if t1030 = true then ((cell_See.f t993 t994 t995 t996 t997 t998 t999 t1000 a1).bind fun bt1031 => ((engrossref1_EqVal.f bt1031.1 bt1031.2.1 bt1031.2.2 t971 t972 t973).bind fun t1034 => (if t1034 = true then ((cell_See.f t993 t994 t995 t996 t997 t998 t999 t1000 (wrap64 (a1 + 1))).bind fun bt1035 => ((engrossref1_EqVal.f bt1035.1 bt1035.2.1 bt1035.2.2 t961 t962 t963).bind fun t1038 => (if t1038 = true then (if (t1020 == (t971 != 0)) = true then (if t1020 = true then ((engrossref1_EqVal.f t1013 t1014 t1015 t971 t972 t973).bind fun t1039 => (if t1039 = true then (some (t1016 == 0)) else (none))) else (some true)) else (none)) else (none)))) else (none)))) else (none)))) else (none)) = some r := H
     have A83 := Aside0.mk A830
     clear A830
     by_cases c84 : t1010 = true
     ·subst c84
      have H1 : ((engrosslaw10_Of.f t960 t961 t962 t963 t964 t965 t966 t967).bind fun bt1022 => ((cell_Eq.f t1002 t1003 t1004 t1005 t1006 t1007 t1008 t1009 bt1022.1 bt1022.2.1 bt1022.2.2.1 bt1022.2.2.2.1 bt1022.2.2.2.2.1 bt1022.2.2.2.2.2.1 bt1022.2.2.2.2.2.2.1 bt1022.2.2.2.2.2.2.2).bind fun t1030 => (if t1030 = true then ((cell_See.f t993 t994 t995 t996 t997 t998 t999 t1000 a1).bind fun bt1031 => ((engrossref1_EqVal.f bt1031.1 bt1031.2.1 bt1031.2.2 t971 t972 t973).bind fun t1034 => (if t1034 = true then ((cell_See.f t993 t994 t995 t996 t997 t998 t999 t1000 (wrap64 (a1 + 1))).bind fun bt1035 => ((engrossref1_EqVal.f bt1035.1 bt1035.2.1 bt1035.2.2 t961 t962 t963).bind fun t1038 => (if t1038 = true then (if (t1020 == (t971 != 0)) = true then (if t1020 = true then ((engrossref1_EqVal.f t1013 t1014 t1015 t971 t972 t973).bind fun t1039 => (if t1039 = true then (some (t1016 == 0)) else (none))) else (some true)) else (none)) else (none)))) else (none)))) else (none)))) = some r := by rw [if_pos rfl] at H; exact H
      clear H
      have H := H1
      clear H1
      replace H := Option.bind_eq_some_iff.mp H
      obtain ⟨⟨t1022, t1023, t1024, t1025, t1026, t1027, t1028, t1029⟩, A850, H⟩ := H
      replace H : ((cell_Eq.f t1002 t1003 t1004 t1005 t1006 t1007 t1008 t1009 t1022 t1023 t1024 t1025 t1026 t1027 t1028 t1029).bind fun t1030 => (if t1030 = true then ((cell_See.f t993 t994 t995 t996 t997 t998 t999 t1000 a1).bind fun bt1031 => ((engrossref1_EqVal.f bt1031.1 bt1031.2.1 bt1031.2.2 t971 t972 t973).bind fun t1034 => (if t1034 = true then ((cell_See.f t993 t994 t995 t996 t997 t998 t999 t1000 (wrap64 (a1 + 1))).bind fun bt1035 => ((engrossref1_EqVal.f bt1035.1 bt1035.2.1 bt1035.2.2 t961 t962 t963).bind fun t1038 => (if t1038 = true then (if (t1020 == (t971 != 0)) = true then (if t1020 = true then ((engrossref1_EqVal.f t1013 t1014 t1015 t971 t972 t973).bind fun t1039 => (if t1039 = true then (some (t1016 == 0)) else (none))) else (some true)) else (none)) else (none)))) else (none)))) else (none))) = some r := H
      have A85 := Aside0.mk A850
      clear A850
      have EA85 := Option.some.inj (A79.out.symm.trans A85.out)
      simp only [Prod.mk.injEq] at EA85
      obtain ⟨eA85_0, eA85_1, eA85_2, eA85_3, eA85_4, eA85_5, eA85_6, eA85_7⟩ := EA85
      subst eA85_0
      subst eA85_1
      subst eA85_2
      subst eA85_3
      subst eA85_4
      subst eA85_5
      subst eA85_6
      subst eA85_7
      replace H := Option.bind_eq_some_iff.mp H
      obtain ⟨t1030, A860, H⟩ := H
      replace H : (if t1030 = true then ((cell_See.f t993 t994 t995 t996 t997 t998 t999 t1000 a1).bind fun bt1031 => ((engrossref1_EqVal.f bt1031.1 bt1031.2.1 bt1031.2.2 t971 t972 t973).bind fun t1034 => (if t1034 = true then ((cell_See.f t993 t994 t995 t996 t997 t998 t999 t1000 (wrap64 (a1 + 1))).bind fun bt1035 => ((engrossref1_EqVal.f bt1035.1 bt1035.2.1 bt1035.2.2 t961 t962 t963).bind fun t1038 => (if t1038 = true then (if (t1020 == (t971 != 0)) = true then (if t1020 = true then ((engrossref1_EqVal.f t1013 t1014 t1015 t971 t972 t973).bind fun t1039 => (if t1039 = true then (some (t1016 == 0)) else (none))) else (some true)) else (none)) else (none)))) else (none)))) else (none)) = some r := H
      have A86 := Aside0.mk A860
      clear A860
      by_cases c87 : t1030 = true
      ·subst c87
       have H1 : ((cell_See.f t993 t994 t995 t996 t997 t998 t999 t1000 a1).bind fun bt1031 => ((engrossref1_EqVal.f bt1031.1 bt1031.2.1 bt1031.2.2 t971 t972 t973).bind fun t1034 => (if t1034 = true then ((cell_See.f t993 t994 t995 t996 t997 t998 t999 t1000 (wrap64 (a1 + 1))).bind fun bt1035 => ((engrossref1_EqVal.f bt1035.1 bt1035.2.1 bt1035.2.2 t961 t962 t963).bind fun t1038 => (if t1038 = true then (if (t1020 == (t971 != 0)) = true then (if t1020 = true then ((engrossref1_EqVal.f t1013 t1014 t1015 t971 t972 t973).bind fun t1039 => (if t1039 = true then (some (t1016 == 0)) else (none))) else (some true)) else (none)) else (none)))) else (none)))) = some r := by rw [if_pos rfl] at H; exact H
       clear H
       have H := H1
       clear H1
       replace H := Option.bind_eq_some_iff.mp H
       obtain ⟨⟨t1031, t1032, t1033⟩, A880, H⟩ := H
       replace H : ((engrossref1_EqVal.f t1031 t1032 t1033 t971 t972 t973).bind fun t1034 => (if t1034 = true then ((cell_See.f t993 t994 t995 t996 t997 t998 t999 t1000 (wrap64 (a1 + 1))).bind fun bt1035 => ((engrossref1_EqVal.f bt1035.1 bt1035.2.1 bt1035.2.2 t961 t962 t963).bind fun t1038 => (if t1038 = true then (if (t1020 == (t971 != 0)) = true then (if t1020 = true then ((engrossref1_EqVal.f t1013 t1014 t1015 t971 t972 t973).bind fun t1039 => (if t1039 = true then (some (t1016 == 0)) else (none))) else (some true)) else (none)) else (none)))) else (none))) = some r := H
       have A88 := Aside0.mk A880
       clear A880
       replace H := Option.bind_eq_some_iff.mp H
       obtain ⟨t1034, A890, H⟩ := H
       replace H : (if t1034 = true then ((cell_See.f t993 t994 t995 t996 t997 t998 t999 t1000 (wrap64 (a1 + 1))).bind fun bt1035 => ((engrossref1_EqVal.f bt1035.1 bt1035.2.1 bt1035.2.2 t961 t962 t963).bind fun t1038 => (if t1038 = true then (if (t1020 == (t971 != 0)) = true then (if t1020 = true then ((engrossref1_EqVal.f t1013 t1014 t1015 t971 t972 t973).bind fun t1039 => (if t1039 = true then (some (t1016 == 0)) else (none))) else (some true)) else (none)) else (none)))) else (none)) = some r := H
       have A89 := Aside0.mk A890
       clear A890
       by_cases c90 : t1034 = true
       ·subst c90
        have H1 : ((cell_See.f t993 t994 t995 t996 t997 t998 t999 t1000 (wrap64 (a1 + 1))).bind fun bt1035 => ((engrossref1_EqVal.f bt1035.1 bt1035.2.1 bt1035.2.2 t961 t962 t963).bind fun t1038 => (if t1038 = true then (if (t1020 == (t971 != 0)) = true then (if t1020 = true then ((engrossref1_EqVal.f t1013 t1014 t1015 t971 t972 t973).bind fun t1039 => (if t1039 = true then (some (t1016 == 0)) else (none))) else (some true)) else (none)) else (none)))) = some r := by rw [if_pos rfl] at H; exact H
        clear H
        have H := H1
        clear H1
        replace H := Option.bind_eq_some_iff.mp H
        obtain ⟨⟨t1035, t1036, t1037⟩, A910, H⟩ := H
        replace H : ((engrossref1_EqVal.f t1035 t1036 t1037 t961 t962 t963).bind fun t1038 => (if t1038 = true then (if (t1020 == (t971 != 0)) = true then (if t1020 = true then ((engrossref1_EqVal.f t1013 t1014 t1015 t971 t972 t973).bind fun t1039 => (if t1039 = true then (some (t1016 == 0)) else (none))) else (some true)) else (none)) else (none))) = some r := H
        have A91 := Aside0.mk A910
        clear A910
        replace H := Option.bind_eq_some_iff.mp H
        obtain ⟨t1038, A920, H⟩ := H
        replace H : (if t1038 = true then (if (t1020 == (t971 != 0)) = true then (if t1020 = true then ((engrossref1_EqVal.f t1013 t1014 t1015 t971 t972 t973).bind fun t1039 => (if t1039 = true then (some (t1016 == 0)) else (none))) else (some true)) else (none)) else (none)) = some r := H
        have A92 := Aside0.mk A920
        clear A920
        by_cases c93 : t1038 = true
        ·subst c93
         have H1 : (if (t1020 == (t971 != 0)) = true then (if t1020 = true then ((engrossref1_EqVal.f t1013 t1014 t1015 t971 t972 t973).bind fun t1039 => (if t1039 = true then (some (t1016 == 0)) else (none))) else (some true)) else (none)) = some r := by rw [if_pos rfl] at H; exact H
         clear H
         have H := H1
         clear H1
         by_cases c94 : (t1020 == (t971 != 0)) = true
         ·rw [if_pos c94] at H
          have c94b0 : (t1020 == (t971 != 0)) = true := c94
          (try (have c94b1 : decide (t1020 = (t971 != 0)) = true := by simpa using c94))
          (try (have c94b2 : (t1020 == (t971 != 0)) = true := by simpa using c94))
          clear c94
          by_cases c95 : t1020 = true
          ·subst c95
           have H1 : ((engrossref1_EqVal.f t1013 t1014 t1015 t971 t972 t973).bind fun t1039 => (if t1039 = true then (some (t1016 == 0)) else (none))) = some r := by rw [if_pos rfl] at H; exact H
           clear H
           have H := H1
           clear H1
           replace H := Option.bind_eq_some_iff.mp H
           obtain ⟨t1039, A960, H⟩ := H
           replace H : (if t1039 = true then (some (t1016 == 0)) else (none)) = some r := H
           have A96 := Aside0.mk A960
           clear A960
           by_cases c97 : t1039 = true
           ·subst c97
            have H1 : (some (t1016 == 0)) = some r := by rw [if_pos rfl] at H; exact H
            clear H
            have H := H1
            clear H1
            obtain rfl := Option.some.inj H
            try go_wp2
            replace BK956 := Aside0.mk (blk_drew BK956.out)
            replace BK957 := Aside0.mk (blk_drew BK957.out)
            replace BK958 := Aside0.mk (blk_drew BK958.out)
            replace HB := Aside0.mk (below_drew1 HB.out)
            refine start_ (n := 10) (S := fun w' => w'.cell? ⟨gb956, 0, none⟩ = some (.string t960) ∧ w'.cell? ⟨gb956, 1, none⟩ = some (.int .i64 t961) ∧ w'.cell? ⟨gb956, 2, none⟩ = some (.float .f64 t962) ∧ w'.cell? ⟨gb956, 3, none⟩ = some (.string t963) ∧ w'.cell? ⟨gb956, 4, none⟩ = some (.int .i64 t964) ∧ w'.cell? ⟨gb956, 5, none⟩ = some (.int .i64 t965) ∧ w'.cell? ⟨gb956, 6, none⟩ = some (.float .f64 t966) ∧ w'.cell? ⟨gb956, 7, none⟩ = some (.string t967) ∧ w'.cell? ⟨gb957, 0, none⟩ = some (.int .i64 t968) ∧ w'.cell? ⟨gb957, 1, none⟩ = some (.float .f64 t969) ∧ w'.cell? ⟨gb957, 2, none⟩ = some (.string t970) ∧ w'.cell? ⟨gb958, 0, none⟩ = some (.int .i64 t971) ∧ w'.cell? ⟨gb958, 1, none⟩ = some (.float .f64 t972) ∧ w'.cell? ⟨gb958, 2, none⟩ = some (.string t973)) (ds := []) #[false, false, false, false, false, false, false, false, false, false] (by kernel_rfl) rfl rfl (bn8 BK956 (bn3 BK957 (be3 BK958))) (fun hHeld => ?_); refine with_tabW engrosslaw10_CellTwice.tab7 engrosslaw10_CellTwice.bits7 (fun HT_ HW_ => ?_)
            generalize wc.drew = w98 at BK956 BK957 BK958 HB hHeld ⊢
            refine pure_ (i := 2) (N := some 52) (v := ?_) (a' := ?_) #[false, false, true, false, false, false, false, false, false, false] rfl rfl (any_of HT_.out (by kernel_rfl)) (fun _ _ _ h => h) (Or.inl ⟨by rfl, ?_⟩) ?_ ?_
            rotate_left
            ·intro w'
             go_simp
             with_reducible rfl
            rotate_left
            ·simp only [Act.put, List.setIfInBounds_toArray, List.set_cons_zero, List.set_cons_succ, i64_w, i32_w]
             rfl
            refine pure_ (i := 5) (N := some 55) (v := ?_) (a' := ?_) #[false, false, true, false, false, true, false, false, false, false] rfl rfl (any_of HT_.out (by kernel_rfl)) (fun _ _ _ h => h) (Or.inl ⟨by rfl, ?_⟩) ?_ ?_
            rotate_left
            ·intro w'
             go_simp
             with_reducible rfl
            rotate_left
            ·simp only [Act.put, List.setIfInBounds_toArray, List.set_cons_zero, List.set_cons_succ, i64_w, i32_w]
             rfl
            refine take_ (i := 0) (N := some 50) (v := ?_) (a' := ?_) #[true, false, true, false, false, true, false, false, false, false] rfl rfl (take_ofW HT_.out HW_.out (by kernel_rfl)) (fun _ _ _ h => h) (Or.inl ⟨by rfl, ?_⟩) hHeld ?_ ?_
            rotate_left
            ·rintro w' ⟨s0, s1, s2, s3, s4, s5, s6, s7, s8, s9, s10, s11, s12, s13⟩
             go_simp
             with_reducible rfl
            rotate_left
            ·simp only [Act.put, List.setIfInBounds_toArray, List.set_cons_zero, List.set_cons_succ, i64_w, i32_w]
             rfl
            refine take_ (i := 3) (N := some 53) (v := ?_) (a' := ?_) #[true, false, true, true, false, true, false, false, false, false] rfl rfl (take_ofW HT_.out HW_.out (by kernel_rfl)) (fun _ _ _ h => h) (Or.inl ⟨by rfl, ?_⟩) hHeld ?_ ?_
            rotate_left
            ·rintro w' ⟨s0, s1, s2, s3, s4, s5, s6, s7, s8, s9, s10, s11, s12, s13⟩
             go_simp
             with_reducible rfl
            rotate_left
            ·simp only [Act.put, List.setIfInBounds_toArray, List.set_cons_zero, List.set_cons_succ, i64_w, i32_w]
             rfl
            refine take_ (i := 6) (N := some 56) (v := ?_) (a' := ?_) #[true, false, true, true, false, true, true, false, false, false] rfl rfl (take_ofW HT_.out HW_.out (by kernel_rfl)) (fun _ _ _ h => h) (Or.inl ⟨by rfl, ?_⟩) hHeld ?_ ?_
            rotate_left
            ·rintro w' ⟨s0, s1, s2, s3, s4, s5, s6, s7, s8, s9, s10, s11, s12, s13⟩
             go_simp
             with_reducible rfl
            rotate_left
            ·simp only [Act.put, List.setIfInBounds_toArray, List.set_cons_zero, List.set_cons_succ, i64_w, i32_w]
             rfl
            refine join_ (σ := Nat) 1 #[true, true, true, true, true, true, true, true, true, false] (fun s_ => [(51, .agg #[.string t977, .int .i64 t978, .float .f64 t979, .string t980, .int .i64 t981, .int .i64 t982, .float .f64 t983, .string t984]), (54, .agg #[.string t985, .int .i64 t986, .float .f64 t987, .string t988, .int .i64 t989, .int .i64 t990, .float .f64 t991, .string t992]), (57, .agg #[.string t993, .int .i64 t994, .float .f64 t995, .string t996, .int .i64 t997, .int .i64 t998, .float .f64 t999, .string t1000]), (10, .pointer (some ⟨s_, 0, none⟩))]) (fun s_ w' => (w'.cell? ⟨gb956, 0, none⟩ = some (.string t960) ∧ w'.cell? ⟨gb956, 1, none⟩ = some (.int .i64 t961) ∧ w'.cell? ⟨gb956, 2, none⟩ = some (.float .f64 t962) ∧ w'.cell? ⟨gb956, 3, none⟩ = some (.string t963) ∧ w'.cell? ⟨gb956, 4, none⟩ = some (.int .i64 t964) ∧ w'.cell? ⟨gb956, 5, none⟩ = some (.int .i64 t965) ∧ w'.cell? ⟨gb956, 6, none⟩ = some (.float .f64 t966) ∧ w'.cell? ⟨gb956, 7, none⟩ = some (.string t967) ∧ w'.cell? ⟨gb957, 0, none⟩ = some (.int .i64 t968) ∧ w'.cell? ⟨gb957, 1, none⟩ = some (.float .f64 t969) ∧ w'.cell? ⟨gb957, 2, none⟩ = some (.string t970) ∧ w'.cell? ⟨gb958, 0, none⟩ = some (.int .i64 t971) ∧ w'.cell? ⟨gb958, 1, none⟩ = some (.float .f64 t972) ∧ w'.cell? ⟨gb958, 2, none⟩ = some (.string t973)) ∧ (w'.heap[s_]? = some (.cells #[.string (⟨#[]⟩ : ByteArray), .int .i64 0, .float .f64 0, .string (⟨#[]⟩ : ByteArray), .int .i64 0, .int .i64 0, .float .f64 0, .string (⟨#[]⟩ : ByteArray)] 31 (0, 0))) ∧ (w'.heap[gb956]? = some (.cells #[.string t960, .int .i64 t961, .float .f64 t962, .string t963, .int .i64 t964, .int .i64 t965, .float .f64 t966, .string t967] 26 (0, 0))) ∧ (w'.heap[gb957]? = some (.cells #[.int .i64 t968, .float .f64 t969, .string t970] 24 (0, 0))) ∧ (w'.heap[gb958]? = some (.cells #[.int .i64 t971, .float .f64 t972, .string t973] 24 (0, 0))) ∧ (w.heap.size ≤ s_) ∧ (w.heap.size ≤ s_) ∧ (gb956 ≠ s_) ∧ (s_ ≠ gb956) ∧ (gb957 ≠ s_) ∧ (s_ ≠ gb957) ∧ (gb958 ≠ s_) ∧ (s_ ≠ gb958) ∧ (Below w.heap.size w w')) ?_ ?_
            rotate_left
            ·intro hCont
             refine two_ (i := 1) (j := 8) (Ni := some 51) (Nj := some 10) #[true, true, true, true, false, true, true, false, false, false] #[true, false, true, true, false, true, true, false, true, false] rfl rfl rfl rfl (two_of HT_.out (by kernel_rfl)) (by decide) (by decide) (fun K hK => ?_) (fun K hK => ?_)
             ·skip
              refine goes_ Try.func14 (by kernel_rfl) rfl #[.agg #[.string t960, .int .i64 t961, .float .f64 t962, .string t963, .int .i64 t964, .int .i64 t965, .float .f64 t966, .string t967]] (by rfl) rfl rfl (by (try simp only [List.map_toArray, List.map_cons, List.map_nil]); first | done | rfl | (simp only [List.length_drop, List.length_take]; rfl)) ?_
              with_reducible refine (engrosslaw10_Of.calls t960 t961 t962 t963 t964 t965 t966 t967 t977 t978 t979 t980 t981 t982 t983 t984 _ A79.out).mono ?_
              rintro e w99 ⟨rfl, hb⟩
              refine ⟨_, rfl, ?_⟩
              replace BK956 := bB BK956 hb
              replace BK957 := bB BK957 hb
              replace BK958 := bB BK958 hb
              replace HB := bW HB hb
              (try clear hb)
              (try clear hb2)
              (try clear hk)
              (try clear hi)
              refine hK.out _ _ (bn8 BK956 (bn3 BK957 (be3 BK958))) (fun hHeld => ?_)
              clear hK K
              refine norm_ (a' := ?_) ?_ ?_
              rotate_left
              ·show Act.put _ (some 51) _ = _
               simp only [Act.put, List.setIfInBounds_toArray, List.set_cons_zero, List.set_cons_succ, i64_w, i32_w]
               rfl
              refine two_ (i := 4) (j := 8) (Ni := some 54) (Nj := some 10) #[true, true, true, true, true, true, true, false, false, false] #[true, true, true, true, false, true, true, false, true, false] rfl rfl rfl rfl (two_of HT_.out (by kernel_rfl)) (by decide) (by decide) (fun K hK => ?_) (fun K hK => ?_)
              ·skip
               refine goes_ Try.func27 (by kernel_rfl) rfl #[.agg #[.string t977, .int .i64 t978, .float .f64 t979, .string t980, .int .i64 t981, .int .i64 t982, .float .f64 t983, .string t984], .int .i64 a1, .agg #[.int .i64 t968, .float .f64 t969, .string t970]] (by rfl) rfl rfl (by (try simp only [List.map_toArray, List.map_cons, List.map_nil]); first | done | rfl | (simp only [List.length_drop, List.length_take]; rfl)) ?_
               with_reducible refine (cell_Write.calls t977 t978 t979 t980 t981 t982 t983 t984 a1 t968 t969 t970 t985 t986 t987 t988 t989 t990 t991 t992 _ A80.out).mono ?_
               rintro e w100 ⟨rfl, hb⟩
               refine ⟨_, rfl, ?_⟩
               replace BK956 := bB BK956 hb
               replace BK957 := bB BK957 hb
               replace BK958 := bB BK958 hb
               replace HB := bW HB hb
               (try clear hb)
               (try clear hb2)
               (try clear hk)
               (try clear hi)
               refine hK.out _ _ (bn8 BK956 (bn3 BK957 (be3 BK958))) (fun hHeld => ?_)
               clear hK K
               refine norm_ (a' := ?_) ?_ ?_
               rotate_left
               ·show Act.put _ (some 54) _ = _
                simp only [Act.put, List.setIfInBounds_toArray, List.set_cons_zero, List.set_cons_succ, i64_w, i32_w]
                rfl
               refine two_ (i := 7) (j := 8) (Ni := some 57) (Nj := some 10) #[true, true, true, true, true, true, true, true, false, false] #[true, true, true, true, true, true, true, false, true, false] rfl rfl rfl rfl (two_of HT_.out (by kernel_rfl)) (by decide) (by decide) (fun K hK => ?_) (fun K hK => ?_)
               ·skip
                refine goes_ Try.func27 (by kernel_rfl) rfl #[.agg #[.string t985, .int .i64 t986, .float .f64 t987, .string t988, .int .i64 t989, .int .i64 t990, .float .f64 t991, .string t992], .int .i64 a1, .agg #[.int .i64 t971, .float .f64 t972, .string t973]] (by rfl) rfl rfl (by (try simp only [List.map_toArray, List.map_cons, List.map_nil]); first | done | rfl | (simp only [List.length_drop, List.length_take]; rfl)) ?_
                with_reducible refine (cell_Write.calls t985 t986 t987 t988 t989 t990 t991 t992 a1 t971 t972 t973 t993 t994 t995 t996 t997 t998 t999 t1000 _ A81.out).mono ?_
                rintro e w101 ⟨rfl, hb⟩
                refine ⟨_, rfl, ?_⟩
                replace BK956 := bB BK956 hb
                replace BK957 := bB BK957 hb
                replace BK958 := bB BK958 hb
                replace HB := bW HB hb
                (try clear hb)
                (try clear hb2)
                (try clear hk)
                (try clear hi)
                refine hK.out _ _ (bn8 BK956 (bn3 BK957 (be3 BK958))) (fun hHeld => ?_)
                clear hK K
                refine norm_ (a' := ?_) ?_ ?_
                rotate_left
                ·show Act.put _ (some 57) _ = _
                 simp only [Act.put, List.setIfInBounds_toArray, List.set_cons_zero, List.set_cons_succ, i64_w, i32_w]
                 rfl
                refine one_ (i := 8) (N := some 10) #[true, true, true, true, true, true, true, true, true, false] rfl rfl (one_of HT_.out (by kernel_rfl)) (by decide) (fun K hK => ?_)
                refine box_step ?hg (N := 10) ?hd (cs := #[.string (⟨#[]⟩ : ByteArray), .int .i64 0, .float .f64 0, .string (⟨#[]⟩ : ByteArray), .int .i64 0, .int .i64 0, .float .f64 0, .string (⟨#[]⟩ : ByteArray)]) (t := 31) ?hr ?_; (case hd => rfl); (case hg => rfl); (case hr => first | (go_simp; done) | (go_simp; rfl))
                intro gb1001 hg w102 hbox hb
                have BK1001 := Aside0.mk (hbox)
                have GW1001 := bZ HB hg
                have GE1001 := bZ HB hg
                have NB956_1001 := bL BK956 hg
                have NB1001_956 := bG BK956 hg
                have NB957_1001 := bL BK957 hg
                have NB1001_957 := bG BK957 hg
                have NB958_1001 := bL BK958 hg
                have NB1001_958 := bG BK958 hg
                replace BK956 := bB BK956 hb
                replace BK957 := bB BK957 hb
                replace BK958 := bB BK958 hb
                replace HB := bW HB hb
                clear hb hbox hg
                refine hK.out _ _ (bn8 BK956 (bn3 BK957 (be3 BK958))) (fun hHeld => ?_)
                clear hK K
                refine norm_ (a' := ?_) ?_ ?_
                rotate_left
                ·show Act.put _ (some 10) _ = _
                 simp only [Act.put, List.setIfInBounds_toArray, List.set_cons_zero, List.set_cons_succ, i64_w, i32_w]
                 rfl
                exact norm_ (by simp only [putAll, Act.put, List.setIfInBounds_toArray, List.set_cons_zero, List.set_cons_succ]) (hCont (gb1001) _ ⟨hHeld, (bQ BK1001), (bQ BK956), (bQ BK957), (bQ BK958), GW1001.out, GE1001.out, NB956_1001.out, NB1001_956.out, NB957_1001.out, NB1001_957.out, NB958_1001.out, NB1001_958.out, (bC HB)⟩)
               ·skip
                refine box_step ?hg (N := 10) ?hd (cs := #[.string (⟨#[]⟩ : ByteArray), .int .i64 0, .float .f64 0, .string (⟨#[]⟩ : ByteArray), .int .i64 0, .int .i64 0, .float .f64 0, .string (⟨#[]⟩ : ByteArray)]) (t := 31) ?hr ?_; (case hd => rfl); (case hg => rfl); (case hr => first | (go_simp; done) | (go_simp; rfl))
                intro gb1001 hg w101 hbox hb
                have BK1001 := Aside0.mk (hbox)
                have GW1001 := bZ HB hg
                have GE1001 := bZ HB hg
                have NB956_1001 := bL BK956 hg
                have NB1001_956 := bG BK956 hg
                have NB957_1001 := bL BK957 hg
                have NB1001_957 := bG BK957 hg
                have NB958_1001 := bL BK958 hg
                have NB1001_958 := bG BK958 hg
                replace BK956 := bB BK956 hb
                replace BK957 := bB BK957 hb
                replace BK958 := bB BK958 hb
                replace HB := bW HB hb
                clear hb hbox hg
                refine hK.out _ _ (bn8 BK956 (bn3 BK957 (be3 BK958))) (fun hHeld => ?_)
                clear hK K
                refine norm_ (a' := ?_) ?_ ?_
                rotate_left
                ·show Act.put _ (some 10) _ = _
                 simp only [Act.put, List.setIfInBounds_toArray, List.set_cons_zero, List.set_cons_succ, i64_w, i32_w]
                 rfl
                refine one_ (i := 7) (N := some 57) #[true, true, true, true, true, true, true, true, true, false] rfl rfl (one_of HT_.out (by kernel_rfl)) (by decide) (fun K hK => ?_)
                refine goes_ Try.func27 (by kernel_rfl) rfl #[.agg #[.string t985, .int .i64 t986, .float .f64 t987, .string t988, .int .i64 t989, .int .i64 t990, .float .f64 t991, .string t992], .int .i64 a1, .agg #[.int .i64 t971, .float .f64 t972, .string t973]] (by rfl) rfl rfl (by (try simp only [List.map_toArray, List.map_cons, List.map_nil]); first | done | rfl | (simp only [List.length_drop, List.length_take]; rfl)) ?_
                with_reducible refine (cell_Write.calls t985 t986 t987 t988 t989 t990 t991 t992 a1 t971 t972 t973 t993 t994 t995 t996 t997 t998 t999 t1000 _ A81.out).mono ?_
                rintro e w102 ⟨rfl, hb⟩
                refine ⟨_, rfl, ?_⟩
                replace BK956 := bB BK956 hb
                replace BK957 := bB BK957 hb
                replace BK958 := bB BK958 hb
                replace BK1001 := bB BK1001 hb
                replace HB := bW HB hb
                (try clear hb)
                (try clear hb2)
                (try clear hk)
                (try clear hi)
                refine hK.out _ _ (bn8 BK956 (bn3 BK957 (be3 BK958))) (fun hHeld => ?_)
                clear hK K
                refine norm_ (a' := ?_) ?_ ?_
                rotate_left
                ·show Act.put _ (some 57) _ = _
                 simp only [Act.put, List.setIfInBounds_toArray, List.set_cons_zero, List.set_cons_succ, i64_w, i32_w]
                 rfl
                exact norm_ (by simp only [putAll, Act.put, List.setIfInBounds_toArray, List.set_cons_zero, List.set_cons_succ]) (hCont (gb1001) _ ⟨hHeld, (bQ BK1001), (bQ BK956), (bQ BK957), (bQ BK958), GW1001.out, GE1001.out, NB956_1001.out, NB1001_956.out, NB957_1001.out, NB1001_957.out, NB958_1001.out, NB1001_958.out, (bC HB)⟩)
              ·skip
               refine box_step ?hg (N := 10) ?hd (cs := #[.string (⟨#[]⟩ : ByteArray), .int .i64 0, .float .f64 0, .string (⟨#[]⟩ : ByteArray), .int .i64 0, .int .i64 0, .float .f64 0, .string (⟨#[]⟩ : ByteArray)]) (t := 31) ?hr ?_; (case hd => rfl); (case hg => rfl); (case hr => first | (go_simp; done) | (go_simp; rfl))
               intro gb1001 hg w100 hbox hb
               have BK1001 := Aside0.mk (hbox)
               have GW1001 := bZ HB hg
               have GE1001 := bZ HB hg
               have NB956_1001 := bL BK956 hg
               have NB1001_956 := bG BK956 hg
               have NB957_1001 := bL BK957 hg
               have NB1001_957 := bG BK957 hg
               have NB958_1001 := bL BK958 hg
               have NB1001_958 := bG BK958 hg
               replace BK956 := bB BK956 hb
               replace BK957 := bB BK957 hb
               replace BK958 := bB BK958 hb
               replace HB := bW HB hb
               clear hb hbox hg
               refine hK.out _ _ (bn8 BK956 (bn3 BK957 (be3 BK958))) (fun hHeld => ?_)
               clear hK K
               refine norm_ (a' := ?_) ?_ ?_
               rotate_left
               ·show Act.put _ (some 10) _ = _
                simp only [Act.put, List.setIfInBounds_toArray, List.set_cons_zero, List.set_cons_succ, i64_w, i32_w]
                rfl
               refine one_ (i := 4) (N := some 54) #[true, true, true, true, true, true, true, false, true, false] rfl rfl (one_of HT_.out (by kernel_rfl)) (by decide) (fun K hK => ?_)
               refine goes_ Try.func27 (by kernel_rfl) rfl #[.agg #[.string t977, .int .i64 t978, .float .f64 t979, .string t980, .int .i64 t981, .int .i64 t982, .float .f64 t983, .string t984], .int .i64 a1, .agg #[.int .i64 t968, .float .f64 t969, .string t970]] (by rfl) rfl rfl (by (try simp only [List.map_toArray, List.map_cons, List.map_nil]); first | done | rfl | (simp only [List.length_drop, List.length_take]; rfl)) ?_
               with_reducible refine (cell_Write.calls t977 t978 t979 t980 t981 t982 t983 t984 a1 t968 t969 t970 t985 t986 t987 t988 t989 t990 t991 t992 _ A80.out).mono ?_
               rintro e w101 ⟨rfl, hb⟩
               refine ⟨_, rfl, ?_⟩
               replace BK956 := bB BK956 hb
               replace BK957 := bB BK957 hb
               replace BK958 := bB BK958 hb
               replace BK1001 := bB BK1001 hb
               replace HB := bW HB hb
               (try clear hb)
               (try clear hb2)
               (try clear hk)
               (try clear hi)
               refine hK.out _ _ (bn8 BK956 (bn3 BK957 (be3 BK958))) (fun hHeld => ?_)
               clear hK K
               refine norm_ (a' := ?_) ?_ ?_
               rotate_left
               ·show Act.put _ (some 54) _ = _
                simp only [Act.put, List.setIfInBounds_toArray, List.set_cons_zero, List.set_cons_succ, i64_w, i32_w]
                rfl
               refine one_ (i := 7) (N := some 57) #[true, true, true, true, true, true, true, true, true, false] rfl rfl (one_of HT_.out (by kernel_rfl)) (by decide) (fun K hK => ?_)
               refine goes_ Try.func27 (by kernel_rfl) rfl #[.agg #[.string t985, .int .i64 t986, .float .f64 t987, .string t988, .int .i64 t989, .int .i64 t990, .float .f64 t991, .string t992], .int .i64 a1, .agg #[.int .i64 t971, .float .f64 t972, .string t973]] (by rfl) rfl rfl (by (try simp only [List.map_toArray, List.map_cons, List.map_nil]); first | done | rfl | (simp only [List.length_drop, List.length_take]; rfl)) ?_
               with_reducible refine (cell_Write.calls t985 t986 t987 t988 t989 t990 t991 t992 a1 t971 t972 t973 t993 t994 t995 t996 t997 t998 t999 t1000 _ A81.out).mono ?_
               rintro e w102 ⟨rfl, hb⟩
               refine ⟨_, rfl, ?_⟩
               replace BK956 := bB BK956 hb
               replace BK957 := bB BK957 hb
               replace BK958 := bB BK958 hb
               replace BK1001 := bB BK1001 hb
               replace HB := bW HB hb
               (try clear hb)
               (try clear hb2)
               (try clear hk)
               (try clear hi)
               refine hK.out _ _ (bn8 BK956 (bn3 BK957 (be3 BK958))) (fun hHeld => ?_)
               clear hK K
               refine norm_ (a' := ?_) ?_ ?_
               rotate_left
               ·show Act.put _ (some 57) _ = _
                simp only [Act.put, List.setIfInBounds_toArray, List.set_cons_zero, List.set_cons_succ, i64_w, i32_w]
                rfl
               exact norm_ (by simp only [putAll, Act.put, List.setIfInBounds_toArray, List.set_cons_zero, List.set_cons_succ]) (hCont (gb1001) _ ⟨hHeld, (bQ BK1001), (bQ BK956), (bQ BK957), (bQ BK958), GW1001.out, GE1001.out, NB956_1001.out, NB1001_956.out, NB957_1001.out, NB1001_957.out, NB958_1001.out, NB1001_958.out, (bC HB)⟩)
             ·skip
              refine box_step ?hg (N := 10) ?hd (cs := #[.string (⟨#[]⟩ : ByteArray), .int .i64 0, .float .f64 0, .string (⟨#[]⟩ : ByteArray), .int .i64 0, .int .i64 0, .float .f64 0, .string (⟨#[]⟩ : ByteArray)]) (t := 31) ?hr ?_; (case hd => rfl); (case hg => rfl); (case hr => first | (go_simp; done) | (go_simp; rfl))
              intro gb1001 hg w99 hbox hb
              have BK1001 := Aside0.mk (hbox)
              have GW1001 := bZ HB hg
              have GE1001 := bZ HB hg
              have NB956_1001 := bL BK956 hg
              have NB1001_956 := bG BK956 hg
              have NB957_1001 := bL BK957 hg
              have NB1001_957 := bG BK957 hg
              have NB958_1001 := bL BK958 hg
              have NB1001_958 := bG BK958 hg
              replace BK956 := bB BK956 hb
              replace BK957 := bB BK957 hb
              replace BK958 := bB BK958 hb
              replace HB := bW HB hb
              clear hb hbox hg
              refine hK.out _ _ (bn8 BK956 (bn3 BK957 (be3 BK958))) (fun hHeld => ?_)
              clear hK K
              refine norm_ (a' := ?_) ?_ ?_
              rotate_left
              ·show Act.put _ (some 10) _ = _
               simp only [Act.put, List.setIfInBounds_toArray, List.set_cons_zero, List.set_cons_succ, i64_w, i32_w]
               rfl
              refine one_ (i := 1) (N := some 51) #[true, true, true, true, false, true, true, false, true, false] rfl rfl (one_of HT_.out (by kernel_rfl)) (by decide) (fun K hK => ?_)
              refine goes_ Try.func14 (by kernel_rfl) rfl #[.agg #[.string t960, .int .i64 t961, .float .f64 t962, .string t963, .int .i64 t964, .int .i64 t965, .float .f64 t966, .string t967]] (by rfl) rfl rfl (by (try simp only [List.map_toArray, List.map_cons, List.map_nil]); first | done | rfl | (simp only [List.length_drop, List.length_take]; rfl)) ?_
              with_reducible refine (engrosslaw10_Of.calls t960 t961 t962 t963 t964 t965 t966 t967 t977 t978 t979 t980 t981 t982 t983 t984 _ A79.out).mono ?_
              rintro e w100 ⟨rfl, hb⟩
              refine ⟨_, rfl, ?_⟩
              replace BK956 := bB BK956 hb
              replace BK957 := bB BK957 hb
              replace BK958 := bB BK958 hb
              replace BK1001 := bB BK1001 hb
              replace HB := bW HB hb
              (try clear hb)
              (try clear hb2)
              (try clear hk)
              (try clear hi)
              refine hK.out _ _ (bn8 BK956 (bn3 BK957 (be3 BK958))) (fun hHeld => ?_)
              clear hK K
              refine norm_ (a' := ?_) ?_ ?_
              rotate_left
              ·show Act.put _ (some 51) _ = _
               simp only [Act.put, List.setIfInBounds_toArray, List.set_cons_zero, List.set_cons_succ, i64_w, i32_w]
               rfl
              refine one_ (i := 4) (N := some 54) #[true, true, true, true, true, true, true, false, true, false] rfl rfl (one_of HT_.out (by kernel_rfl)) (by decide) (fun K hK => ?_)
              refine goes_ Try.func27 (by kernel_rfl) rfl #[.agg #[.string t977, .int .i64 t978, .float .f64 t979, .string t980, .int .i64 t981, .int .i64 t982, .float .f64 t983, .string t984], .int .i64 a1, .agg #[.int .i64 t968, .float .f64 t969, .string t970]] (by rfl) rfl rfl (by (try simp only [List.map_toArray, List.map_cons, List.map_nil]); first | done | rfl | (simp only [List.length_drop, List.length_take]; rfl)) ?_
              with_reducible refine (cell_Write.calls t977 t978 t979 t980 t981 t982 t983 t984 a1 t968 t969 t970 t985 t986 t987 t988 t989 t990 t991 t992 _ A80.out).mono ?_
              rintro e w101 ⟨rfl, hb⟩
              refine ⟨_, rfl, ?_⟩
              replace BK956 := bB BK956 hb
              replace BK957 := bB BK957 hb
              replace BK958 := bB BK958 hb
              replace BK1001 := bB BK1001 hb
              replace HB := bW HB hb
              (try clear hb)
              (try clear hb2)
              (try clear hk)
              (try clear hi)
              refine hK.out _ _ (bn8 BK956 (bn3 BK957 (be3 BK958))) (fun hHeld => ?_)
              clear hK K
              refine norm_ (a' := ?_) ?_ ?_
              rotate_left
              ·show Act.put _ (some 54) _ = _
               simp only [Act.put, List.setIfInBounds_toArray, List.set_cons_zero, List.set_cons_succ, i64_w, i32_w]
               rfl
              refine one_ (i := 7) (N := some 57) #[true, true, true, true, true, true, true, true, true, false] rfl rfl (one_of HT_.out (by kernel_rfl)) (by decide) (fun K hK => ?_)
              refine goes_ Try.func27 (by kernel_rfl) rfl #[.agg #[.string t985, .int .i64 t986, .float .f64 t987, .string t988, .int .i64 t989, .int .i64 t990, .float .f64 t991, .string t992], .int .i64 a1, .agg #[.int .i64 t971, .float .f64 t972, .string t973]] (by rfl) rfl rfl (by (try simp only [List.map_toArray, List.map_cons, List.map_nil]); first | done | rfl | (simp only [List.length_drop, List.length_take]; rfl)) ?_
              with_reducible refine (cell_Write.calls t985 t986 t987 t988 t989 t990 t991 t992 a1 t971 t972 t973 t993 t994 t995 t996 t997 t998 t999 t1000 _ A81.out).mono ?_
              rintro e w102 ⟨rfl, hb⟩
              refine ⟨_, rfl, ?_⟩
              replace BK956 := bB BK956 hb
              replace BK957 := bB BK957 hb
              replace BK958 := bB BK958 hb
              replace BK1001 := bB BK1001 hb
              replace HB := bW HB hb
              (try clear hb)
              (try clear hb2)
              (try clear hk)
              (try clear hi)
              refine hK.out _ _ (bn8 BK956 (bn3 BK957 (be3 BK958))) (fun hHeld => ?_)
              clear hK K
              refine norm_ (a' := ?_) ?_ ?_
              rotate_left
              ·show Act.put _ (some 57) _ = _
               simp only [Act.put, List.setIfInBounds_toArray, List.set_cons_zero, List.set_cons_succ, i64_w, i32_w]
               rfl
              exact norm_ (by simp only [putAll, Act.put, List.setIfInBounds_toArray, List.set_cons_zero, List.set_cons_succ]) (hCont (gb1001) _ ⟨hHeld, (bQ BK1001), (bQ BK956), (bQ BK957), (bQ BK958), GW1001.out, GE1001.out, NB956_1001.out, NB1001_956.out, NB957_1001.out, NB1001_957.out, NB958_1001.out, NB1001_958.out, (bC HB)⟩)
            rintro gb1001 w103 ⟨hS_, h0_, h1_, h2_, h3_, h4_, h5_, h6_, h7_, h8_, h9_, h10_, h11_, h12_⟩
            have n0_ : Aside0 (w103.heap[gb1001]? = some (.cells #[.string (⟨#[]⟩ : ByteArray), .int .i64 0, .float .f64 0, .string (⟨#[]⟩ : ByteArray), .int .i64 0, .int .i64 0, .float .f64 0, .string (⟨#[]⟩ : ByteArray)] 31 (0, 0))) := ⟨h0_⟩
            have n1_ : Aside0 (w103.heap[gb956]? = some (.cells #[.string t960, .int .i64 t961, .float .f64 t962, .string t963, .int .i64 t964, .int .i64 t965, .float .f64 t966, .string t967] 26 (0, 0))) := ⟨h1_⟩
            have n2_ : Aside0 (w103.heap[gb957]? = some (.cells #[.int .i64 t968, .float .f64 t969, .string t970] 24 (0, 0))) := ⟨h2_⟩
            have n3_ : Aside0 (w103.heap[gb958]? = some (.cells #[.int .i64 t971, .float .f64 t972, .string t973] 24 (0, 0))) := ⟨h3_⟩
            have n4_ : Aside0 (w.heap.size ≤ gb1001) := ⟨h4_⟩
            have n5_ : Aside0 (w.heap.size ≤ gb1001) := ⟨h5_⟩
            have n6_ : Aside0 (gb956 ≠ gb1001) := ⟨h6_⟩
            have n7_ : Aside0 (gb1001 ≠ gb956) := ⟨h7_⟩
            have n8_ : Aside0 (gb957 ≠ gb1001) := ⟨h8_⟩
            have n9_ : Aside0 (gb1001 ≠ gb957) := ⟨h9_⟩
            have n10_ : Aside0 (gb958 ≠ gb1001) := ⟨h10_⟩
            have n11_ : Aside0 (gb1001 ≠ gb958) := ⟨h11_⟩
            have n12_ : Aside0 (Below w.heap.size w w103) := ⟨h12_⟩
            clear BK956
            clear BK957
            clear BK958
            clear HB
            clear h0_ h1_ h2_ h3_ h4_ h5_ h6_ h7_ h8_ h9_ h10_ h11_ h12_
            have BK1001 := n0_
            have BK956 := n1_
            have BK957 := n2_
            have BK958 := n3_
            have GW1001 := n4_
            have GE1001 := n5_
            have NB956_1001 := n6_
            have NB1001_956 := n7_
            have NB957_1001 := n8_
            have NB1001_957 := n9_
            have NB958_1001 := n10_
            have NB1001_958 := n11_
            have HB := n12_
            clear n0_ n1_ n2_ n3_ n4_ n5_ n6_ n7_ n8_ n9_ n10_ n11_ n12_
            have hHeld : w103.cell? ⟨gb956, 0, none⟩ = some (.string t960) ∧ w103.cell? ⟨gb956, 1, none⟩ = some (.int .i64 t961) ∧ w103.cell? ⟨gb956, 2, none⟩ = some (.float .f64 t962) ∧ w103.cell? ⟨gb956, 3, none⟩ = some (.string t963) ∧ w103.cell? ⟨gb956, 4, none⟩ = some (.int .i64 t964) ∧ w103.cell? ⟨gb956, 5, none⟩ = some (.int .i64 t965) ∧ w103.cell? ⟨gb956, 6, none⟩ = some (.float .f64 t966) ∧ w103.cell? ⟨gb956, 7, none⟩ = some (.string t967) ∧ w103.cell? ⟨gb957, 0, none⟩ = some (.int .i64 t968) ∧ w103.cell? ⟨gb957, 1, none⟩ = some (.float .f64 t969) ∧ w103.cell? ⟨gb957, 2, none⟩ = some (.string t970) ∧ w103.cell? ⟨gb958, 0, none⟩ = some (.int .i64 t971) ∧ w103.cell? ⟨gb958, 1, none⟩ = some (.float .f64 t972) ∧ w103.cell? ⟨gb958, 2, none⟩ = some (.string t973) := hS_
            refine norm_ (a' := ?_) ?_ ?_
            rotate_left
            ·simp only [putAll, Act.put, List.setIfInBounds_toArray, List.set_cons_zero, List.set_cons_succ]
             rfl
            refine one_ (i := 9) (N := none) #[true, true, true, true, true, true, true, true, true, true] rfl rfl (one_of HT_.out (by kernel_rfl)) (by decide) (fun K hK => ?_)
            have hs104 : w103.cell? ⟨gb1001, 0, none⟩ = some (.string (⟨#[]⟩ : ByteArray)) := (blk_cell BK1001.out 0).trans rfl
            have hfs104 := blk_frozen BK1001.out 0
            have hns104_0 := NB956_1001.out
            have hns104_1 := NB957_1001.out
            have hns104_2 := NB958_1001.out
            have hms104_0 := NB1001_956.out
            have hms104_1 := NB1001_957.out
            have hms104_2 := NB1001_958.out
            have hs105 : w103.cell? ⟨gb1001, 1, none⟩ = some (.int .i64 0) := (blk_cell BK1001.out 1).trans rfl
            have hfs105 := blk_frozen BK1001.out 1
            have hns105_0 := NB956_1001.out
            have hns105_1 := NB957_1001.out
            have hns105_2 := NB958_1001.out
            have hms105_0 := NB1001_956.out
            have hms105_1 := NB1001_957.out
            have hms105_2 := NB1001_958.out
            have hs106 : w103.cell? ⟨gb1001, 2, none⟩ = some (.float .f64 0) := (blk_cell BK1001.out 2).trans rfl
            have hfs106 := blk_frozen BK1001.out 2
            have hns106_0 := NB956_1001.out
            have hns106_1 := NB957_1001.out
            have hns106_2 := NB958_1001.out
            have hms106_0 := NB1001_956.out
            have hms106_1 := NB1001_957.out
            have hms106_2 := NB1001_958.out
            have hs107 : w103.cell? ⟨gb1001, 3, none⟩ = some (.string (⟨#[]⟩ : ByteArray)) := (blk_cell BK1001.out 3).trans rfl
            have hfs107 := blk_frozen BK1001.out 3
            have hns107_0 := NB956_1001.out
            have hns107_1 := NB957_1001.out
            have hns107_2 := NB958_1001.out
            have hms107_0 := NB1001_956.out
            have hms107_1 := NB1001_957.out
            have hms107_2 := NB1001_958.out
            have hs108 : w103.cell? ⟨gb1001, 4, none⟩ = some (.int .i64 0) := (blk_cell BK1001.out 4).trans rfl
            have hfs108 := blk_frozen BK1001.out 4
            have hns108_0 := NB956_1001.out
            have hns108_1 := NB957_1001.out
            have hns108_2 := NB958_1001.out
            have hms108_0 := NB1001_956.out
            have hms108_1 := NB1001_957.out
            have hms108_2 := NB1001_958.out
            have hs109 : w103.cell? ⟨gb1001, 5, none⟩ = some (.int .i64 0) := (blk_cell BK1001.out 5).trans rfl
            have hfs109 := blk_frozen BK1001.out 5
            have hns109_0 := NB956_1001.out
            have hns109_1 := NB957_1001.out
            have hns109_2 := NB958_1001.out
            have hms109_0 := NB1001_956.out
            have hms109_1 := NB1001_957.out
            have hms109_2 := NB1001_958.out
            have hs110 : w103.cell? ⟨gb1001, 6, none⟩ = some (.float .f64 0) := (blk_cell BK1001.out 6).trans rfl
            have hfs110 := blk_frozen BK1001.out 6
            have hns110_0 := NB956_1001.out
            have hns110_1 := NB957_1001.out
            have hns110_2 := NB958_1001.out
            have hms110_0 := NB1001_956.out
            have hms110_1 := NB1001_957.out
            have hms110_2 := NB1001_958.out
            have hs111 : w103.cell? ⟨gb1001, 7, none⟩ = some (.string (⟨#[]⟩ : ByteArray)) := (blk_cell BK1001.out 7).trans rfl
            have hfs111 := blk_frozen BK1001.out 7
            have hns111_0 := NB956_1001.out
            have hns111_1 := NB957_1001.out
            have hns111_2 := NB958_1001.out
            have hms111_0 := NB1001_956.out
            have hms111_1 := NB1001_957.out
            have hms111_2 := NB1001_958.out
            with_reducible refine skip_ (w1 := ?_) (by with_unfolding_all rfl) (by with_unfolding_all rfl) ?_ ?_
            rotate_left
            ·go_simp
             rfl
            refine hK.out _ _ ⟨(bT hHeld.1), (bT hHeld.2.1), (bT hHeld.2.2.1), (bT hHeld.2.2.2.1), (bT hHeld.2.2.2.2.1), (bT hHeld.2.2.2.2.2.1), (bT hHeld.2.2.2.2.2.2.1), (bT hHeld.2.2.2.2.2.2.2.1), (bT hHeld.2.2.2.2.2.2.2.2.1), (bT hHeld.2.2.2.2.2.2.2.2.2.1), (bT hHeld.2.2.2.2.2.2.2.2.2.2.1), (bT hHeld.2.2.2.2.2.2.2.2.2.2.2.1), (bT hHeld.2.2.2.2.2.2.2.2.2.2.2.2.1), (bT hHeld.2.2.2.2.2.2.2.2.2.2.2.2.2)⟩ (fun hHeld => ?_)
            clear hK K
            refine done_ (done_of HT_.out (by kernel_rfl)) ?_
            have hnb112 := NB1001_956.out
            have hnc112 := NB956_1001.out
            have hnb113 := NB1001_957.out
            have hnc113 := NB957_1001.out
            have hnb114 := NB1001_958.out
            have hnc114 := NB958_1001.out
            obtain ⟨hcz115_0, hcz115_1, hcz115_2, hcz115_3, hcz115_4, hcz115_5, hcz115_6, hcz115_7, hfz115_0, hfz115_1, hfz115_2, hfz115_3, hfz115_4, hfz115_5, hfz115_6, hfz115_7⟩ := bf8 (w := w103) BK1001
            try go_wp2_with (first | ((with_reducible refine gate_callee (f := 23) rfl ?_); refine goesL_ (some 60) rfl rfl Try.func23 (by kernel_rfl) rfl #[.agg #[.string t993, .int .i64 t994, .float .f64 t995, .string t996, .int .i64 t997, .int .i64 t998, .float .f64 t999, .string t1000]] rfl (by (try simp only [List.map_toArray, List.map_cons, List.map_nil]); first | done | rfl | (simp only [List.length_drop, List.length_take]; rfl)) ?_; (with_reducible refine (cell_Undo.calls t993 t994 t995 t996 t997 t998 t999 t1000 t1002 t1003 t1004 t1005 t1006 t1007 t1008 t1009 true _ A82.out).mono ?_); rintro e w116 ⟨rfl, hb⟩; refine ⟨_, rfl, ?_⟩; replace BK956 := bB BK956 hb; replace BK957 := bB BK957 hb; replace BK958 := bB BK958 hb; replace BK1001 := Aside0.mk (blk_below (g := gb1001) (o := .cells #[.string t993, .int .i64 t994, .float .f64 t995, .string t996, .int .i64 t997, .int .i64 t998, .float .f64 t999, .string t1000] 31 (0, 0)) (bR BK1001) hb); replace HB := bW HB hb; (try clear hb); (try clear hb2); (try clear hk); (try clear hi)) | ((with_reducible refine gate_dst (N := 11) rfl ?_); refine box_event ?hg (N := 11) ?hd (cs := #[.string (⟨#[]⟩ : ByteArray), .int .i64 0, .float .f64 0, .string (⟨#[]⟩ : ByteArray), .int .i64 0, .int .i64 0, .float .f64 0, .string (⟨#[]⟩ : ByteArray)]) (t := 31) ?hr ?_; (case hd => rfl); (case hg => rfl); (case hr => first | (go_simp; done) | (go_simp; rfl)); intro gb1011 hg w117 hbox hb; have BK1011 := Aside0.mk (hbox); have GW1011 := bZ HB hg; have GE1011 := bZ HB hg; have NB956_1011 := bL BK956 hg; have NB1011_956 := bG BK956 hg; have NB957_1011 := bL BK957 hg; have NB1011_957 := bG BK957 hg; have NB958_1011 := bL BK958 hg; have NB1011_958 := bG BK958 hg; have NB1001_1011 := bL BK1001 hg; have NB1011_1001 := bG BK1001 hg; replace BK956 := bB BK956 hb; replace BK957 := bB BK957 hb; replace BK958 := bB BK958 hb; replace BK1001 := bB BK1001 hb; replace HB := bW HB hb; clear hb hbox hg; have hnb118 := NB1011_956.out; have hnc118 := NB956_1011.out; have hnb119 := NB1011_957.out; have hnc119 := NB957_1011.out; have hnb120 := NB1011_958.out; have hnc120 := NB958_1011.out; have hnb121 := NB1011_1001.out; have hnc121 := NB1001_1011.out; obtain ⟨hcz122_0, hcz122_1, hcz122_2, hcz122_3, hcz122_4, hcz122_5, hcz122_6, hcz122_7, hfz122_0, hfz122_1, hfz122_2, hfz122_3, hfz122_4, hfz122_5, hfz122_6, hfz122_7⟩ := bf8 (w := w117) BK1011; obtain ⟨hcz123_0, hcz123_1, hcz123_2, hcz123_3, hcz123_4, hcz123_5, hcz123_6, hcz123_7, hfz123_0, hfz123_1, hfz123_2, hfz123_3, hfz123_4, hfz123_5, hfz123_6, hfz123_7⟩ := bf8 (w := w117) BK1001) | ((with_reducible refine gate_callee (f := 21) rfl ?_); refine goesL_ (some 65) rfl rfl Try.func21 (by kernel_rfl) rfl #[.agg #[.string t993, .int .i64 t994, .float .f64 t995, .string t996, .int .i64 t997, .int .i64 t998, .float .f64 t999, .string t1000]] rfl (by (try simp only [List.map_toArray, List.map_cons, List.map_nil]); first | done | rfl | (simp only [List.length_drop, List.length_take]; rfl)) ?_; (with_reducible refine (cell_Commit.calls t993 t994 t995 t996 t997 t998 t999 t1000 t1012 t1013 t1014 t1015 t1016 t1017 t1018 t1019 true _ A83.out).mono ?_); rintro e w124 ⟨rfl, hb⟩; refine ⟨_, rfl, ?_⟩; replace BK956 := bB BK956 hb; replace BK957 := bB BK957 hb; replace BK958 := bB BK958 hb; replace BK1001 := bB BK1001 hb; replace BK1011 := Aside0.mk (blk_below (g := gb1011) (o := .cells #[.string t1002, .int .i64 t1003, .float .f64 t1004, .string t1005, .int .i64 t1006, .int .i64 t1007, .float .f64 t1008, .string t1009] 31 (0, 0)) (bR BK1011) hb); replace HB := bW HB hb; (try clear hb); (try clear hb2); (try clear hk); (try clear hi)) | ((with_reducible refine gate_dst (N := 13) rfl ?_); refine box_event ?hg (N := 13) ?hd (cs := #[.string (⟨#[]⟩ : ByteArray), .int .i64 0, .float .f64 0, .string (⟨#[]⟩ : ByteArray), .int .i64 0, .int .i64 0, .float .f64 0, .string (⟨#[]⟩ : ByteArray)]) (t := 31) ?hr ?_; (case hd => rfl); (case hg => rfl); (case hr => first | (go_simp; done) | (go_simp; rfl)); intro gb1021 hg w125 hbox hb; have BK1021 := Aside0.mk (hbox); have GW1021 := bZ HB hg; have GE1021 := bZ HB hg; have NB956_1021 := bL BK956 hg; have NB1021_956 := bG BK956 hg; have NB957_1021 := bL BK957 hg; have NB1021_957 := bG BK957 hg; have NB958_1021 := bL BK958 hg; have NB1021_958 := bG BK958 hg; have NB1001_1021 := bL BK1001 hg; have NB1021_1001 := bG BK1001 hg; have NB1011_1021 := bL BK1011 hg; have NB1021_1011 := bG BK1011 hg; replace BK956 := bB BK956 hb; replace BK957 := bB BK957 hb; replace BK958 := bB BK958 hb; replace BK1001 := bB BK1001 hb; replace BK1011 := bB BK1011 hb; replace HB := bW HB hb; clear hb hbox hg; have hnb126 := NB1021_956.out; have hnc126 := NB956_1021.out; have hnb127 := NB1021_957.out; have hnc127 := NB957_1021.out; have hnb128 := NB1021_958.out; have hnc128 := NB958_1021.out; have hnb129 := NB1021_1001.out; have hnc129 := NB1001_1021.out; have hnb130 := NB1021_1011.out; have hnc130 := NB1011_1021.out; obtain ⟨hcz131_0, hcz131_1, hcz131_2, hcz131_3, hcz131_4, hcz131_5, hcz131_6, hcz131_7, hfz131_0, hfz131_1, hfz131_2, hfz131_3, hfz131_4, hfz131_5, hfz131_6, hfz131_7⟩ := bf8 (w := w125) BK1021))
            have n0_ : Aside0 (((((((((w125.setCell ⟨gb1021, 0, none⟩ (.string t1012)).setCell ⟨gb1021, 1, none⟩ (.int .i64 t1013)).setCell ⟨gb1021, 2, none⟩ (.float .f64 t1014)).setCell ⟨gb1021, 3, none⟩ (.string t1015)).setCell ⟨gb1021, 4, none⟩ (.int .i64 t1016)).setCell ⟨gb1021, 5, none⟩ (.int .i64 t1017)).setCell ⟨gb1021, 6, none⟩ (.float .f64 t1018)).setCell ⟨gb1021, 7, none⟩ (.string t1019)).heap[gb956]? = some (.cells #[.string t960, .int .i64 t961, .float .f64 t962, .string t963, .int .i64 t964, .int .i64 t965, .float .f64 t966, .string t967] 26 (0, 0))) := bS BK956
            have n1_ : Aside0 (((((((((w125.setCell ⟨gb1021, 0, none⟩ (.string t1012)).setCell ⟨gb1021, 1, none⟩ (.int .i64 t1013)).setCell ⟨gb1021, 2, none⟩ (.float .f64 t1014)).setCell ⟨gb1021, 3, none⟩ (.string t1015)).setCell ⟨gb1021, 4, none⟩ (.int .i64 t1016)).setCell ⟨gb1021, 5, none⟩ (.int .i64 t1017)).setCell ⟨gb1021, 6, none⟩ (.float .f64 t1018)).setCell ⟨gb1021, 7, none⟩ (.string t1019)).heap[gb957]? = some (.cells #[.int .i64 t968, .float .f64 t969, .string t970] 24 (0, 0))) := bS BK957
            have n2_ : Aside0 (((((((((w125.setCell ⟨gb1021, 0, none⟩ (.string t1012)).setCell ⟨gb1021, 1, none⟩ (.int .i64 t1013)).setCell ⟨gb1021, 2, none⟩ (.float .f64 t1014)).setCell ⟨gb1021, 3, none⟩ (.string t1015)).setCell ⟨gb1021, 4, none⟩ (.int .i64 t1016)).setCell ⟨gb1021, 5, none⟩ (.int .i64 t1017)).setCell ⟨gb1021, 6, none⟩ (.float .f64 t1018)).setCell ⟨gb1021, 7, none⟩ (.string t1019)).heap[gb958]? = some (.cells #[.int .i64 t971, .float .f64 t972, .string t973] 24 (0, 0))) := bS BK958
            have n3_ : Aside0 (((((((((w125.setCell ⟨gb1021, 0, none⟩ (.string t1012)).setCell ⟨gb1021, 1, none⟩ (.int .i64 t1013)).setCell ⟨gb1021, 2, none⟩ (.float .f64 t1014)).setCell ⟨gb1021, 3, none⟩ (.string t1015)).setCell ⟨gb1021, 4, none⟩ (.int .i64 t1016)).setCell ⟨gb1021, 5, none⟩ (.int .i64 t1017)).setCell ⟨gb1021, 6, none⟩ (.float .f64 t1018)).setCell ⟨gb1021, 7, none⟩ (.string t1019)).heap[gb1001]? = some (.cells #[.string t993, .int .i64 t994, .float .f64 t995, .string t996, .int .i64 t997, .int .i64 t998, .float .f64 t999, .string t1000] 31 (0, 0))) := bS BK1001
            have n4_ : Aside0 (((((((((w125.setCell ⟨gb1021, 0, none⟩ (.string t1012)).setCell ⟨gb1021, 1, none⟩ (.int .i64 t1013)).setCell ⟨gb1021, 2, none⟩ (.float .f64 t1014)).setCell ⟨gb1021, 3, none⟩ (.string t1015)).setCell ⟨gb1021, 4, none⟩ (.int .i64 t1016)).setCell ⟨gb1021, 5, none⟩ (.int .i64 t1017)).setCell ⟨gb1021, 6, none⟩ (.float .f64 t1018)).setCell ⟨gb1021, 7, none⟩ (.string t1019)).heap[gb1011]? = some (.cells #[.string t1002, .int .i64 t1003, .float .f64 t1004, .string t1005, .int .i64 t1006, .int .i64 t1007, .float .f64 t1008, .string t1009] 31 (0, 0))) := bS BK1011
            have n5_ : Aside0 (((((((((w125.setCell ⟨gb1021, 0, none⟩ (.string t1012)).setCell ⟨gb1021, 1, none⟩ (.int .i64 t1013)).setCell ⟨gb1021, 2, none⟩ (.float .f64 t1014)).setCell ⟨gb1021, 3, none⟩ (.string t1015)).setCell ⟨gb1021, 4, none⟩ (.int .i64 t1016)).setCell ⟨gb1021, 5, none⟩ (.int .i64 t1017)).setCell ⟨gb1021, 6, none⟩ (.float .f64 t1018)).setCell ⟨gb1021, 7, none⟩ (.string t1019)).heap[gb1021]? = some (.cells #[.string t1012, .int .i64 t1013, .float .f64 t1014, .string t1015, .int .i64 t1016, .int .i64 t1017, .float .f64 t1018, .string t1019] 31 (0, 0))) := ⟨by (with_reducible repeat (first | refine blk_drewN ?_ _ | refine blk_drew ?_ | refine blk_alloc ?_ _)); refine blk_put (cs := #[.string t1012, .int .i64 t1013, .float .f64 t1014, .string t1015, .int .i64 t1016, .int .i64 t1017, .float .f64 t1018, .string (⟨#[]⟩ : ByteArray)]) ?_ 7 _ rfl; (with_reducible repeat (first | refine blk_drewN ?_ _ | refine blk_drew ?_ | refine blk_alloc ?_ _)); refine blk_put (cs := #[.string t1012, .int .i64 t1013, .float .f64 t1014, .string t1015, .int .i64 t1016, .int .i64 t1017, .float .f64 0, .string (⟨#[]⟩ : ByteArray)]) ?_ 6 _ rfl; (with_reducible repeat (first | refine blk_drewN ?_ _ | refine blk_drew ?_ | refine blk_alloc ?_ _)); refine blk_put (cs := #[.string t1012, .int .i64 t1013, .float .f64 t1014, .string t1015, .int .i64 t1016, .int .i64 0, .float .f64 0, .string (⟨#[]⟩ : ByteArray)]) ?_ 5 _ rfl; (with_reducible repeat (first | refine blk_drewN ?_ _ | refine blk_drew ?_ | refine blk_alloc ?_ _)); refine blk_put (cs := #[.string t1012, .int .i64 t1013, .float .f64 t1014, .string t1015, .int .i64 0, .int .i64 0, .float .f64 0, .string (⟨#[]⟩ : ByteArray)]) ?_ 4 _ rfl; (with_reducible repeat (first | refine blk_drewN ?_ _ | refine blk_drew ?_ | refine blk_alloc ?_ _)); refine blk_put (cs := #[.string t1012, .int .i64 t1013, .float .f64 t1014, .string (⟨#[]⟩ : ByteArray), .int .i64 0, .int .i64 0, .float .f64 0, .string (⟨#[]⟩ : ByteArray)]) ?_ 3 _ rfl; (with_reducible repeat (first | refine blk_drewN ?_ _ | refine blk_drew ?_ | refine blk_alloc ?_ _)); refine blk_put (cs := #[.string t1012, .int .i64 t1013, .float .f64 0, .string (⟨#[]⟩ : ByteArray), .int .i64 0, .int .i64 0, .float .f64 0, .string (⟨#[]⟩ : ByteArray)]) ?_ 2 _ rfl; (with_reducible repeat (first | refine blk_drewN ?_ _ | refine blk_drew ?_ | refine blk_alloc ?_ _)); refine blk_put (cs := #[.string t1012, .int .i64 0, .float .f64 0, .string (⟨#[]⟩ : ByteArray), .int .i64 0, .int .i64 0, .float .f64 0, .string (⟨#[]⟩ : ByteArray)]) ?_ 1 _ rfl; (with_reducible repeat (first | refine blk_drewN ?_ _ | refine blk_drew ?_ | refine blk_alloc ?_ _)); refine blk_put (cs := #[.string (⟨#[]⟩ : ByteArray), .int .i64 0, .float .f64 0, .string (⟨#[]⟩ : ByteArray), .int .i64 0, .int .i64 0, .float .f64 0, .string (⟨#[]⟩ : ByteArray)]) ?_ 0 _ rfl; (with_reducible repeat (first | refine blk_drewN ?_ _ | refine blk_drew ?_ | refine blk_alloc ?_ _)); exact BK1021.out⟩
            have n6_ : Aside0 (Below w.heap.size w ((((((((w125.setCell ⟨gb1021, 0, none⟩ (.string t1012)).setCell ⟨gb1021, 1, none⟩ (.int .i64 t1013)).setCell ⟨gb1021, 2, none⟩ (.float .f64 t1014)).setCell ⟨gb1021, 3, none⟩ (.string t1015)).setCell ⟨gb1021, 4, none⟩ (.int .i64 t1016)).setCell ⟨gb1021, 5, none⟩ (.int .i64 t1017)).setCell ⟨gb1021, 6, none⟩ (.float .f64 t1018)).setCell ⟨gb1021, 7, none⟩ (.string t1019))) := ⟨by repeat (first | (with_reducible first | exact HB.out | apply below_alloc | apply pw_below_drewN | apply below_drew1 | refine below_set ?_ GE956.out | refine below_set ?_ GE957.out | refine below_set ?_ GE958.out | refine below_set ?_ GE1001.out | refine below_set ?_ GE1011.out | refine below_set ?_ GE1021.out) | exact HB.out)⟩
            (try clear BK956)
            (try clear BK957)
            (try clear BK958)
            (try clear BK1001)
            (try clear BK1011)
            (try clear BK1021)
            (try clear HB)
            generalize ((((((((w125.setCell ⟨gb1021, 0, none⟩ (.string t1012)).setCell ⟨gb1021, 1, none⟩ (.int .i64 t1013)).setCell ⟨gb1021, 2, none⟩ (.float .f64 t1014)).setCell ⟨gb1021, 3, none⟩ (.string t1015)).setCell ⟨gb1021, 4, none⟩ (.int .i64 t1016)).setCell ⟨gb1021, 5, none⟩ (.int .i64 t1017)).setCell ⟨gb1021, 6, none⟩ (.float .f64 t1018)).setCell ⟨gb1021, 7, none⟩ (.string t1019)) = w132 at n0_ n1_ n2_ n3_ n4_ n5_ n6_ ⊢
            have BK956 := n0_
            have BK957 := n1_
            have BK958 := n2_
            have BK1001 := n3_
            have BK1011 := n4_
            have BK1021 := n5_
            have HB := n6_
            clear n0_ n1_ n2_ n3_ n4_ n5_ n6_
            replace BK956 := Aside0.mk (blk_drew BK956.out)
            replace BK957 := Aside0.mk (blk_drew BK957.out)
            replace BK958 := Aside0.mk (blk_drew BK958.out)
            replace BK1001 := Aside0.mk (blk_drew BK1001.out)
            replace BK1011 := Aside0.mk (blk_drew BK1011.out)
            replace BK1021 := Aside0.mk (blk_drew BK1021.out)
            replace HB := Aside0.mk (below_drew1 HB.out)
            refine start_ (n := 46) (S := fun w' => w'.cell? ⟨gb1011, 0, none⟩ = some (.string t1002) ∧ w'.cell? ⟨gb1011, 1, none⟩ = some (.int .i64 t1003) ∧ w'.cell? ⟨gb1011, 2, none⟩ = some (.float .f64 t1004) ∧ w'.cell? ⟨gb1011, 3, none⟩ = some (.string t1005) ∧ w'.cell? ⟨gb1011, 4, none⟩ = some (.int .i64 t1006) ∧ w'.cell? ⟨gb1011, 5, none⟩ = some (.int .i64 t1007) ∧ w'.cell? ⟨gb1011, 6, none⟩ = some (.float .f64 t1008) ∧ w'.cell? ⟨gb1011, 7, none⟩ = some (.string t1009) ∧ w'.cell? ⟨gb956, 0, none⟩ = some (.string t960) ∧ w'.cell? ⟨gb956, 1, none⟩ = some (.int .i64 t961) ∧ w'.cell? ⟨gb956, 2, none⟩ = some (.float .f64 t962) ∧ w'.cell? ⟨gb956, 3, none⟩ = some (.string t963) ∧ w'.cell? ⟨gb956, 4, none⟩ = some (.int .i64 t964) ∧ w'.cell? ⟨gb956, 5, none⟩ = some (.int .i64 t965) ∧ w'.cell? ⟨gb956, 6, none⟩ = some (.float .f64 t966) ∧ w'.cell? ⟨gb956, 7, none⟩ = some (.string t967) ∧ w'.cell? ⟨gb1001, 0, none⟩ = some (.string t993) ∧ w'.cell? ⟨gb1001, 1, none⟩ = some (.int .i64 t994) ∧ w'.cell? ⟨gb1001, 2, none⟩ = some (.float .f64 t995) ∧ w'.cell? ⟨gb1001, 3, none⟩ = some (.string t996) ∧ w'.cell? ⟨gb1001, 4, none⟩ = some (.int .i64 t997) ∧ w'.cell? ⟨gb1001, 5, none⟩ = some (.int .i64 t998) ∧ w'.cell? ⟨gb1001, 6, none⟩ = some (.float .f64 t999) ∧ w'.cell? ⟨gb1001, 7, none⟩ = some (.string t1000) ∧ w'.cell? ⟨gb958, 0, none⟩ = some (.int .i64 t971) ∧ w'.cell? ⟨gb958, 1, none⟩ = some (.float .f64 t972) ∧ w'.cell? ⟨gb958, 2, none⟩ = some (.string t973) ∧ w'.cell? ⟨gb1021, 0, none⟩ = some (.string t1012) ∧ w'.cell? ⟨gb1021, 1, none⟩ = some (.int .i64 t1013) ∧ w'.cell? ⟨gb1021, 2, none⟩ = some (.float .f64 t1014) ∧ w'.cell? ⟨gb1021, 3, none⟩ = some (.string t1015) ∧ w'.cell? ⟨gb1021, 4, none⟩ = some (.int .i64 t1016) ∧ w'.cell? ⟨gb1021, 5, none⟩ = some (.int .i64 t1017) ∧ w'.cell? ⟨gb1021, 6, none⟩ = some (.float .f64 t1018) ∧ w'.cell? ⟨gb1021, 7, none⟩ = some (.string t1019)) (ds := []) #[false, false, false, false, false, false, false, false, false, false, false, false, false, false, false, false, false, false, false, false, false, false, false, false, false, false, false, false, false, false, false, false, false, false, false, false, false, false, false, false, false, false, false, false, false, false] (by kernel_rfl) rfl rfl (bn8 BK1011 (bn8 BK956 (bn8 BK1001 (bn3 BK958 (be8 BK1021))))) (fun hHeld => ?_); refine with_tabW engrosslaw10_CellTwice.tab10 engrosslaw10_CellTwice.bits10 (fun HT_ HW_ => ?_)
            generalize w132.drew = w133 at BK956 BK957 BK958 BK1001 BK1011 BK1021 HB hHeld ⊢
            refine pure_ (i := 0) (N := some 68) (v := ?_) (a' := ?_) #[true, false, false, false, false, false, false, false, false, false, false, false, false, false, false, false, false, false, false, false, false, false, false, false, false, false, false, false, false, false, false, false, false, false, false, false, false, false, false, false, false, false, false, false, false, false] rfl rfl (any_of HT_.out (by kernel_rfl)) (fun _ _ _ h => h) (Or.inl ⟨by rfl, ?_⟩) ?_ ?_
            rotate_left
            ·intro w'
             go_simp
             with_reducible rfl
            rotate_left
            ·simp only [Act.put, List.setIfInBounds_toArray, List.set_cons_zero, List.set_cons_succ, i64_w, i32_w]
             rfl
            refine pure_ (i := 1) (N := some 69) (v := ?_) (a' := ?_) #[true, true, false, false, false, false, false, false, false, false, false, false, false, false, false, false, false, false, false, false, false, false, false, false, false, false, false, false, false, false, false, false, false, false, false, false, false, false, false, false, false, false, false, false, false, false] rfl rfl (any_of HT_.out (by kernel_rfl)) (fun _ _ _ h => h) (Or.inl ⟨by rfl, ?_⟩) ?_ ?_
            rotate_left
            ·intro w'
             go_simp
             with_reducible rfl
            rotate_left
            ·simp only [Act.put, List.setIfInBounds_toArray, List.set_cons_zero, List.set_cons_succ, i64_w, i32_w]
             rfl
            refine take_ (i := 2) (N := some 70) (v := ?_) (a' := ?_) #[true, true, true, false, false, false, false, false, false, false, false, false, false, false, false, false, false, false, false, false, false, false, false, false, false, false, false, false, false, false, false, false, false, false, false, false, false, false, false, false, false, false, false, false, false, false] rfl rfl (take_ofW HT_.out HW_.out (by kernel_rfl)) (fun _ _ _ h => h) (Or.inl ⟨by rfl, ?_⟩) hHeld ?_ ?_
            rotate_left
            ·rintro w' ⟨s0, s1, s2, s3, s4, s5, s6, s7, s8, s9, s10, s11, s12, s13, s14, s15, s16, s17, s18, s19, s20, s21, s22, s23, s24, s25, s26, s27, s28, s29, s30, s31, s32, s33, s34⟩
             go_simp
             with_reducible rfl
            rotate_left
            ·simp only [Act.put, List.setIfInBounds_toArray, List.set_cons_zero, List.set_cons_succ, i64_w, i32_w]
             rfl
            refine take_ (i := 3) (N := some 71) (v := ?_) (a' := ?_) #[true, true, true, true, false, false, false, false, false, false, false, false, false, false, false, false, false, false, false, false, false, false, false, false, false, false, false, false, false, false, false, false, false, false, false, false, false, false, false, false, false, false, false, false, false, false] rfl rfl (take_ofW HT_.out HW_.out (by kernel_rfl)) (fun _ _ _ h => h) (Or.inl ⟨by rfl, ?_⟩) hHeld ?_ ?_
            rotate_left
            ·rintro w' ⟨s0, s1, s2, s3, s4, s5, s6, s7, s8, s9, s10, s11, s12, s13, s14, s15, s16, s17, s18, s19, s20, s21, s22, s23, s24, s25, s26, s27, s28, s29, s30, s31, s32, s33, s34⟩
             go_simp
             with_reducible rfl
            rotate_left
            ·simp only [Act.put, List.setIfInBounds_toArray, List.set_cons_zero, List.set_cons_succ, i64_w, i32_w]
             rfl
            refine one_ (i := 4) (N := some 72) #[true, true, true, true, true, false, false, false, false, false, false, false, false, false, false, false, false, false, false, false, false, false, false, false, false, false, false, false, false, false, false, false, false, false, false, false, false, false, false, false, false, false, false, false, false, false] rfl rfl (one_of HT_.out (by kernel_rfl)) (by decide) (fun K hK => ?_)
            refine goes_ Try.func14 (by kernel_rfl) rfl #[.agg #[.string t960, .int .i64 t961, .float .f64 t962, .string t963, .int .i64 t964, .int .i64 t965, .float .f64 t966, .string t967]] (by rfl) rfl rfl (by (try simp only [List.map_toArray, List.map_cons, List.map_nil]); first | done | rfl | (simp only [List.length_drop, List.length_take]; rfl)) ?_
            with_reducible refine (engrosslaw10_Of.calls t960 t961 t962 t963 t964 t965 t966 t967 t977 t978 t979 t980 t981 t982 t983 t984 _ A85.out).mono ?_
            rintro e w134 ⟨rfl, hb⟩
            refine ⟨_, rfl, ?_⟩
            replace BK956 := bB BK956 hb
            replace BK957 := bB BK957 hb
            replace BK958 := bB BK958 hb
            replace BK1001 := bB BK1001 hb
            replace BK1011 := bB BK1011 hb
            replace BK1021 := bB BK1021 hb
            replace HB := bW HB hb
            (try clear hb)
            (try clear hb2)
            (try clear hk)
            (try clear hi)
            refine hK.out _ _ (bn8 BK1011 (bn8 BK956 (bn8 BK1001 (bn3 BK958 (be8 BK1021))))) (fun hHeld => ?_)
            clear hK K
            refine norm_ (a' := ?_) ?_ ?_
            rotate_left
            ·show Act.put _ (some 72) _ = _
             simp only [Act.put, List.setIfInBounds_toArray, List.set_cons_zero, List.set_cons_succ, i64_w, i32_w]
             rfl
            refine one_ (i := 5) (N := some 73) #[true, true, true, true, true, true, false, false, false, false, false, false, false, false, false, false, false, false, false, false, false, false, false, false, false, false, false, false, false, false, false, false, false, false, false, false, false, false, false, false, false, false, false, false, false, false] rfl rfl (one_of HT_.out (by kernel_rfl)) (by decide) (fun K hK => ?_)
            refine goes_ Try.func19 (by kernel_rfl) rfl #[.agg #[.string t1002, .int .i64 t1003, .float .f64 t1004, .string t1005, .int .i64 t1006, .int .i64 t1007, .float .f64 t1008, .string t1009], .agg #[.string t977, .int .i64 t978, .float .f64 t979, .string t980, .int .i64 t981, .int .i64 t982, .float .f64 t983, .string t984]] (by rfl) rfl rfl (by (try simp only [List.map_toArray, List.map_cons, List.map_nil]); first | done | rfl | (simp only [List.length_drop, List.length_take]; rfl)) ?_
            with_reducible refine (cell_Eq.calls t1002 t1003 t1004 t1005 t1006 t1007 t1008 t1009 t977 t978 t979 t980 t981 t982 t983 t984 true _ A86.out).mono ?_
            rintro e w135 ⟨rfl, hb⟩
            refine ⟨_, rfl, ?_⟩
            replace BK956 := bB BK956 hb
            replace BK957 := bB BK957 hb
            replace BK958 := bB BK958 hb
            replace BK1001 := bB BK1001 hb
            replace BK1011 := bB BK1011 hb
            replace BK1021 := bB BK1021 hb
            replace HB := bW HB hb
            (try clear hb)
            (try clear hb2)
            (try clear hk)
            (try clear hi)
            refine hK.out _ _ (bn8 BK1011 (bn8 BK956 (bn8 BK1001 (bn3 BK958 (be8 BK1021))))) (fun hHeld => ?_)
            clear hK K
            refine norm_ (a' := ?_) ?_ ?_
            rotate_left
            ·show Act.put _ (some 73) _ = _
             simp only [Act.put, List.setIfInBounds_toArray, List.set_cons_zero, List.set_cons_succ, i64_w, i32_w]
             rfl
            refine pure_ (i := 6) (N := some 74) (v := ?_) (a' := ?_) #[true, true, true, true, true, true, true, false, false, false, false, false, false, false, false, false, false, false, false, false, false, false, false, false, false, false, false, false, false, false, false, false, false, false, false, false, false, false, false, false, false, false, false, false, false, false] rfl rfl (any_of HT_.out (by kernel_rfl)) (fun _ _ _ h => h) (Or.inl ⟨by rfl, ?_⟩) ?_ ?_
            rotate_left
            ·intro w'
             go_simp
             with_reducible rfl
            rotate_left
            ·simp only [Act.put, List.setIfInBounds_toArray, List.set_cons_zero, List.set_cons_succ, i64_w, i32_w]
             rfl
            refine pure_ (i := 7) (N := some 75) (v := ?_) (a' := ?_) #[true, true, true, true, true, true, true, true, false, false, false, false, false, false, false, false, false, false, false, false, false, false, false, false, false, false, false, false, false, false, false, false, false, false, false, false, false, false, false, false, false, false, false, false, false, false] rfl rfl (any_of HT_.out (by kernel_rfl)) (fun _ _ _ h => h) (Or.inl ⟨by rfl, ?_⟩) ?_ ?_
            rotate_left
            ·intro w'
             go_simp
             with_reducible rfl
            rotate_left
            ·simp only [Act.put, List.setIfInBounds_toArray, List.set_cons_zero, List.set_cons_succ, i64_w, i32_w]
             rfl
            refine pure_ (i := 9) (N := some 77) (v := ?_) (a' := ?_) #[true, true, true, true, true, true, true, true, false, true, false, false, false, false, false, false, false, false, false, false, false, false, false, false, false, false, false, false, false, false, false, false, false, false, false, false, false, false, false, false, false, false, false, false, false, false] rfl rfl (any_of HT_.out (by kernel_rfl)) (fun _ _ _ h => h) (Or.inl ⟨by rfl, ?_⟩) ?_ ?_
            rotate_left
            ·intro w'
             go_simp
             with_reducible rfl
            rotate_left
            ·simp only [Act.put, List.setIfInBounds_toArray, List.set_cons_zero, List.set_cons_succ, i64_w, i32_w]
             rfl
            refine take_ (i := 8) (N := some 76) (v := ?_) (a' := ?_) #[true, true, true, true, true, true, true, true, true, true, false, false, false, false, false, false, false, false, false, false, false, false, false, false, false, false, false, false, false, false, false, false, false, false, false, false, false, false, false, false, false, false, false, false, false, false] rfl rfl (take_ofW HT_.out HW_.out (by kernel_rfl)) (fun _ _ _ h => h) (Or.inl ⟨by rfl, ?_⟩) hHeld ?_ ?_
            rotate_left
            ·rintro w' ⟨s0, s1, s2, s3, s4, s5, s6, s7, s8, s9, s10, s11, s12, s13, s14, s15, s16, s17, s18, s19, s20, s21, s22, s23, s24, s25, s26, s27, s28, s29, s30, s31, s32, s33, s34⟩
             go_simp
             with_reducible rfl
            rotate_left
            ·simp only [Act.put, List.setIfInBounds_toArray, List.set_cons_zero, List.set_cons_succ, i64_w, i32_w]
             rfl
            refine take_ (i := 11) (N := some 79) (v := ?_) (a' := ?_) #[true, true, true, true, true, true, true, true, true, true, false, true, false, false, false, false, false, false, false, false, false, false, false, false, false, false, false, false, false, false, false, false, false, false, false, false, false, false, false, false, false, false, false, false, false, false] rfl rfl (take_ofW HT_.out HW_.out (by kernel_rfl)) (fun _ _ _ h => h) (Or.inl ⟨by rfl, ?_⟩) hHeld ?_ ?_
            rotate_left
            ·rintro w' ⟨s0, s1, s2, s3, s4, s5, s6, s7, s8, s9, s10, s11, s12, s13, s14, s15, s16, s17, s18, s19, s20, s21, s22, s23, s24, s25, s26, s27, s28, s29, s30, s31, s32, s33, s34⟩
             go_simp
             with_reducible rfl
            rotate_left
            ·simp only [Act.put, List.setIfInBounds_toArray, List.set_cons_zero, List.set_cons_succ, i64_w, i32_w]
             rfl
            refine one_ (i := 10) (N := some 78) #[true, true, true, true, true, true, true, true, true, true, true, true, false, false, false, false, false, false, false, false, false, false, false, false, false, false, false, false, false, false, false, false, false, false, false, false, false, false, false, false, false, false, false, false, false, false] rfl rfl (one_of HT_.out (by kernel_rfl)) (by decide) (fun K hK => ?_)
            refine goes_ Try.func17 (by kernel_rfl) rfl #[.agg #[.string t993, .int .i64 t994, .float .f64 t995, .string t996, .int .i64 t997, .int .i64 t998, .float .f64 t999, .string t1000], .int .i64 a1] (by rfl) rfl rfl (by (try simp only [List.map_toArray, List.map_cons, List.map_nil]); first | done | rfl | (simp only [List.length_drop, List.length_take]; rfl)) ?_
            with_reducible refine (cell_See.calls t993 t994 t995 t996 t997 t998 t999 t1000 a1 t1031 t1032 t1033 _ A88.out).mono ?_
            rintro e w136 ⟨rfl, hb⟩
            refine ⟨_, rfl, ?_⟩
            replace BK956 := bB BK956 hb
            replace BK957 := bB BK957 hb
            replace BK958 := bB BK958 hb
            replace BK1001 := bB BK1001 hb
            replace BK1011 := bB BK1011 hb
            replace BK1021 := bB BK1021 hb
            replace HB := bW HB hb
            (try clear hb)
            (try clear hb2)
            (try clear hk)
            (try clear hi)
            refine hK.out _ _ (bn8 BK1011 (bn8 BK956 (bn8 BK1001 (bn3 BK958 (be8 BK1021))))) (fun hHeld => ?_)
            clear hK K
            refine norm_ (a' := ?_) ?_ ?_
            rotate_left
            ·show Act.put _ (some 78) _ = _
             simp only [Act.put, List.setIfInBounds_toArray, List.set_cons_zero, List.set_cons_succ, i64_w, i32_w]
             rfl
            refine one_ (i := 12) (N := some 80) #[true, true, true, true, true, true, true, true, true, true, true, true, true, false, false, false, false, false, false, false, false, false, false, false, false, false, false, false, false, false, false, false, false, false, false, false, false, false, false, false, false, false, false, false, false, false] rfl rfl (one_of HT_.out (by kernel_rfl)) (by decide) (fun K hK => ?_)
            refine goes_ Try.func16 (by kernel_rfl) rfl #[.agg #[.int .i64 t1031, .float .f64 t1032, .string t1033], .agg #[.int .i64 t971, .float .f64 t972, .string t973]] (by rfl) rfl rfl (by (try simp only [List.map_toArray, List.map_cons, List.map_nil]); first | done | rfl | (simp only [List.length_drop, List.length_take]; rfl)) ?_
            with_reducible refine (engrossref1_EqVal.calls t1031 t1032 t1033 t971 t972 t973 true _ A89.out).mono ?_
            rintro e w137 ⟨rfl, hb⟩
            refine ⟨_, rfl, ?_⟩
            replace BK956 := bB BK956 hb
            replace BK957 := bB BK957 hb
            replace BK958 := bB BK958 hb
            replace BK1001 := bB BK1001 hb
            replace BK1011 := bB BK1011 hb
            replace BK1021 := bB BK1021 hb
            replace HB := bW HB hb
            (try clear hb)
            (try clear hb2)
            (try clear hk)
            (try clear hi)
            refine hK.out _ _ (bn8 BK1011 (bn8 BK956 (bn8 BK1001 (bn3 BK958 (be8 BK1021))))) (fun hHeld => ?_)
            clear hK K
            refine norm_ (a' := ?_) ?_ ?_
            rotate_left
            ·show Act.put _ (some 80) _ = _
             simp only [Act.put, List.setIfInBounds_toArray, List.set_cons_zero, List.set_cons_succ, i64_w, i32_w]
             rfl
            refine pure_ (i := 13) (N := some 81) (v := ?_) (a' := ?_) #[true, true, true, true, true, true, true, true, true, true, true, true, true, true, false, false, false, false, false, false, false, false, false, false, false, false, false, false, false, false, false, false, false, false, false, false, false, false, false, false, false, false, false, false, false, false] rfl rfl (any_of HT_.out (by kernel_rfl)) (fun _ _ _ h => h) (Or.inl ⟨by rfl, ?_⟩) ?_ ?_
            rotate_left
            ·intro w'
             go_simp
             with_reducible rfl
            rotate_left
            ·simp only [Act.put, List.setIfInBounds_toArray, List.set_cons_zero, List.set_cons_succ, i64_w, i32_w]
             rfl
            refine pure_ (i := 14) (N := some 82) (v := ?_) (a' := ?_) #[true, true, true, true, true, true, true, true, true, true, true, true, true, true, true, false, false, false, false, false, false, false, false, false, false, false, false, false, false, false, false, false, false, false, false, false, false, false, false, false, false, false, false, false, false, false] rfl rfl (any_of HT_.out (by kernel_rfl)) (fun _ _ _ h => h) (Or.inl ⟨by rfl, ?_⟩) ?_ ?_
            rotate_left
            ·intro w'
             go_simp
             with_reducible rfl
            rotate_left
            ·simp only [Act.put, List.setIfInBounds_toArray, List.set_cons_zero, List.set_cons_succ, i64_w, i32_w]
             rfl
            refine pure_ (i := 16) (N := some 84) (v := ?_) (a' := ?_) #[true, true, true, true, true, true, true, true, true, true, true, true, true, true, true, false, true, false, false, false, false, false, false, false, false, false, false, false, false, false, false, false, false, false, false, false, false, false, false, false, false, false, false, false, false, false] rfl rfl (any_of HT_.out (by kernel_rfl)) (fun _ _ _ h => h) (Or.inl ⟨by rfl, ?_⟩) ?_ ?_
            rotate_left
            ·intro w'
             go_simp
             with_reducible rfl
            rotate_left
            ·simp only [Act.put, List.setIfInBounds_toArray, List.set_cons_zero, List.set_cons_succ, i64_w, i32_w]
             rfl
            refine pure_ (i := 17) (N := some 85) (v := ?_) (a' := ?_) #[true, true, true, true, true, true, true, true, true, true, true, true, true, true, true, false, true, true, false, false, false, false, false, false, false, false, false, false, false, false, false, false, false, false, false, false, false, false, false, false, false, false, false, false, false, false] rfl rfl (any_of HT_.out (by kernel_rfl)) (fun _ _ _ h => h) (Or.inl ⟨by rfl, ?_⟩) ?_ ?_
            rotate_left
            ·intro w'
             go_simp
             with_reducible rfl
            rotate_left
            ·simp only [Act.put, List.setIfInBounds_toArray, List.set_cons_zero, List.set_cons_succ, i64_w, i32_w]
             rfl
            refine pure_ (i := 19) (N := some 87) (v := ?_) (a' := ?_) #[true, true, true, true, true, true, true, true, true, true, true, true, true, true, true, false, true, true, false, true, false, false, false, false, false, false, false, false, false, false, false, false, false, false, false, false, false, false, false, false, false, false, false, false, false, false] rfl rfl (any_of HT_.out (by kernel_rfl)) (fun _ _ _ h => h) (Or.inl ⟨by rfl, ?_⟩) ?_ ?_
            rotate_left
            ·intro w'
             go_simp
             with_reducible rfl
            rotate_left
            ·simp only [Act.put, List.setIfInBounds_toArray, List.set_cons_zero, List.set_cons_succ, i64_w, i32_w]
             rfl
            refine take_ (i := 15) (N := some 83) (v := ?_) (a' := ?_) #[true, true, true, true, true, true, true, true, true, true, true, true, true, true, true, true, true, true, false, true, false, false, false, false, false, false, false, false, false, false, false, false, false, false, false, false, false, false, false, false, false, false, false, false, false, false] rfl rfl (take_ofW HT_.out HW_.out (by kernel_rfl)) (fun _ _ _ h => h) (Or.inl ⟨by rfl, ?_⟩) hHeld ?_ ?_
            rotate_left
            ·rintro w' ⟨s0, s1, s2, s3, s4, s5, s6, s7, s8, s9, s10, s11, s12, s13, s14, s15, s16, s17, s18, s19, s20, s21, s22, s23, s24, s25, s26, s27, s28, s29, s30, s31, s32, s33, s34⟩
             go_simp
             with_reducible rfl
            rotate_left
            ·simp only [Act.put, List.setIfInBounds_toArray, List.set_cons_zero, List.set_cons_succ, i64_w, i32_w]
             rfl
            refine take_ (i := 20) (N := some 88) (v := ?_) (a' := ?_) #[true, true, true, true, true, true, true, true, true, true, true, true, true, true, true, true, true, true, false, true, true, false, false, false, false, false, false, false, false, false, false, false, false, false, false, false, false, false, false, false, false, false, false, false, false, false] rfl rfl (take_ofW HT_.out HW_.out (by kernel_rfl)) (fun _ _ _ h => h) (Or.inl ⟨by rfl, ?_⟩) hHeld ?_ ?_
            rotate_left
            ·rintro w' ⟨s0, s1, s2, s3, s4, s5, s6, s7, s8, s9, s10, s11, s12, s13, s14, s15, s16, s17, s18, s19, s20, s21, s22, s23, s24, s25, s26, s27, s28, s29, s30, s31, s32, s33, s34⟩
             go_simp
             with_reducible rfl
            rotate_left
            ·simp only [Act.put, List.setIfInBounds_toArray, List.set_cons_zero, List.set_cons_succ, i64_w, i32_w]
             rfl
            refine one_ (i := 18) (N := some 86) #[true, true, true, true, true, true, true, true, true, true, true, true, true, true, true, true, true, true, true, true, true, false, false, false, false, false, false, false, false, false, false, false, false, false, false, false, false, false, false, false, false, false, false, false, false, false] rfl rfl (one_of HT_.out (by kernel_rfl)) (by decide) (fun K hK => ?_)
            refine goes_ Try.func17 (by kernel_rfl) rfl #[.agg #[.string t993, .int .i64 t994, .float .f64 t995, .string t996, .int .i64 t997, .int .i64 t998, .float .f64 t999, .string t1000], .int .i64 (wrap64 (a1 + 1))] (by rfl) rfl rfl (by (try simp only [List.map_toArray, List.map_cons, List.map_nil]); first | done | rfl | (simp only [List.length_drop, List.length_take]; rfl)) ?_
            with_reducible refine (cell_See.calls t993 t994 t995 t996 t997 t998 t999 t1000 (wrap64 (a1 + 1)) t1035 t1036 t1037 _ A91.out).mono ?_
            rintro e w138 ⟨rfl, hb⟩
            refine ⟨_, rfl, ?_⟩
            replace BK956 := bB BK956 hb
            replace BK957 := bB BK957 hb
            replace BK958 := bB BK958 hb
            replace BK1001 := bB BK1001 hb
            replace BK1011 := bB BK1011 hb
            replace BK1021 := bB BK1021 hb
            replace HB := bW HB hb
            (try clear hb)
            (try clear hb2)
            (try clear hk)
            (try clear hi)
            refine hK.out _ _ (bn8 BK1011 (bn8 BK956 (bn8 BK1001 (bn3 BK958 (be8 BK1021))))) (fun hHeld => ?_)
            clear hK K
            refine norm_ (a' := ?_) ?_ ?_
            rotate_left
            ·show Act.put _ (some 86) _ = _
             simp only [Act.put, List.setIfInBounds_toArray, List.set_cons_zero, List.set_cons_succ, i64_w, i32_w]
             rfl
            refine one_ (i := 21) (N := some 89) #[true, true, true, true, true, true, true, true, true, true, true, true, true, true, true, true, true, true, true, true, true, true, false, false, false, false, false, false, false, false, false, false, false, false, false, false, false, false, false, false, false, false, false, false, false, false] rfl rfl (one_of HT_.out (by kernel_rfl)) (by decide) (fun K hK => ?_)
            refine goes_ Try.func16 (by kernel_rfl) rfl #[.agg #[.int .i64 t1035, .float .f64 t1036, .string t1037], .agg #[.int .i64 t961, .float .f64 t962, .string t963]] (by rfl) rfl rfl (by (try simp only [List.map_toArray, List.map_cons, List.map_nil]); first | done | rfl | (simp only [List.length_drop, List.length_take]; rfl)) ?_
            with_reducible refine (engrossref1_EqVal.calls t1035 t1036 t1037 t961 t962 t963 true _ A92.out).mono ?_
            rintro e w139 ⟨rfl, hb⟩
            refine ⟨_, rfl, ?_⟩
            replace BK956 := bB BK956 hb
            replace BK957 := bB BK957 hb
            replace BK958 := bB BK958 hb
            replace BK1001 := bB BK1001 hb
            replace BK1011 := bB BK1011 hb
            replace BK1021 := bB BK1021 hb
            replace HB := bW HB hb
            (try clear hb)
            (try clear hb2)
            (try clear hk)
            (try clear hi)
            refine hK.out _ _ (bn8 BK1011 (bn8 BK956 (bn8 BK1001 (bn3 BK958 (be8 BK1021))))) (fun hHeld => ?_)
            clear hK K
            refine norm_ (a' := ?_) ?_ ?_
            rotate_left
            ·show Act.put _ (some 89) _ = _
             simp only [Act.put, List.setIfInBounds_toArray, List.set_cons_zero, List.set_cons_succ, i64_w, i32_w]
             rfl
            refine pure_ (i := 22) (N := some 90) (v := ?_) (a' := ?_) #[true, true, true, true, true, true, true, true, true, true, true, true, true, true, true, true, true, true, true, true, true, true, true, false, false, false, false, false, false, false, false, false, false, false, false, false, false, false, false, false, false, false, false, false, false, false] rfl rfl (any_of HT_.out (by kernel_rfl)) (fun _ _ _ h => h) (Or.inl ⟨by rfl, ?_⟩) ?_ ?_
            rotate_left
            ·intro w'
             go_simp
             with_reducible rfl
            rotate_left
            ·simp only [Act.put, List.setIfInBounds_toArray, List.set_cons_zero, List.set_cons_succ, i64_w, i32_w]
             rfl
            refine pure_ (i := 23) (N := some 91) (v := ?_) (a' := ?_) #[true, true, true, true, true, true, true, true, true, true, true, true, true, true, true, true, true, true, true, true, true, true, true, true, false, false, false, false, false, false, false, false, false, false, false, false, false, false, false, false, false, false, false, false, false, false] rfl rfl (any_of HT_.out (by kernel_rfl)) (fun _ _ _ h => h) (Or.inl ⟨by rfl, ?_⟩) ?_ ?_
            rotate_left
            ·intro w'
             go_simp
             with_reducible rfl
            rotate_left
            ·simp only [Act.put, List.setIfInBounds_toArray, List.set_cons_zero, List.set_cons_succ, i64_w, i32_w]
             rfl
            refine pure_ (i := 24) (N := some 92) (v := ?_) (a' := ?_) #[true, true, true, true, true, true, true, true, true, true, true, true, true, true, true, true, true, true, true, true, true, true, true, true, true, false, false, false, false, false, false, false, false, false, false, false, false, false, false, false, false, false, false, false, false, false] rfl rfl (any_of HT_.out (by kernel_rfl)) (fun _ _ _ h => h) (Or.inl ⟨by rfl, ?_⟩) ?_ ?_
            rotate_left
            ·intro w'
             go_simp
             with_reducible rfl
            rotate_left
            ·simp only [Act.put, List.setIfInBounds_toArray, List.set_cons_zero, List.set_cons_succ, i64_w, i32_w]
             rfl
            refine pure_ (i := 25) (N := some 93) (v := ?_) (a' := ?_) #[true, true, true, true, true, true, true, true, true, true, true, true, true, true, true, true, true, true, true, true, true, true, true, true, true, true, false, false, false, false, false, false, false, false, false, false, false, false, false, false, false, false, false, false, false, false] rfl rfl (any_of HT_.out (by kernel_rfl)) (fun _ _ _ h => h) (Or.inl ⟨by rfl, ?_⟩) ?_ ?_
            rotate_left
            ·intro w'
             go_simp
             with_reducible rfl
            rotate_left
            ·simp only [Act.put, List.setIfInBounds_toArray, List.set_cons_zero, List.set_cons_succ, i64_w, i32_w]
             rfl
            refine take_ (i := 26) (N := some 94) (v := ?_) (a' := ?_) #[true, true, true, true, true, true, true, true, true, true, true, true, true, true, true, true, true, true, true, true, true, true, true, true, true, true, true, false, false, false, false, false, false, false, false, false, false, false, false, false, false, false, false, false, false, false] rfl rfl (take_ofW HT_.out HW_.out (by kernel_rfl)) (fun _ _ _ h => h) (Or.inl ⟨by rfl, ?_⟩) hHeld ?_ ?_
            rotate_left
            ·rintro w' ⟨s0, s1, s2, s3, s4, s5, s6, s7, s8, s9, s10, s11, s12, s13, s14, s15, s16, s17, s18, s19, s20, s21, s22, s23, s24, s25, s26, s27, s28, s29, s30, s31, s32, s33, s34⟩
             go_simp
             with_reducible rfl
            rotate_left
            ·simp only [Act.put, List.setIfInBounds_toArray, List.set_cons_zero, List.set_cons_succ, i64_w, i32_w]
             rfl
            refine pure_ (i := 27) (N := some 95) (v := ?_) (a' := ?_) #[true, true, true, true, true, true, true, true, true, true, true, true, true, true, true, true, true, true, true, true, true, true, true, true, true, true, true, true, false, false, false, false, false, false, false, false, false, false, false, false, false, false, false, false, false, false] rfl rfl (any_of HT_.out (by kernel_rfl)) (fun _ _ _ h => h) (Or.inl ⟨by rfl, ?_⟩) ?_ ?_
            rotate_left
            ·intro w'
             go_simp
             with_reducible rfl
            rotate_left
            ·simp only [Act.put, List.setIfInBounds_toArray, List.set_cons_zero, List.set_cons_succ, i64_w, i32_w]
             rfl
            refine pure_ (i := 28) (N := some 96) (v := ?_) (a' := ?_) #[true, true, true, true, true, true, true, true, true, true, true, true, true, true, true, true, true, true, true, true, true, true, true, true, true, true, true, true, true, false, false, false, false, false, false, false, false, false, false, false, false, false, false, false, false, false] rfl rfl (any_of HT_.out (by kernel_rfl)) (fun _ _ _ h => h) (Or.inl ⟨by rfl, ?_⟩) ?_ ?_
            rotate_left
            ·intro w'
             go_simp
             with_reducible rfl
            rotate_left
            ·simp only [Act.put, List.setIfInBounds_toArray, List.set_cons_zero, List.set_cons_succ, i64_w, i32_w]
             rfl
            refine pure_ (i := 29) (N := some 97) (v := ?_) (a' := ?_) #[true, true, true, true, true, true, true, true, true, true, true, true, true, true, true, true, true, true, true, true, true, true, true, true, true, true, true, true, true, true, false, false, false, false, false, false, false, false, false, false, false, false, false, false, false, false] rfl rfl (any_of HT_.out (by kernel_rfl)) (fun _ _ _ h => h) (Or.inl ⟨by rfl, ?_⟩) ?_ ?_
            rotate_left
            ·intro w'
             go_simp
             with_reducible rfl
            rotate_left
            ·simp only [Act.put, List.setIfInBounds_toArray, List.set_cons_zero, List.set_cons_succ, i64_w, i32_w]
             rfl
            refine pure_ (i := 30) (N := some 98) (v := ?_) (a' := ?_) #[true, true, true, true, true, true, true, true, true, true, true, true, true, true, true, true, true, true, true, true, true, true, true, true, true, true, true, true, true, true, true, false, false, false, false, false, false, false, false, false, false, false, false, false, false, false] rfl rfl (any_of HT_.out (by kernel_rfl)) (fun _ _ _ h => h) (Or.inl ⟨by rfl, ?_⟩) ?_ ?_
            rotate_left
            ·intro w'
             go_simp
             with_reducible rfl
            rotate_left
            ·simp only [Act.put, List.setIfInBounds_toArray, List.set_cons_zero, List.set_cons_succ, i64_w, i32_w]
             rfl
            refine pure_ (i := 31) (N := some 99) (v := ?_) (a' := ?_) #[true, true, true, true, true, true, true, true, true, true, true, true, true, true, true, true, true, true, true, true, true, true, true, true, true, true, true, true, true, true, true, true, false, false, false, false, false, false, false, false, false, false, false, false, false, false] rfl rfl (any_of HT_.out (by kernel_rfl)) (fun _ _ _ h => h) (Or.inl ⟨by rfl, ?_⟩) ?_ ?_
            rotate_left
            ·intro w'
             go_simp
             with_reducible rfl
            rotate_left
            ·simp only [Act.put, List.setIfInBounds_toArray, List.set_cons_zero, List.set_cons_succ, i64_w, i32_w]
             rfl
            refine pure_ (i := 32) (N := some 100) (v := ?_) (a' := ?_) #[true, true, true, true, true, true, true, true, true, true, true, true, true, true, true, true, true, true, true, true, true, true, true, true, true, true, true, true, true, true, true, true, true, false, false, false, false, false, false, false, false, false, false, false, false, false] rfl rfl (any_of HT_.out (by kernel_rfl)) (fun _ _ _ h => h) (Or.inl ⟨by rfl, ?_⟩) ?_ ?_
            rotate_left
            ·intro w'
             go_simp
             with_reducible rfl
            rotate_left
            ·simp only [Act.put, List.setIfInBounds_toArray, List.set_cons_zero, List.set_cons_succ, i64_w, i32_w]
             rfl
            refine pure_ (i := 33) (N := some 101) (v := ?_) (a' := ?_) #[true, true, true, true, true, true, true, true, true, true, true, true, true, true, true, true, true, true, true, true, true, true, true, true, true, true, true, true, true, true, true, true, true, true, false, false, false, false, false, false, false, false, false, false, false, false] rfl rfl (any_of HT_.out (by kernel_rfl)) (fun _ _ _ h => h) (Or.inl ⟨by rfl, ?_⟩) ?_ ?_
            rotate_left
            ·intro w'
             go_simp
             with_reducible rfl
            rotate_left
            ·simp only [Act.put, List.setIfInBounds_toArray, List.set_cons_zero, List.set_cons_succ, i64_w, i32_w]
             rfl
            refine pure_ (i := 34) (N := some 102) (v := ?_) (a' := ?_) #[true, true, true, true, true, true, true, true, true, true, true, true, true, true, true, true, true, true, true, true, true, true, true, true, true, true, true, true, true, true, true, true, true, true, true, false, false, false, false, false, false, false, false, false, false, false] rfl rfl (any_of HT_.out (by kernel_rfl)) (fun _ _ _ h => h) (Or.inl ⟨by rfl, ?_⟩) ?_ ?_
            rotate_left
            ·intro w'
             go_simp
             with_reducible rfl
            rotate_left
            ·simp only [Act.put, List.setIfInBounds_toArray, List.set_cons_zero, List.set_cons_succ, i64_w, i32_w]
             rfl
            refine take_ (i := 35) (N := some 103) (v := ?_) (a' := ?_) #[true, true, true, true, true, true, true, true, true, true, true, true, true, true, true, true, true, true, true, true, true, true, true, true, true, true, true, true, true, true, true, true, true, true, true, true, false, false, false, false, false, false, false, false, false, false] rfl rfl (take_ofW HT_.out HW_.out (by kernel_rfl)) (fun _ _ _ h => h) (Or.inl ⟨by rfl, ?_⟩) hHeld ?_ ?_
            rotate_left
            ·rintro w' ⟨s0, s1, s2, s3, s4, s5, s6, s7, s8, s9, s10, s11, s12, s13, s14, s15, s16, s17, s18, s19, s20, s21, s22, s23, s24, s25, s26, s27, s28, s29, s30, s31, s32, s33, s34⟩
             go_simp
             with_reducible rfl
            rotate_left
            ·simp only [Act.put, List.setIfInBounds_toArray, List.set_cons_zero, List.set_cons_succ, i64_w, i32_w]
             rfl
            refine take_ (i := 36) (N := some 104) (v := ?_) (a' := ?_) #[true, true, true, true, true, true, true, true, true, true, true, true, true, true, true, true, true, true, true, true, true, true, true, true, true, true, true, true, true, true, true, true, true, true, true, true, true, false, false, false, false, false, false, false, false, false] rfl rfl (take_ofW HT_.out HW_.out (by kernel_rfl)) (fun _ _ _ h => h) (Or.inl ⟨by rfl, ?_⟩) hHeld ?_ ?_
            rotate_left
            ·rintro w' ⟨s0, s1, s2, s3, s4, s5, s6, s7, s8, s9, s10, s11, s12, s13, s14, s15, s16, s17, s18, s19, s20, s21, s22, s23, s24, s25, s26, s27, s28, s29, s30, s31, s32, s33, s34⟩
             go_simp
             with_reducible rfl
            rotate_left
            ·simp only [Act.put, List.setIfInBounds_toArray, List.set_cons_zero, List.set_cons_succ, i64_w, i32_w]
             rfl
            refine one_ (i := 37) (N := some 105) #[true, true, true, true, true, true, true, true, true, true, true, true, true, true, true, true, true, true, true, true, true, true, true, true, true, true, true, true, true, true, true, true, true, true, true, true, true, true, false, false, false, false, false, false, false, false] rfl rfl (one_of HT_.out (by kernel_rfl)) (by decide) (fun K hK => ?_)
            refine goes_ Try.func16 (by kernel_rfl) rfl #[.agg #[.int .i64 t1013, .float .f64 t1014, .string t1015], .agg #[.int .i64 t971, .float .f64 t972, .string t973]] (by rfl) rfl rfl (by (try simp only [List.map_toArray, List.map_cons, List.map_nil]); first | done | rfl | (simp only [List.length_drop, List.length_take]; rfl)) ?_
            with_reducible refine (engrossref1_EqVal.calls t1013 t1014 t1015 t971 t972 t973 true _ A96.out).mono ?_
            rintro e w140 ⟨rfl, hb⟩
            refine ⟨_, rfl, ?_⟩
            replace BK956 := bB BK956 hb
            replace BK957 := bB BK957 hb
            replace BK958 := bB BK958 hb
            replace BK1001 := bB BK1001 hb
            replace BK1011 := bB BK1011 hb
            replace BK1021 := bB BK1021 hb
            replace HB := bW HB hb
            (try clear hb)
            (try clear hb2)
            (try clear hk)
            (try clear hi)
            refine hK.out _ _ (bn8 BK1011 (bn8 BK956 (bn8 BK1001 (bn3 BK958 (be8 BK1021))))) (fun hHeld => ?_)
            clear hK K
            refine norm_ (a' := ?_) ?_ ?_
            rotate_left
            ·show Act.put _ (some 105) _ = _
             simp only [Act.put, List.setIfInBounds_toArray, List.set_cons_zero, List.set_cons_succ, i64_w, i32_w]
             rfl
            refine pure_ (i := 38) (N := some 106) (v := ?_) (a' := ?_) #[true, true, true, true, true, true, true, true, true, true, true, true, true, true, true, true, true, true, true, true, true, true, true, true, true, true, true, true, true, true, true, true, true, true, true, true, true, true, true, false, false, false, false, false, false, false] rfl rfl (any_of HT_.out (by kernel_rfl)) (fun _ _ _ h => h) (Or.inl ⟨by rfl, ?_⟩) ?_ ?_
            rotate_left
            ·intro w'
             go_simp
             with_reducible rfl
            rotate_left
            ·simp only [Act.put, List.setIfInBounds_toArray, List.set_cons_zero, List.set_cons_succ, i64_w, i32_w]
             rfl
            refine pure_ (i := 39) (N := some 107) (v := ?_) (a' := ?_) #[true, true, true, true, true, true, true, true, true, true, true, true, true, true, true, true, true, true, true, true, true, true, true, true, true, true, true, true, true, true, true, true, true, true, true, true, true, true, true, true, false, false, false, false, false, false] rfl rfl (any_of HT_.out (by kernel_rfl)) (fun _ _ _ h => h) (Or.inl ⟨by rfl, ?_⟩) ?_ ?_
            rotate_left
            ·intro w'
             go_simp
             with_reducible rfl
            rotate_left
            ·simp only [Act.put, List.setIfInBounds_toArray, List.set_cons_zero, List.set_cons_succ, i64_w, i32_w]
             rfl
            refine take_ (i := 40) (N := some 108) (v := ?_) (a' := ?_) #[true, true, true, true, true, true, true, true, true, true, true, true, true, true, true, true, true, true, true, true, true, true, true, true, true, true, true, true, true, true, true, true, true, true, true, true, true, true, true, true, true, false, false, false, false, false] rfl rfl (take_ofW HT_.out HW_.out (by kernel_rfl)) (fun _ _ _ h => h) (Or.inl ⟨by rfl, ?_⟩) hHeld ?_ ?_
            rotate_left
            ·rintro w' ⟨s0, s1, s2, s3, s4, s5, s6, s7, s8, s9, s10, s11, s12, s13, s14, s15, s16, s17, s18, s19, s20, s21, s22, s23, s24, s25, s26, s27, s28, s29, s30, s31, s32, s33, s34⟩
             go_simp
             with_reducible rfl
            rotate_left
            ·simp only [Act.put, List.setIfInBounds_toArray, List.set_cons_zero, List.set_cons_succ, i64_w, i32_w]
             rfl
            refine pure_ (i := 41) (N := some 109) (v := ?_) (a' := ?_) #[true, true, true, true, true, true, true, true, true, true, true, true, true, true, true, true, true, true, true, true, true, true, true, true, true, true, true, true, true, true, true, true, true, true, true, true, true, true, true, true, true, true, false, false, false, false] rfl rfl (any_of HT_.out (by kernel_rfl)) (fun _ _ _ h => h) (Or.inl ⟨by rfl, ?_⟩) ?_ ?_
            rotate_left
            ·intro w'
             go_simp
             with_reducible rfl
            rotate_left
            ·simp only [Act.put, List.setIfInBounds_toArray, List.set_cons_zero, List.set_cons_succ, i64_w, i32_w]
             rfl
            refine pure_ (i := 42) (N := some 110) (v := ?_) (a' := ?_) #[true, true, true, true, true, true, true, true, true, true, true, true, true, true, true, true, true, true, true, true, true, true, true, true, true, true, true, true, true, true, true, true, true, true, true, true, true, true, true, true, true, true, true, false, false, false] rfl rfl (any_of HT_.out (by kernel_rfl)) (fun _ _ _ h => h) (Or.inl ⟨by rfl, ?_⟩) ?_ ?_
            rotate_left
            ·intro w'
             go_simp
             with_reducible rfl
            rotate_left
            ·simp only [Act.put, List.setIfInBounds_toArray, List.set_cons_zero, List.set_cons_succ, i64_w, i32_w]
             rfl
            refine pure_ (i := 43) (N := some 111) (v := ?_) (a' := ?_) #[true, true, true, true, true, true, true, true, true, true, true, true, true, true, true, true, true, true, true, true, true, true, true, true, true, true, true, true, true, true, true, true, true, true, true, true, true, true, true, true, true, true, true, true, false, false] rfl rfl (any_of HT_.out (by kernel_rfl)) (fun _ _ _ h => h) (Or.inl ⟨by rfl, ?_⟩) ?_ ?_
            rotate_left
            ·intro w'
             go_simp
             with_reducible rfl
            rotate_left
            ·simp only [Act.put, List.setIfInBounds_toArray, List.set_cons_zero, List.set_cons_succ, i64_w, i32_w]
             rfl
            refine pure_ (i := 44) (N := some 112) (v := ?_) (a' := ?_) #[true, true, true, true, true, true, true, true, true, true, true, true, true, true, true, true, true, true, true, true, true, true, true, true, true, true, true, true, true, true, true, true, true, true, true, true, true, true, true, true, true, true, true, true, true, false] rfl rfl (any_of HT_.out (by kernel_rfl)) (fun _ _ _ h => h) (Or.inl ⟨by rfl, ?_⟩) ?_ ?_
            rotate_left
            ·intro w'
             go_simp
             with_reducible rfl
            rotate_left
            ·simp only [Act.put, List.setIfInBounds_toArray, List.set_cons_zero, List.set_cons_succ, i64_w, i32_w]
             rfl
            refine pure_ (i := 45) (N := some 8) (v := ?_) (a' := ?_) #[true, true, true, true, true, true, true, true, true, true, true, true, true, true, true, true, true, true, true, true, true, true, true, true, true, true, true, true, true, true, true, true, true, true, true, true, true, true, true, true, true, true, true, true, true, true] rfl rfl (any_of HT_.out (by kernel_rfl)) (fun _ _ _ h => h) (Or.inl ⟨by rfl, ?_⟩) ?_ ?_
            rotate_left
            ·intro w'
             go_simp
             with_reducible rfl
            rotate_left
            ·simp only [Act.put, List.setIfInBounds_toArray, List.set_cons_zero, List.set_cons_succ, i64_w, i32_w]
             rfl
            refine done_ (done_of HT_.out (by kernel_rfl)) ?_
            try go_wp2
            go_ret
            exact ⟨by first | rfl | (simp [errW_none, errW_some] <;> rfl) | (simp [*, errW_none, errW_some] <;> rfl), by repeat (first | (with_reducible first | exact HB.out | apply below_alloc | apply pw_below_drewN | apply below_drew1 | refine below_set ?_ GE956.out | refine below_set ?_ GE957.out | refine below_set ?_ GE958.out | refine below_set ?_ GE1001.out | refine below_set ?_ GE1011.out | refine below_set ?_ GE1021.out) | exact HB.out)⟩
           ·replace c97 := Bool.eq_false_iff.mpr c97
            subst c97
            have H1 : (none) = some r := by rw [if_neg (show ¬ (false = true) by decide)] at H; exact H
            clear H
            have H := H1
            clear H1
            exact absurd H (by simp)
          ·replace c95 := Bool.eq_false_iff.mpr c95
           subst c95
           have H1 : (some true) = some r := by rw [if_neg (show ¬ (false = true) by decide)] at H; exact H
           clear H
           have H := H1
           clear H1
           obtain rfl := Option.some.inj H
           try go_wp2
           replace BK956 := Aside0.mk (blk_drew BK956.out)
           replace BK957 := Aside0.mk (blk_drew BK957.out)
           replace BK958 := Aside0.mk (blk_drew BK958.out)
           replace HB := Aside0.mk (below_drew1 HB.out)
           refine start_ (n := 10) (S := fun w' => w'.cell? ⟨gb956, 0, none⟩ = some (.string t960) ∧ w'.cell? ⟨gb956, 1, none⟩ = some (.int .i64 t961) ∧ w'.cell? ⟨gb956, 2, none⟩ = some (.float .f64 t962) ∧ w'.cell? ⟨gb956, 3, none⟩ = some (.string t963) ∧ w'.cell? ⟨gb956, 4, none⟩ = some (.int .i64 t964) ∧ w'.cell? ⟨gb956, 5, none⟩ = some (.int .i64 t965) ∧ w'.cell? ⟨gb956, 6, none⟩ = some (.float .f64 t966) ∧ w'.cell? ⟨gb956, 7, none⟩ = some (.string t967) ∧ w'.cell? ⟨gb957, 0, none⟩ = some (.int .i64 t968) ∧ w'.cell? ⟨gb957, 1, none⟩ = some (.float .f64 t969) ∧ w'.cell? ⟨gb957, 2, none⟩ = some (.string t970) ∧ w'.cell? ⟨gb958, 0, none⟩ = some (.int .i64 t971) ∧ w'.cell? ⟨gb958, 1, none⟩ = some (.float .f64 t972) ∧ w'.cell? ⟨gb958, 2, none⟩ = some (.string t973)) (ds := []) #[false, false, false, false, false, false, false, false, false, false] (by kernel_rfl) rfl rfl (bn8 BK956 (bn3 BK957 (be3 BK958))) (fun hHeld => ?_); refine with_tabW engrosslaw10_CellTwice.tab7 engrosslaw10_CellTwice.bits7 (fun HT_ HW_ => ?_)
           generalize wc.drew = w141 at BK956 BK957 BK958 HB hHeld ⊢
           refine pure_ (i := 2) (N := some 52) (v := ?_) (a' := ?_) #[false, false, true, false, false, false, false, false, false, false] rfl rfl (any_of HT_.out (by kernel_rfl)) (fun _ _ _ h => h) (Or.inl ⟨by rfl, ?_⟩) ?_ ?_
           rotate_left
           ·intro w'
            go_simp
            with_reducible rfl
           rotate_left
           ·simp only [Act.put, List.setIfInBounds_toArray, List.set_cons_zero, List.set_cons_succ, i64_w, i32_w]
            rfl
           refine pure_ (i := 5) (N := some 55) (v := ?_) (a' := ?_) #[false, false, true, false, false, true, false, false, false, false] rfl rfl (any_of HT_.out (by kernel_rfl)) (fun _ _ _ h => h) (Or.inl ⟨by rfl, ?_⟩) ?_ ?_
           rotate_left
           ·intro w'
            go_simp
            with_reducible rfl
           rotate_left
           ·simp only [Act.put, List.setIfInBounds_toArray, List.set_cons_zero, List.set_cons_succ, i64_w, i32_w]
            rfl
           refine take_ (i := 0) (N := some 50) (v := ?_) (a' := ?_) #[true, false, true, false, false, true, false, false, false, false] rfl rfl (take_ofW HT_.out HW_.out (by kernel_rfl)) (fun _ _ _ h => h) (Or.inl ⟨by rfl, ?_⟩) hHeld ?_ ?_
           rotate_left
           ·rintro w' ⟨s0, s1, s2, s3, s4, s5, s6, s7, s8, s9, s10, s11, s12, s13⟩
            go_simp
            with_reducible rfl
           rotate_left
           ·simp only [Act.put, List.setIfInBounds_toArray, List.set_cons_zero, List.set_cons_succ, i64_w, i32_w]
            rfl
           refine take_ (i := 3) (N := some 53) (v := ?_) (a' := ?_) #[true, false, true, true, false, true, false, false, false, false] rfl rfl (take_ofW HT_.out HW_.out (by kernel_rfl)) (fun _ _ _ h => h) (Or.inl ⟨by rfl, ?_⟩) hHeld ?_ ?_
           rotate_left
           ·rintro w' ⟨s0, s1, s2, s3, s4, s5, s6, s7, s8, s9, s10, s11, s12, s13⟩
            go_simp
            with_reducible rfl
           rotate_left
           ·simp only [Act.put, List.setIfInBounds_toArray, List.set_cons_zero, List.set_cons_succ, i64_w, i32_w]
            rfl
           refine take_ (i := 6) (N := some 56) (v := ?_) (a' := ?_) #[true, false, true, true, false, true, true, false, false, false] rfl rfl (take_ofW HT_.out HW_.out (by kernel_rfl)) (fun _ _ _ h => h) (Or.inl ⟨by rfl, ?_⟩) hHeld ?_ ?_
           rotate_left
           ·rintro w' ⟨s0, s1, s2, s3, s4, s5, s6, s7, s8, s9, s10, s11, s12, s13⟩
            go_simp
            with_reducible rfl
           rotate_left
           ·simp only [Act.put, List.setIfInBounds_toArray, List.set_cons_zero, List.set_cons_succ, i64_w, i32_w]
            rfl
           refine join_ (σ := Nat) 1 #[true, true, true, true, true, true, true, true, true, false] (fun s_ => [(51, .agg #[.string t977, .int .i64 t978, .float .f64 t979, .string t980, .int .i64 t981, .int .i64 t982, .float .f64 t983, .string t984]), (54, .agg #[.string t985, .int .i64 t986, .float .f64 t987, .string t988, .int .i64 t989, .int .i64 t990, .float .f64 t991, .string t992]), (57, .agg #[.string t993, .int .i64 t994, .float .f64 t995, .string t996, .int .i64 t997, .int .i64 t998, .float .f64 t999, .string t1000]), (10, .pointer (some ⟨s_, 0, none⟩))]) (fun s_ w' => (w'.cell? ⟨gb956, 0, none⟩ = some (.string t960) ∧ w'.cell? ⟨gb956, 1, none⟩ = some (.int .i64 t961) ∧ w'.cell? ⟨gb956, 2, none⟩ = some (.float .f64 t962) ∧ w'.cell? ⟨gb956, 3, none⟩ = some (.string t963) ∧ w'.cell? ⟨gb956, 4, none⟩ = some (.int .i64 t964) ∧ w'.cell? ⟨gb956, 5, none⟩ = some (.int .i64 t965) ∧ w'.cell? ⟨gb956, 6, none⟩ = some (.float .f64 t966) ∧ w'.cell? ⟨gb956, 7, none⟩ = some (.string t967) ∧ w'.cell? ⟨gb957, 0, none⟩ = some (.int .i64 t968) ∧ w'.cell? ⟨gb957, 1, none⟩ = some (.float .f64 t969) ∧ w'.cell? ⟨gb957, 2, none⟩ = some (.string t970) ∧ w'.cell? ⟨gb958, 0, none⟩ = some (.int .i64 t971) ∧ w'.cell? ⟨gb958, 1, none⟩ = some (.float .f64 t972) ∧ w'.cell? ⟨gb958, 2, none⟩ = some (.string t973)) ∧ (w'.heap[s_]? = some (.cells #[.string (⟨#[]⟩ : ByteArray), .int .i64 0, .float .f64 0, .string (⟨#[]⟩ : ByteArray), .int .i64 0, .int .i64 0, .float .f64 0, .string (⟨#[]⟩ : ByteArray)] 31 (0, 0))) ∧ (w'.heap[gb956]? = some (.cells #[.string t960, .int .i64 t961, .float .f64 t962, .string t963, .int .i64 t964, .int .i64 t965, .float .f64 t966, .string t967] 26 (0, 0))) ∧ (w'.heap[gb957]? = some (.cells #[.int .i64 t968, .float .f64 t969, .string t970] 24 (0, 0))) ∧ (w'.heap[gb958]? = some (.cells #[.int .i64 t971, .float .f64 t972, .string t973] 24 (0, 0))) ∧ (w.heap.size ≤ s_) ∧ (w.heap.size ≤ s_) ∧ (gb956 ≠ s_) ∧ (s_ ≠ gb956) ∧ (gb957 ≠ s_) ∧ (s_ ≠ gb957) ∧ (gb958 ≠ s_) ∧ (s_ ≠ gb958) ∧ (Below w.heap.size w w')) ?_ ?_
           rotate_left
           ·intro hCont
            refine two_ (i := 1) (j := 8) (Ni := some 51) (Nj := some 10) #[true, true, true, true, false, true, true, false, false, false] #[true, false, true, true, false, true, true, false, true, false] rfl rfl rfl rfl (two_of HT_.out (by kernel_rfl)) (by decide) (by decide) (fun K hK => ?_) (fun K hK => ?_)
            ·skip
             refine goes_ Try.func14 (by kernel_rfl) rfl #[.agg #[.string t960, .int .i64 t961, .float .f64 t962, .string t963, .int .i64 t964, .int .i64 t965, .float .f64 t966, .string t967]] (by rfl) rfl rfl (by (try simp only [List.map_toArray, List.map_cons, List.map_nil]); first | done | rfl | (simp only [List.length_drop, List.length_take]; rfl)) ?_
             with_reducible refine (engrosslaw10_Of.calls t960 t961 t962 t963 t964 t965 t966 t967 t977 t978 t979 t980 t981 t982 t983 t984 _ A79.out).mono ?_
             rintro e w142 ⟨rfl, hb⟩
             refine ⟨_, rfl, ?_⟩
             replace BK956 := bB BK956 hb
             replace BK957 := bB BK957 hb
             replace BK958 := bB BK958 hb
             replace HB := bW HB hb
             (try clear hb)
             (try clear hb2)
             (try clear hk)
             (try clear hi)
             refine hK.out _ _ (bn8 BK956 (bn3 BK957 (be3 BK958))) (fun hHeld => ?_)
             clear hK K
             refine norm_ (a' := ?_) ?_ ?_
             rotate_left
             ·show Act.put _ (some 51) _ = _
              simp only [Act.put, List.setIfInBounds_toArray, List.set_cons_zero, List.set_cons_succ, i64_w, i32_w]
              rfl
             refine two_ (i := 4) (j := 8) (Ni := some 54) (Nj := some 10) #[true, true, true, true, true, true, true, false, false, false] #[true, true, true, true, false, true, true, false, true, false] rfl rfl rfl rfl (two_of HT_.out (by kernel_rfl)) (by decide) (by decide) (fun K hK => ?_) (fun K hK => ?_)
             ·skip
              refine goes_ Try.func27 (by kernel_rfl) rfl #[.agg #[.string t977, .int .i64 t978, .float .f64 t979, .string t980, .int .i64 t981, .int .i64 t982, .float .f64 t983, .string t984], .int .i64 a1, .agg #[.int .i64 t968, .float .f64 t969, .string t970]] (by rfl) rfl rfl (by (try simp only [List.map_toArray, List.map_cons, List.map_nil]); first | done | rfl | (simp only [List.length_drop, List.length_take]; rfl)) ?_
              with_reducible refine (cell_Write.calls t977 t978 t979 t980 t981 t982 t983 t984 a1 t968 t969 t970 t985 t986 t987 t988 t989 t990 t991 t992 _ A80.out).mono ?_
              rintro e w143 ⟨rfl, hb⟩
              refine ⟨_, rfl, ?_⟩
              replace BK956 := bB BK956 hb
              replace BK957 := bB BK957 hb
              replace BK958 := bB BK958 hb
              replace HB := bW HB hb
              (try clear hb)
              (try clear hb2)
              (try clear hk)
              (try clear hi)
              refine hK.out _ _ (bn8 BK956 (bn3 BK957 (be3 BK958))) (fun hHeld => ?_)
              clear hK K
              refine norm_ (a' := ?_) ?_ ?_
              rotate_left
              ·show Act.put _ (some 54) _ = _
               simp only [Act.put, List.setIfInBounds_toArray, List.set_cons_zero, List.set_cons_succ, i64_w, i32_w]
               rfl
              refine two_ (i := 7) (j := 8) (Ni := some 57) (Nj := some 10) #[true, true, true, true, true, true, true, true, false, false] #[true, true, true, true, true, true, true, false, true, false] rfl rfl rfl rfl (two_of HT_.out (by kernel_rfl)) (by decide) (by decide) (fun K hK => ?_) (fun K hK => ?_)
              ·skip
               refine goes_ Try.func27 (by kernel_rfl) rfl #[.agg #[.string t985, .int .i64 t986, .float .f64 t987, .string t988, .int .i64 t989, .int .i64 t990, .float .f64 t991, .string t992], .int .i64 a1, .agg #[.int .i64 t971, .float .f64 t972, .string t973]] (by rfl) rfl rfl (by (try simp only [List.map_toArray, List.map_cons, List.map_nil]); first | done | rfl | (simp only [List.length_drop, List.length_take]; rfl)) ?_
               with_reducible refine (cell_Write.calls t985 t986 t987 t988 t989 t990 t991 t992 a1 t971 t972 t973 t993 t994 t995 t996 t997 t998 t999 t1000 _ A81.out).mono ?_
               rintro e w144 ⟨rfl, hb⟩
               refine ⟨_, rfl, ?_⟩
               replace BK956 := bB BK956 hb
               replace BK957 := bB BK957 hb
               replace BK958 := bB BK958 hb
               replace HB := bW HB hb
               (try clear hb)
               (try clear hb2)
               (try clear hk)
               (try clear hi)
               refine hK.out _ _ (bn8 BK956 (bn3 BK957 (be3 BK958))) (fun hHeld => ?_)
               clear hK K
               refine norm_ (a' := ?_) ?_ ?_
               rotate_left
               ·show Act.put _ (some 57) _ = _
                simp only [Act.put, List.setIfInBounds_toArray, List.set_cons_zero, List.set_cons_succ, i64_w, i32_w]
                rfl
               refine one_ (i := 8) (N := some 10) #[true, true, true, true, true, true, true, true, true, false] rfl rfl (one_of HT_.out (by kernel_rfl)) (by decide) (fun K hK => ?_)
               refine box_step ?hg (N := 10) ?hd (cs := #[.string (⟨#[]⟩ : ByteArray), .int .i64 0, .float .f64 0, .string (⟨#[]⟩ : ByteArray), .int .i64 0, .int .i64 0, .float .f64 0, .string (⟨#[]⟩ : ByteArray)]) (t := 31) ?hr ?_; (case hd => rfl); (case hg => rfl); (case hr => first | (go_simp; done) | (go_simp; rfl))
               intro gb1001 hg w145 hbox hb
               have BK1001 := Aside0.mk (hbox)
               have GW1001 := bZ HB hg
               have GE1001 := bZ HB hg
               have NB956_1001 := bL BK956 hg
               have NB1001_956 := bG BK956 hg
               have NB957_1001 := bL BK957 hg
               have NB1001_957 := bG BK957 hg
               have NB958_1001 := bL BK958 hg
               have NB1001_958 := bG BK958 hg
               replace BK956 := bB BK956 hb
               replace BK957 := bB BK957 hb
               replace BK958 := bB BK958 hb
               replace HB := bW HB hb
               clear hb hbox hg
               refine hK.out _ _ (bn8 BK956 (bn3 BK957 (be3 BK958))) (fun hHeld => ?_)
               clear hK K
               refine norm_ (a' := ?_) ?_ ?_
               rotate_left
               ·show Act.put _ (some 10) _ = _
                simp only [Act.put, List.setIfInBounds_toArray, List.set_cons_zero, List.set_cons_succ, i64_w, i32_w]
                rfl
               exact norm_ (by simp only [putAll, Act.put, List.setIfInBounds_toArray, List.set_cons_zero, List.set_cons_succ]) (hCont (gb1001) _ ⟨hHeld, (bQ BK1001), (bQ BK956), (bQ BK957), (bQ BK958), GW1001.out, GE1001.out, NB956_1001.out, NB1001_956.out, NB957_1001.out, NB1001_957.out, NB958_1001.out, NB1001_958.out, (bC HB)⟩)
              ·skip
               refine box_step ?hg (N := 10) ?hd (cs := #[.string (⟨#[]⟩ : ByteArray), .int .i64 0, .float .f64 0, .string (⟨#[]⟩ : ByteArray), .int .i64 0, .int .i64 0, .float .f64 0, .string (⟨#[]⟩ : ByteArray)]) (t := 31) ?hr ?_; (case hd => rfl); (case hg => rfl); (case hr => first | (go_simp; done) | (go_simp; rfl))
               intro gb1001 hg w144 hbox hb
               have BK1001 := Aside0.mk (hbox)
               have GW1001 := bZ HB hg
               have GE1001 := bZ HB hg
               have NB956_1001 := bL BK956 hg
               have NB1001_956 := bG BK956 hg
               have NB957_1001 := bL BK957 hg
               have NB1001_957 := bG BK957 hg
               have NB958_1001 := bL BK958 hg
               have NB1001_958 := bG BK958 hg
               replace BK956 := bB BK956 hb
               replace BK957 := bB BK957 hb
               replace BK958 := bB BK958 hb
               replace HB := bW HB hb
               clear hb hbox hg
               refine hK.out _ _ (bn8 BK956 (bn3 BK957 (be3 BK958))) (fun hHeld => ?_)
               clear hK K
               refine norm_ (a' := ?_) ?_ ?_
               rotate_left
               ·show Act.put _ (some 10) _ = _
                simp only [Act.put, List.setIfInBounds_toArray, List.set_cons_zero, List.set_cons_succ, i64_w, i32_w]
                rfl
               refine one_ (i := 7) (N := some 57) #[true, true, true, true, true, true, true, true, true, false] rfl rfl (one_of HT_.out (by kernel_rfl)) (by decide) (fun K hK => ?_)
               refine goes_ Try.func27 (by kernel_rfl) rfl #[.agg #[.string t985, .int .i64 t986, .float .f64 t987, .string t988, .int .i64 t989, .int .i64 t990, .float .f64 t991, .string t992], .int .i64 a1, .agg #[.int .i64 t971, .float .f64 t972, .string t973]] (by rfl) rfl rfl (by (try simp only [List.map_toArray, List.map_cons, List.map_nil]); first | done | rfl | (simp only [List.length_drop, List.length_take]; rfl)) ?_
               with_reducible refine (cell_Write.calls t985 t986 t987 t988 t989 t990 t991 t992 a1 t971 t972 t973 t993 t994 t995 t996 t997 t998 t999 t1000 _ A81.out).mono ?_
               rintro e w145 ⟨rfl, hb⟩
               refine ⟨_, rfl, ?_⟩
               replace BK956 := bB BK956 hb
               replace BK957 := bB BK957 hb
               replace BK958 := bB BK958 hb
               replace BK1001 := bB BK1001 hb
               replace HB := bW HB hb
               (try clear hb)
               (try clear hb2)
               (try clear hk)
               (try clear hi)
               refine hK.out _ _ (bn8 BK956 (bn3 BK957 (be3 BK958))) (fun hHeld => ?_)
               clear hK K
               refine norm_ (a' := ?_) ?_ ?_
               rotate_left
               ·show Act.put _ (some 57) _ = _
                simp only [Act.put, List.setIfInBounds_toArray, List.set_cons_zero, List.set_cons_succ, i64_w, i32_w]
                rfl
               exact norm_ (by simp only [putAll, Act.put, List.setIfInBounds_toArray, List.set_cons_zero, List.set_cons_succ]) (hCont (gb1001) _ ⟨hHeld, (bQ BK1001), (bQ BK956), (bQ BK957), (bQ BK958), GW1001.out, GE1001.out, NB956_1001.out, NB1001_956.out, NB957_1001.out, NB1001_957.out, NB958_1001.out, NB1001_958.out, (bC HB)⟩)
             ·skip
              refine box_step ?hg (N := 10) ?hd (cs := #[.string (⟨#[]⟩ : ByteArray), .int .i64 0, .float .f64 0, .string (⟨#[]⟩ : ByteArray), .int .i64 0, .int .i64 0, .float .f64 0, .string (⟨#[]⟩ : ByteArray)]) (t := 31) ?hr ?_; (case hd => rfl); (case hg => rfl); (case hr => first | (go_simp; done) | (go_simp; rfl))
              intro gb1001 hg w143 hbox hb
              have BK1001 := Aside0.mk (hbox)
              have GW1001 := bZ HB hg
              have GE1001 := bZ HB hg
              have NB956_1001 := bL BK956 hg
              have NB1001_956 := bG BK956 hg
              have NB957_1001 := bL BK957 hg
              have NB1001_957 := bG BK957 hg
              have NB958_1001 := bL BK958 hg
              have NB1001_958 := bG BK958 hg
              replace BK956 := bB BK956 hb
              replace BK957 := bB BK957 hb
              replace BK958 := bB BK958 hb
              replace HB := bW HB hb
              clear hb hbox hg
              refine hK.out _ _ (bn8 BK956 (bn3 BK957 (be3 BK958))) (fun hHeld => ?_)
              clear hK K
              refine norm_ (a' := ?_) ?_ ?_
              rotate_left
              ·show Act.put _ (some 10) _ = _
               simp only [Act.put, List.setIfInBounds_toArray, List.set_cons_zero, List.set_cons_succ, i64_w, i32_w]
               rfl
              refine one_ (i := 4) (N := some 54) #[true, true, true, true, true, true, true, false, true, false] rfl rfl (one_of HT_.out (by kernel_rfl)) (by decide) (fun K hK => ?_)
              refine goes_ Try.func27 (by kernel_rfl) rfl #[.agg #[.string t977, .int .i64 t978, .float .f64 t979, .string t980, .int .i64 t981, .int .i64 t982, .float .f64 t983, .string t984], .int .i64 a1, .agg #[.int .i64 t968, .float .f64 t969, .string t970]] (by rfl) rfl rfl (by (try simp only [List.map_toArray, List.map_cons, List.map_nil]); first | done | rfl | (simp only [List.length_drop, List.length_take]; rfl)) ?_
              with_reducible refine (cell_Write.calls t977 t978 t979 t980 t981 t982 t983 t984 a1 t968 t969 t970 t985 t986 t987 t988 t989 t990 t991 t992 _ A80.out).mono ?_
              rintro e w144 ⟨rfl, hb⟩
              refine ⟨_, rfl, ?_⟩
              replace BK956 := bB BK956 hb
              replace BK957 := bB BK957 hb
              replace BK958 := bB BK958 hb
              replace BK1001 := bB BK1001 hb
              replace HB := bW HB hb
              (try clear hb)
              (try clear hb2)
              (try clear hk)
              (try clear hi)
              refine hK.out _ _ (bn8 BK956 (bn3 BK957 (be3 BK958))) (fun hHeld => ?_)
              clear hK K
              refine norm_ (a' := ?_) ?_ ?_
              rotate_left
              ·show Act.put _ (some 54) _ = _
               simp only [Act.put, List.setIfInBounds_toArray, List.set_cons_zero, List.set_cons_succ, i64_w, i32_w]
               rfl
              refine one_ (i := 7) (N := some 57) #[true, true, true, true, true, true, true, true, true, false] rfl rfl (one_of HT_.out (by kernel_rfl)) (by decide) (fun K hK => ?_)
              refine goes_ Try.func27 (by kernel_rfl) rfl #[.agg #[.string t985, .int .i64 t986, .float .f64 t987, .string t988, .int .i64 t989, .int .i64 t990, .float .f64 t991, .string t992], .int .i64 a1, .agg #[.int .i64 t971, .float .f64 t972, .string t973]] (by rfl) rfl rfl (by (try simp only [List.map_toArray, List.map_cons, List.map_nil]); first | done | rfl | (simp only [List.length_drop, List.length_take]; rfl)) ?_
              with_reducible refine (cell_Write.calls t985 t986 t987 t988 t989 t990 t991 t992 a1 t971 t972 t973 t993 t994 t995 t996 t997 t998 t999 t1000 _ A81.out).mono ?_
              rintro e w145 ⟨rfl, hb⟩
              refine ⟨_, rfl, ?_⟩
              replace BK956 := bB BK956 hb
              replace BK957 := bB BK957 hb
              replace BK958 := bB BK958 hb
              replace BK1001 := bB BK1001 hb
              replace HB := bW HB hb
              (try clear hb)
              (try clear hb2)
              (try clear hk)
              (try clear hi)
              refine hK.out _ _ (bn8 BK956 (bn3 BK957 (be3 BK958))) (fun hHeld => ?_)
              clear hK K
              refine norm_ (a' := ?_) ?_ ?_
              rotate_left
              ·show Act.put _ (some 57) _ = _
               simp only [Act.put, List.setIfInBounds_toArray, List.set_cons_zero, List.set_cons_succ, i64_w, i32_w]
               rfl
              exact norm_ (by simp only [putAll, Act.put, List.setIfInBounds_toArray, List.set_cons_zero, List.set_cons_succ]) (hCont (gb1001) _ ⟨hHeld, (bQ BK1001), (bQ BK956), (bQ BK957), (bQ BK958), GW1001.out, GE1001.out, NB956_1001.out, NB1001_956.out, NB957_1001.out, NB1001_957.out, NB958_1001.out, NB1001_958.out, (bC HB)⟩)
            ·skip
             refine box_step ?hg (N := 10) ?hd (cs := #[.string (⟨#[]⟩ : ByteArray), .int .i64 0, .float .f64 0, .string (⟨#[]⟩ : ByteArray), .int .i64 0, .int .i64 0, .float .f64 0, .string (⟨#[]⟩ : ByteArray)]) (t := 31) ?hr ?_; (case hd => rfl); (case hg => rfl); (case hr => first | (go_simp; done) | (go_simp; rfl))
             intro gb1001 hg w142 hbox hb
             have BK1001 := Aside0.mk (hbox)
             have GW1001 := bZ HB hg
             have GE1001 := bZ HB hg
             have NB956_1001 := bL BK956 hg
             have NB1001_956 := bG BK956 hg
             have NB957_1001 := bL BK957 hg
             have NB1001_957 := bG BK957 hg
             have NB958_1001 := bL BK958 hg
             have NB1001_958 := bG BK958 hg
             replace BK956 := bB BK956 hb
             replace BK957 := bB BK957 hb
             replace BK958 := bB BK958 hb
             replace HB := bW HB hb
             clear hb hbox hg
             refine hK.out _ _ (bn8 BK956 (bn3 BK957 (be3 BK958))) (fun hHeld => ?_)
             clear hK K
             refine norm_ (a' := ?_) ?_ ?_
             rotate_left
             ·show Act.put _ (some 10) _ = _
              simp only [Act.put, List.setIfInBounds_toArray, List.set_cons_zero, List.set_cons_succ, i64_w, i32_w]
              rfl
             refine one_ (i := 1) (N := some 51) #[true, true, true, true, false, true, true, false, true, false] rfl rfl (one_of HT_.out (by kernel_rfl)) (by decide) (fun K hK => ?_)
             refine goes_ Try.func14 (by kernel_rfl) rfl #[.agg #[.string t960, .int .i64 t961, .float .f64 t962, .string t963, .int .i64 t964, .int .i64 t965, .float .f64 t966, .string t967]] (by rfl) rfl rfl (by (try simp only [List.map_toArray, List.map_cons, List.map_nil]); first | done | rfl | (simp only [List.length_drop, List.length_take]; rfl)) ?_
             with_reducible refine (engrosslaw10_Of.calls t960 t961 t962 t963 t964 t965 t966 t967 t977 t978 t979 t980 t981 t982 t983 t984 _ A79.out).mono ?_
             rintro e w143 ⟨rfl, hb⟩
             refine ⟨_, rfl, ?_⟩
             replace BK956 := bB BK956 hb
             replace BK957 := bB BK957 hb
             replace BK958 := bB BK958 hb
             replace BK1001 := bB BK1001 hb
             replace HB := bW HB hb
             (try clear hb)
             (try clear hb2)
             (try clear hk)
             (try clear hi)
             refine hK.out _ _ (bn8 BK956 (bn3 BK957 (be3 BK958))) (fun hHeld => ?_)
             clear hK K
             refine norm_ (a' := ?_) ?_ ?_
             rotate_left
             ·show Act.put _ (some 51) _ = _
              simp only [Act.put, List.setIfInBounds_toArray, List.set_cons_zero, List.set_cons_succ, i64_w, i32_w]
              rfl
             refine one_ (i := 4) (N := some 54) #[true, true, true, true, true, true, true, false, true, false] rfl rfl (one_of HT_.out (by kernel_rfl)) (by decide) (fun K hK => ?_)
             refine goes_ Try.func27 (by kernel_rfl) rfl #[.agg #[.string t977, .int .i64 t978, .float .f64 t979, .string t980, .int .i64 t981, .int .i64 t982, .float .f64 t983, .string t984], .int .i64 a1, .agg #[.int .i64 t968, .float .f64 t969, .string t970]] (by rfl) rfl rfl (by (try simp only [List.map_toArray, List.map_cons, List.map_nil]); first | done | rfl | (simp only [List.length_drop, List.length_take]; rfl)) ?_
             with_reducible refine (cell_Write.calls t977 t978 t979 t980 t981 t982 t983 t984 a1 t968 t969 t970 t985 t986 t987 t988 t989 t990 t991 t992 _ A80.out).mono ?_
             rintro e w144 ⟨rfl, hb⟩
             refine ⟨_, rfl, ?_⟩
             replace BK956 := bB BK956 hb
             replace BK957 := bB BK957 hb
             replace BK958 := bB BK958 hb
             replace BK1001 := bB BK1001 hb
             replace HB := bW HB hb
             (try clear hb)
             (try clear hb2)
             (try clear hk)
             (try clear hi)
             refine hK.out _ _ (bn8 BK956 (bn3 BK957 (be3 BK958))) (fun hHeld => ?_)
             clear hK K
             refine norm_ (a' := ?_) ?_ ?_
             rotate_left
             ·show Act.put _ (some 54) _ = _
              simp only [Act.put, List.setIfInBounds_toArray, List.set_cons_zero, List.set_cons_succ, i64_w, i32_w]
              rfl
             refine one_ (i := 7) (N := some 57) #[true, true, true, true, true, true, true, true, true, false] rfl rfl (one_of HT_.out (by kernel_rfl)) (by decide) (fun K hK => ?_)
             refine goes_ Try.func27 (by kernel_rfl) rfl #[.agg #[.string t985, .int .i64 t986, .float .f64 t987, .string t988, .int .i64 t989, .int .i64 t990, .float .f64 t991, .string t992], .int .i64 a1, .agg #[.int .i64 t971, .float .f64 t972, .string t973]] (by rfl) rfl rfl (by (try simp only [List.map_toArray, List.map_cons, List.map_nil]); first | done | rfl | (simp only [List.length_drop, List.length_take]; rfl)) ?_
             with_reducible refine (cell_Write.calls t985 t986 t987 t988 t989 t990 t991 t992 a1 t971 t972 t973 t993 t994 t995 t996 t997 t998 t999 t1000 _ A81.out).mono ?_
             rintro e w145 ⟨rfl, hb⟩
             refine ⟨_, rfl, ?_⟩
             replace BK956 := bB BK956 hb
             replace BK957 := bB BK957 hb
             replace BK958 := bB BK958 hb
             replace BK1001 := bB BK1001 hb
             replace HB := bW HB hb
             (try clear hb)
             (try clear hb2)
             (try clear hk)
             (try clear hi)
             refine hK.out _ _ (bn8 BK956 (bn3 BK957 (be3 BK958))) (fun hHeld => ?_)
             clear hK K
             refine norm_ (a' := ?_) ?_ ?_
             rotate_left
             ·show Act.put _ (some 57) _ = _
              simp only [Act.put, List.setIfInBounds_toArray, List.set_cons_zero, List.set_cons_succ, i64_w, i32_w]
              rfl
             exact norm_ (by simp only [putAll, Act.put, List.setIfInBounds_toArray, List.set_cons_zero, List.set_cons_succ]) (hCont (gb1001) _ ⟨hHeld, (bQ BK1001), (bQ BK956), (bQ BK957), (bQ BK958), GW1001.out, GE1001.out, NB956_1001.out, NB1001_956.out, NB957_1001.out, NB1001_957.out, NB958_1001.out, NB1001_958.out, (bC HB)⟩)
           rintro gb1001 w146 ⟨hS_, h0_, h1_, h2_, h3_, h4_, h5_, h6_, h7_, h8_, h9_, h10_, h11_, h12_⟩
           have n0_ : Aside0 (w146.heap[gb1001]? = some (.cells #[.string (⟨#[]⟩ : ByteArray), .int .i64 0, .float .f64 0, .string (⟨#[]⟩ : ByteArray), .int .i64 0, .int .i64 0, .float .f64 0, .string (⟨#[]⟩ : ByteArray)] 31 (0, 0))) := ⟨h0_⟩
           have n1_ : Aside0 (w146.heap[gb956]? = some (.cells #[.string t960, .int .i64 t961, .float .f64 t962, .string t963, .int .i64 t964, .int .i64 t965, .float .f64 t966, .string t967] 26 (0, 0))) := ⟨h1_⟩
           have n2_ : Aside0 (w146.heap[gb957]? = some (.cells #[.int .i64 t968, .float .f64 t969, .string t970] 24 (0, 0))) := ⟨h2_⟩
           have n3_ : Aside0 (w146.heap[gb958]? = some (.cells #[.int .i64 t971, .float .f64 t972, .string t973] 24 (0, 0))) := ⟨h3_⟩
           have n4_ : Aside0 (w.heap.size ≤ gb1001) := ⟨h4_⟩
           have n5_ : Aside0 (w.heap.size ≤ gb1001) := ⟨h5_⟩
           have n6_ : Aside0 (gb956 ≠ gb1001) := ⟨h6_⟩
           have n7_ : Aside0 (gb1001 ≠ gb956) := ⟨h7_⟩
           have n8_ : Aside0 (gb957 ≠ gb1001) := ⟨h8_⟩
           have n9_ : Aside0 (gb1001 ≠ gb957) := ⟨h9_⟩
           have n10_ : Aside0 (gb958 ≠ gb1001) := ⟨h10_⟩
           have n11_ : Aside0 (gb1001 ≠ gb958) := ⟨h11_⟩
           have n12_ : Aside0 (Below w.heap.size w w146) := ⟨h12_⟩
           clear BK956
           clear BK957
           clear BK958
           clear HB
           clear h0_ h1_ h2_ h3_ h4_ h5_ h6_ h7_ h8_ h9_ h10_ h11_ h12_
           have BK1001 := n0_
           have BK956 := n1_
           have BK957 := n2_
           have BK958 := n3_
           have GW1001 := n4_
           have GE1001 := n5_
           have NB956_1001 := n6_
           have NB1001_956 := n7_
           have NB957_1001 := n8_
           have NB1001_957 := n9_
           have NB958_1001 := n10_
           have NB1001_958 := n11_
           have HB := n12_
           clear n0_ n1_ n2_ n3_ n4_ n5_ n6_ n7_ n8_ n9_ n10_ n11_ n12_
           have hHeld : w146.cell? ⟨gb956, 0, none⟩ = some (.string t960) ∧ w146.cell? ⟨gb956, 1, none⟩ = some (.int .i64 t961) ∧ w146.cell? ⟨gb956, 2, none⟩ = some (.float .f64 t962) ∧ w146.cell? ⟨gb956, 3, none⟩ = some (.string t963) ∧ w146.cell? ⟨gb956, 4, none⟩ = some (.int .i64 t964) ∧ w146.cell? ⟨gb956, 5, none⟩ = some (.int .i64 t965) ∧ w146.cell? ⟨gb956, 6, none⟩ = some (.float .f64 t966) ∧ w146.cell? ⟨gb956, 7, none⟩ = some (.string t967) ∧ w146.cell? ⟨gb957, 0, none⟩ = some (.int .i64 t968) ∧ w146.cell? ⟨gb957, 1, none⟩ = some (.float .f64 t969) ∧ w146.cell? ⟨gb957, 2, none⟩ = some (.string t970) ∧ w146.cell? ⟨gb958, 0, none⟩ = some (.int .i64 t971) ∧ w146.cell? ⟨gb958, 1, none⟩ = some (.float .f64 t972) ∧ w146.cell? ⟨gb958, 2, none⟩ = some (.string t973) := hS_
           refine norm_ (a' := ?_) ?_ ?_
           rotate_left
           ·simp only [putAll, Act.put, List.setIfInBounds_toArray, List.set_cons_zero, List.set_cons_succ]
            rfl
           refine one_ (i := 9) (N := none) #[true, true, true, true, true, true, true, true, true, true] rfl rfl (one_of HT_.out (by kernel_rfl)) (by decide) (fun K hK => ?_)
           have hs147 : w146.cell? ⟨gb1001, 0, none⟩ = some (.string (⟨#[]⟩ : ByteArray)) := (blk_cell BK1001.out 0).trans rfl
           have hfs147 := blk_frozen BK1001.out 0
           have hns147_0 := NB956_1001.out
           have hns147_1 := NB957_1001.out
           have hns147_2 := NB958_1001.out
           have hms147_0 := NB1001_956.out
           have hms147_1 := NB1001_957.out
           have hms147_2 := NB1001_958.out
           have hs148 : w146.cell? ⟨gb1001, 1, none⟩ = some (.int .i64 0) := (blk_cell BK1001.out 1).trans rfl
           have hfs148 := blk_frozen BK1001.out 1
           have hns148_0 := NB956_1001.out
           have hns148_1 := NB957_1001.out
           have hns148_2 := NB958_1001.out
           have hms148_0 := NB1001_956.out
           have hms148_1 := NB1001_957.out
           have hms148_2 := NB1001_958.out
           have hs149 : w146.cell? ⟨gb1001, 2, none⟩ = some (.float .f64 0) := (blk_cell BK1001.out 2).trans rfl
           have hfs149 := blk_frozen BK1001.out 2
           have hns149_0 := NB956_1001.out
           have hns149_1 := NB957_1001.out
           have hns149_2 := NB958_1001.out
           have hms149_0 := NB1001_956.out
           have hms149_1 := NB1001_957.out
           have hms149_2 := NB1001_958.out
           have hs150 : w146.cell? ⟨gb1001, 3, none⟩ = some (.string (⟨#[]⟩ : ByteArray)) := (blk_cell BK1001.out 3).trans rfl
           have hfs150 := blk_frozen BK1001.out 3
           have hns150_0 := NB956_1001.out
           have hns150_1 := NB957_1001.out
           have hns150_2 := NB958_1001.out
           have hms150_0 := NB1001_956.out
           have hms150_1 := NB1001_957.out
           have hms150_2 := NB1001_958.out
           have hs151 : w146.cell? ⟨gb1001, 4, none⟩ = some (.int .i64 0) := (blk_cell BK1001.out 4).trans rfl
           have hfs151 := blk_frozen BK1001.out 4
           have hns151_0 := NB956_1001.out
           have hns151_1 := NB957_1001.out
           have hns151_2 := NB958_1001.out
           have hms151_0 := NB1001_956.out
           have hms151_1 := NB1001_957.out
           have hms151_2 := NB1001_958.out
           have hs152 : w146.cell? ⟨gb1001, 5, none⟩ = some (.int .i64 0) := (blk_cell BK1001.out 5).trans rfl
           have hfs152 := blk_frozen BK1001.out 5
           have hns152_0 := NB956_1001.out
           have hns152_1 := NB957_1001.out
           have hns152_2 := NB958_1001.out
           have hms152_0 := NB1001_956.out
           have hms152_1 := NB1001_957.out
           have hms152_2 := NB1001_958.out
           have hs153 : w146.cell? ⟨gb1001, 6, none⟩ = some (.float .f64 0) := (blk_cell BK1001.out 6).trans rfl
           have hfs153 := blk_frozen BK1001.out 6
           have hns153_0 := NB956_1001.out
           have hns153_1 := NB957_1001.out
           have hns153_2 := NB958_1001.out
           have hms153_0 := NB1001_956.out
           have hms153_1 := NB1001_957.out
           have hms153_2 := NB1001_958.out
           have hs154 : w146.cell? ⟨gb1001, 7, none⟩ = some (.string (⟨#[]⟩ : ByteArray)) := (blk_cell BK1001.out 7).trans rfl
           have hfs154 := blk_frozen BK1001.out 7
           have hns154_0 := NB956_1001.out
           have hns154_1 := NB957_1001.out
           have hns154_2 := NB958_1001.out
           have hms154_0 := NB1001_956.out
           have hms154_1 := NB1001_957.out
           have hms154_2 := NB1001_958.out
           with_reducible refine skip_ (w1 := ?_) (by with_unfolding_all rfl) (by with_unfolding_all rfl) ?_ ?_
           rotate_left
           ·go_simp
            rfl
           refine hK.out _ _ ⟨(bT hHeld.1), (bT hHeld.2.1), (bT hHeld.2.2.1), (bT hHeld.2.2.2.1), (bT hHeld.2.2.2.2.1), (bT hHeld.2.2.2.2.2.1), (bT hHeld.2.2.2.2.2.2.1), (bT hHeld.2.2.2.2.2.2.2.1), (bT hHeld.2.2.2.2.2.2.2.2.1), (bT hHeld.2.2.2.2.2.2.2.2.2.1), (bT hHeld.2.2.2.2.2.2.2.2.2.2.1), (bT hHeld.2.2.2.2.2.2.2.2.2.2.2.1), (bT hHeld.2.2.2.2.2.2.2.2.2.2.2.2.1), (bT hHeld.2.2.2.2.2.2.2.2.2.2.2.2.2)⟩ (fun hHeld => ?_)
           clear hK K
           refine done_ (done_of HT_.out (by kernel_rfl)) ?_
           have hnb155 := NB1001_956.out
           have hnc155 := NB956_1001.out
           have hnb156 := NB1001_957.out
           have hnc156 := NB957_1001.out
           have hnb157 := NB1001_958.out
           have hnc157 := NB958_1001.out
           obtain ⟨hcz158_0, hcz158_1, hcz158_2, hcz158_3, hcz158_4, hcz158_5, hcz158_6, hcz158_7, hfz158_0, hfz158_1, hfz158_2, hfz158_3, hfz158_4, hfz158_5, hfz158_6, hfz158_7⟩ := bf8 (w := w146) BK1001
           try go_wp2_with (first | ((with_reducible refine gate_callee (f := 23) rfl ?_); refine goesL_ (some 60) rfl rfl Try.func23 (by kernel_rfl) rfl #[.agg #[.string t993, .int .i64 t994, .float .f64 t995, .string t996, .int .i64 t997, .int .i64 t998, .float .f64 t999, .string t1000]] rfl (by (try simp only [List.map_toArray, List.map_cons, List.map_nil]); first | done | rfl | (simp only [List.length_drop, List.length_take]; rfl)) ?_; (with_reducible refine (cell_Undo.calls t993 t994 t995 t996 t997 t998 t999 t1000 t1002 t1003 t1004 t1005 t1006 t1007 t1008 t1009 true _ A82.out).mono ?_); rintro e w159 ⟨rfl, hb⟩; refine ⟨_, rfl, ?_⟩; replace BK956 := bB BK956 hb; replace BK957 := bB BK957 hb; replace BK958 := bB BK958 hb; replace BK1001 := Aside0.mk (blk_below (g := gb1001) (o := .cells #[.string t993, .int .i64 t994, .float .f64 t995, .string t996, .int .i64 t997, .int .i64 t998, .float .f64 t999, .string t1000] 31 (0, 0)) (bR BK1001) hb); replace HB := bW HB hb; (try clear hb); (try clear hb2); (try clear hk); (try clear hi)) | ((with_reducible refine gate_dst (N := 11) rfl ?_); refine box_event ?hg (N := 11) ?hd (cs := #[.string (⟨#[]⟩ : ByteArray), .int .i64 0, .float .f64 0, .string (⟨#[]⟩ : ByteArray), .int .i64 0, .int .i64 0, .float .f64 0, .string (⟨#[]⟩ : ByteArray)]) (t := 31) ?hr ?_; (case hd => rfl); (case hg => rfl); (case hr => first | (go_simp; done) | (go_simp; rfl)); intro gb1011 hg w160 hbox hb; have BK1011 := Aside0.mk (hbox); have GW1011 := bZ HB hg; have GE1011 := bZ HB hg; have NB956_1011 := bL BK956 hg; have NB1011_956 := bG BK956 hg; have NB957_1011 := bL BK957 hg; have NB1011_957 := bG BK957 hg; have NB958_1011 := bL BK958 hg; have NB1011_958 := bG BK958 hg; have NB1001_1011 := bL BK1001 hg; have NB1011_1001 := bG BK1001 hg; replace BK956 := bB BK956 hb; replace BK957 := bB BK957 hb; replace BK958 := bB BK958 hb; replace BK1001 := bB BK1001 hb; replace HB := bW HB hb; clear hb hbox hg; have hnb161 := NB1011_956.out; have hnc161 := NB956_1011.out; have hnb162 := NB1011_957.out; have hnc162 := NB957_1011.out; have hnb163 := NB1011_958.out; have hnc163 := NB958_1011.out; have hnb164 := NB1011_1001.out; have hnc164 := NB1001_1011.out; obtain ⟨hcz165_0, hcz165_1, hcz165_2, hcz165_3, hcz165_4, hcz165_5, hcz165_6, hcz165_7, hfz165_0, hfz165_1, hfz165_2, hfz165_3, hfz165_4, hfz165_5, hfz165_6, hfz165_7⟩ := bf8 (w := w160) BK1011; obtain ⟨hcz166_0, hcz166_1, hcz166_2, hcz166_3, hcz166_4, hcz166_5, hcz166_6, hcz166_7, hfz166_0, hfz166_1, hfz166_2, hfz166_3, hfz166_4, hfz166_5, hfz166_6, hfz166_7⟩ := bf8 (w := w160) BK1001) | ((with_reducible refine gate_callee (f := 21) rfl ?_); refine goesL_ (some 65) rfl rfl Try.func21 (by kernel_rfl) rfl #[.agg #[.string t993, .int .i64 t994, .float .f64 t995, .string t996, .int .i64 t997, .int .i64 t998, .float .f64 t999, .string t1000]] rfl (by (try simp only [List.map_toArray, List.map_cons, List.map_nil]); first | done | rfl | (simp only [List.length_drop, List.length_take]; rfl)) ?_; (with_reducible refine (cell_Commit.calls t993 t994 t995 t996 t997 t998 t999 t1000 t1012 t1013 t1014 t1015 t1016 t1017 t1018 t1019 false _ A83.out).mono ?_); rintro e w167 ⟨rfl, hb⟩; refine ⟨_, rfl, ?_⟩; replace BK956 := bB BK956 hb; replace BK957 := bB BK957 hb; replace BK958 := bB BK958 hb; replace BK1001 := bB BK1001 hb; replace BK1011 := Aside0.mk (blk_below (g := gb1011) (o := .cells #[.string t1002, .int .i64 t1003, .float .f64 t1004, .string t1005, .int .i64 t1006, .int .i64 t1007, .float .f64 t1008, .string t1009] 31 (0, 0)) (bR BK1011) hb); replace HB := bW HB hb; (try clear hb); (try clear hb2); (try clear hk); (try clear hi)) | ((with_reducible refine gate_dst (N := 13) rfl ?_); refine box_event ?hg (N := 13) ?hd (cs := #[.string (⟨#[]⟩ : ByteArray), .int .i64 0, .float .f64 0, .string (⟨#[]⟩ : ByteArray), .int .i64 0, .int .i64 0, .float .f64 0, .string (⟨#[]⟩ : ByteArray)]) (t := 31) ?hr ?_; (case hd => rfl); (case hg => rfl); (case hr => first | (go_simp; done) | (go_simp; rfl)); intro gb1021 hg w168 hbox hb; have BK1021 := Aside0.mk (hbox); have GW1021 := bZ HB hg; have GE1021 := bZ HB hg; have NB956_1021 := bL BK956 hg; have NB1021_956 := bG BK956 hg; have NB957_1021 := bL BK957 hg; have NB1021_957 := bG BK957 hg; have NB958_1021 := bL BK958 hg; have NB1021_958 := bG BK958 hg; have NB1001_1021 := bL BK1001 hg; have NB1021_1001 := bG BK1001 hg; have NB1011_1021 := bL BK1011 hg; have NB1021_1011 := bG BK1011 hg; replace BK956 := bB BK956 hb; replace BK957 := bB BK957 hb; replace BK958 := bB BK958 hb; replace BK1001 := bB BK1001 hb; replace BK1011 := bB BK1011 hb; replace HB := bW HB hb; clear hb hbox hg; have hnb169 := NB1021_956.out; have hnc169 := NB956_1021.out; have hnb170 := NB1021_957.out; have hnc170 := NB957_1021.out; have hnb171 := NB1021_958.out; have hnc171 := NB958_1021.out; have hnb172 := NB1021_1001.out; have hnc172 := NB1001_1021.out; have hnb173 := NB1021_1011.out; have hnc173 := NB1011_1021.out; obtain ⟨hcz174_0, hcz174_1, hcz174_2, hcz174_3, hcz174_4, hcz174_5, hcz174_6, hcz174_7, hfz174_0, hfz174_1, hfz174_2, hfz174_3, hfz174_4, hfz174_5, hfz174_6, hfz174_7⟩ := bf8 (w := w168) BK1021))
           have n0_ : Aside0 (((((((((w168.setCell ⟨gb1021, 0, none⟩ (.string t1012)).setCell ⟨gb1021, 1, none⟩ (.int .i64 t1013)).setCell ⟨gb1021, 2, none⟩ (.float .f64 t1014)).setCell ⟨gb1021, 3, none⟩ (.string t1015)).setCell ⟨gb1021, 4, none⟩ (.int .i64 t1016)).setCell ⟨gb1021, 5, none⟩ (.int .i64 t1017)).setCell ⟨gb1021, 6, none⟩ (.float .f64 t1018)).setCell ⟨gb1021, 7, none⟩ (.string t1019)).heap[gb956]? = some (.cells #[.string t960, .int .i64 t961, .float .f64 t962, .string t963, .int .i64 t964, .int .i64 t965, .float .f64 t966, .string t967] 26 (0, 0))) := bS BK956
           have n1_ : Aside0 (((((((((w168.setCell ⟨gb1021, 0, none⟩ (.string t1012)).setCell ⟨gb1021, 1, none⟩ (.int .i64 t1013)).setCell ⟨gb1021, 2, none⟩ (.float .f64 t1014)).setCell ⟨gb1021, 3, none⟩ (.string t1015)).setCell ⟨gb1021, 4, none⟩ (.int .i64 t1016)).setCell ⟨gb1021, 5, none⟩ (.int .i64 t1017)).setCell ⟨gb1021, 6, none⟩ (.float .f64 t1018)).setCell ⟨gb1021, 7, none⟩ (.string t1019)).heap[gb957]? = some (.cells #[.int .i64 t968, .float .f64 t969, .string t970] 24 (0, 0))) := bS BK957
           have n2_ : Aside0 (((((((((w168.setCell ⟨gb1021, 0, none⟩ (.string t1012)).setCell ⟨gb1021, 1, none⟩ (.int .i64 t1013)).setCell ⟨gb1021, 2, none⟩ (.float .f64 t1014)).setCell ⟨gb1021, 3, none⟩ (.string t1015)).setCell ⟨gb1021, 4, none⟩ (.int .i64 t1016)).setCell ⟨gb1021, 5, none⟩ (.int .i64 t1017)).setCell ⟨gb1021, 6, none⟩ (.float .f64 t1018)).setCell ⟨gb1021, 7, none⟩ (.string t1019)).heap[gb958]? = some (.cells #[.int .i64 t971, .float .f64 t972, .string t973] 24 (0, 0))) := bS BK958
           have n3_ : Aside0 (((((((((w168.setCell ⟨gb1021, 0, none⟩ (.string t1012)).setCell ⟨gb1021, 1, none⟩ (.int .i64 t1013)).setCell ⟨gb1021, 2, none⟩ (.float .f64 t1014)).setCell ⟨gb1021, 3, none⟩ (.string t1015)).setCell ⟨gb1021, 4, none⟩ (.int .i64 t1016)).setCell ⟨gb1021, 5, none⟩ (.int .i64 t1017)).setCell ⟨gb1021, 6, none⟩ (.float .f64 t1018)).setCell ⟨gb1021, 7, none⟩ (.string t1019)).heap[gb1001]? = some (.cells #[.string t993, .int .i64 t994, .float .f64 t995, .string t996, .int .i64 t997, .int .i64 t998, .float .f64 t999, .string t1000] 31 (0, 0))) := bS BK1001
           have n4_ : Aside0 (((((((((w168.setCell ⟨gb1021, 0, none⟩ (.string t1012)).setCell ⟨gb1021, 1, none⟩ (.int .i64 t1013)).setCell ⟨gb1021, 2, none⟩ (.float .f64 t1014)).setCell ⟨gb1021, 3, none⟩ (.string t1015)).setCell ⟨gb1021, 4, none⟩ (.int .i64 t1016)).setCell ⟨gb1021, 5, none⟩ (.int .i64 t1017)).setCell ⟨gb1021, 6, none⟩ (.float .f64 t1018)).setCell ⟨gb1021, 7, none⟩ (.string t1019)).heap[gb1011]? = some (.cells #[.string t1002, .int .i64 t1003, .float .f64 t1004, .string t1005, .int .i64 t1006, .int .i64 t1007, .float .f64 t1008, .string t1009] 31 (0, 0))) := bS BK1011
           have n5_ : Aside0 (((((((((w168.setCell ⟨gb1021, 0, none⟩ (.string t1012)).setCell ⟨gb1021, 1, none⟩ (.int .i64 t1013)).setCell ⟨gb1021, 2, none⟩ (.float .f64 t1014)).setCell ⟨gb1021, 3, none⟩ (.string t1015)).setCell ⟨gb1021, 4, none⟩ (.int .i64 t1016)).setCell ⟨gb1021, 5, none⟩ (.int .i64 t1017)).setCell ⟨gb1021, 6, none⟩ (.float .f64 t1018)).setCell ⟨gb1021, 7, none⟩ (.string t1019)).heap[gb1021]? = some (.cells #[.string t1012, .int .i64 t1013, .float .f64 t1014, .string t1015, .int .i64 t1016, .int .i64 t1017, .float .f64 t1018, .string t1019] 31 (0, 0))) := ⟨by (with_reducible repeat (first | refine blk_drewN ?_ _ | refine blk_drew ?_ | refine blk_alloc ?_ _)); refine blk_put (cs := #[.string t1012, .int .i64 t1013, .float .f64 t1014, .string t1015, .int .i64 t1016, .int .i64 t1017, .float .f64 t1018, .string (⟨#[]⟩ : ByteArray)]) ?_ 7 _ rfl; (with_reducible repeat (first | refine blk_drewN ?_ _ | refine blk_drew ?_ | refine blk_alloc ?_ _)); refine blk_put (cs := #[.string t1012, .int .i64 t1013, .float .f64 t1014, .string t1015, .int .i64 t1016, .int .i64 t1017, .float .f64 0, .string (⟨#[]⟩ : ByteArray)]) ?_ 6 _ rfl; (with_reducible repeat (first | refine blk_drewN ?_ _ | refine blk_drew ?_ | refine blk_alloc ?_ _)); refine blk_put (cs := #[.string t1012, .int .i64 t1013, .float .f64 t1014, .string t1015, .int .i64 t1016, .int .i64 0, .float .f64 0, .string (⟨#[]⟩ : ByteArray)]) ?_ 5 _ rfl; (with_reducible repeat (first | refine blk_drewN ?_ _ | refine blk_drew ?_ | refine blk_alloc ?_ _)); refine blk_put (cs := #[.string t1012, .int .i64 t1013, .float .f64 t1014, .string t1015, .int .i64 0, .int .i64 0, .float .f64 0, .string (⟨#[]⟩ : ByteArray)]) ?_ 4 _ rfl; (with_reducible repeat (first | refine blk_drewN ?_ _ | refine blk_drew ?_ | refine blk_alloc ?_ _)); refine blk_put (cs := #[.string t1012, .int .i64 t1013, .float .f64 t1014, .string (⟨#[]⟩ : ByteArray), .int .i64 0, .int .i64 0, .float .f64 0, .string (⟨#[]⟩ : ByteArray)]) ?_ 3 _ rfl; (with_reducible repeat (first | refine blk_drewN ?_ _ | refine blk_drew ?_ | refine blk_alloc ?_ _)); refine blk_put (cs := #[.string t1012, .int .i64 t1013, .float .f64 0, .string (⟨#[]⟩ : ByteArray), .int .i64 0, .int .i64 0, .float .f64 0, .string (⟨#[]⟩ : ByteArray)]) ?_ 2 _ rfl; (with_reducible repeat (first | refine blk_drewN ?_ _ | refine blk_drew ?_ | refine blk_alloc ?_ _)); refine blk_put (cs := #[.string t1012, .int .i64 0, .float .f64 0, .string (⟨#[]⟩ : ByteArray), .int .i64 0, .int .i64 0, .float .f64 0, .string (⟨#[]⟩ : ByteArray)]) ?_ 1 _ rfl; (with_reducible repeat (first | refine blk_drewN ?_ _ | refine blk_drew ?_ | refine blk_alloc ?_ _)); refine blk_put (cs := #[.string (⟨#[]⟩ : ByteArray), .int .i64 0, .float .f64 0, .string (⟨#[]⟩ : ByteArray), .int .i64 0, .int .i64 0, .float .f64 0, .string (⟨#[]⟩ : ByteArray)]) ?_ 0 _ rfl; (with_reducible repeat (first | refine blk_drewN ?_ _ | refine blk_drew ?_ | refine blk_alloc ?_ _)); exact BK1021.out⟩
           have n6_ : Aside0 (Below w.heap.size w ((((((((w168.setCell ⟨gb1021, 0, none⟩ (.string t1012)).setCell ⟨gb1021, 1, none⟩ (.int .i64 t1013)).setCell ⟨gb1021, 2, none⟩ (.float .f64 t1014)).setCell ⟨gb1021, 3, none⟩ (.string t1015)).setCell ⟨gb1021, 4, none⟩ (.int .i64 t1016)).setCell ⟨gb1021, 5, none⟩ (.int .i64 t1017)).setCell ⟨gb1021, 6, none⟩ (.float .f64 t1018)).setCell ⟨gb1021, 7, none⟩ (.string t1019))) := ⟨by repeat (first | (with_reducible first | exact HB.out | apply below_alloc | apply pw_below_drewN | apply below_drew1 | refine below_set ?_ GE956.out | refine below_set ?_ GE957.out | refine below_set ?_ GE958.out | refine below_set ?_ GE1001.out | refine below_set ?_ GE1011.out | refine below_set ?_ GE1021.out) | exact HB.out)⟩
           (try clear BK956)
           (try clear BK957)
           (try clear BK958)
           (try clear BK1001)
           (try clear BK1011)
           (try clear BK1021)
           (try clear HB)
           generalize ((((((((w168.setCell ⟨gb1021, 0, none⟩ (.string t1012)).setCell ⟨gb1021, 1, none⟩ (.int .i64 t1013)).setCell ⟨gb1021, 2, none⟩ (.float .f64 t1014)).setCell ⟨gb1021, 3, none⟩ (.string t1015)).setCell ⟨gb1021, 4, none⟩ (.int .i64 t1016)).setCell ⟨gb1021, 5, none⟩ (.int .i64 t1017)).setCell ⟨gb1021, 6, none⟩ (.float .f64 t1018)).setCell ⟨gb1021, 7, none⟩ (.string t1019)) = w175 at n0_ n1_ n2_ n3_ n4_ n5_ n6_ ⊢
           have BK956 := n0_
           have BK957 := n1_
           have BK958 := n2_
           have BK1001 := n3_
           have BK1011 := n4_
           have BK1021 := n5_
           have HB := n6_
           clear n0_ n1_ n2_ n3_ n4_ n5_ n6_
           replace BK956 := Aside0.mk (blk_drew BK956.out)
           replace BK957 := Aside0.mk (blk_drew BK957.out)
           replace BK958 := Aside0.mk (blk_drew BK958.out)
           replace BK1001 := Aside0.mk (blk_drew BK1001.out)
           replace BK1011 := Aside0.mk (blk_drew BK1011.out)
           replace BK1021 := Aside0.mk (blk_drew BK1021.out)
           replace HB := Aside0.mk (below_drew1 HB.out)
           refine start_ (n := 46) (S := fun w' => w'.cell? ⟨gb1011, 0, none⟩ = some (.string t1002) ∧ w'.cell? ⟨gb1011, 1, none⟩ = some (.int .i64 t1003) ∧ w'.cell? ⟨gb1011, 2, none⟩ = some (.float .f64 t1004) ∧ w'.cell? ⟨gb1011, 3, none⟩ = some (.string t1005) ∧ w'.cell? ⟨gb1011, 4, none⟩ = some (.int .i64 t1006) ∧ w'.cell? ⟨gb1011, 5, none⟩ = some (.int .i64 t1007) ∧ w'.cell? ⟨gb1011, 6, none⟩ = some (.float .f64 t1008) ∧ w'.cell? ⟨gb1011, 7, none⟩ = some (.string t1009) ∧ w'.cell? ⟨gb956, 0, none⟩ = some (.string t960) ∧ w'.cell? ⟨gb956, 1, none⟩ = some (.int .i64 t961) ∧ w'.cell? ⟨gb956, 2, none⟩ = some (.float .f64 t962) ∧ w'.cell? ⟨gb956, 3, none⟩ = some (.string t963) ∧ w'.cell? ⟨gb956, 4, none⟩ = some (.int .i64 t964) ∧ w'.cell? ⟨gb956, 5, none⟩ = some (.int .i64 t965) ∧ w'.cell? ⟨gb956, 6, none⟩ = some (.float .f64 t966) ∧ w'.cell? ⟨gb956, 7, none⟩ = some (.string t967) ∧ w'.cell? ⟨gb1001, 0, none⟩ = some (.string t993) ∧ w'.cell? ⟨gb1001, 1, none⟩ = some (.int .i64 t994) ∧ w'.cell? ⟨gb1001, 2, none⟩ = some (.float .f64 t995) ∧ w'.cell? ⟨gb1001, 3, none⟩ = some (.string t996) ∧ w'.cell? ⟨gb1001, 4, none⟩ = some (.int .i64 t997) ∧ w'.cell? ⟨gb1001, 5, none⟩ = some (.int .i64 t998) ∧ w'.cell? ⟨gb1001, 6, none⟩ = some (.float .f64 t999) ∧ w'.cell? ⟨gb1001, 7, none⟩ = some (.string t1000) ∧ w'.cell? ⟨gb958, 0, none⟩ = some (.int .i64 t971) ∧ w'.cell? ⟨gb958, 1, none⟩ = some (.float .f64 t972) ∧ w'.cell? ⟨gb958, 2, none⟩ = some (.string t973)) (ds := []) #[false, false, false, false, false, false, false, false, false, false, false, false, false, false, false, false, false, false, false, false, false, false, false, false, false, false, false, false, false, false, false, false, false, false, false, false, false, false, false, false, false, false, false, false, false, false] (by kernel_rfl) rfl rfl (bn8 BK1011 (bn8 BK956 (bn8 BK1001 (be3 BK958)))) (fun hHeld => ?_); refine with_tabW engrosslaw10_CellTwice.tab10 engrosslaw10_CellTwice.bits10 (fun HT_ HW_ => ?_)
           generalize w175.drew = w176 at BK956 BK957 BK958 BK1001 BK1011 BK1021 HB hHeld ⊢
           refine pure_ (i := 0) (N := some 68) (v := ?_) (a' := ?_) #[true, false, false, false, false, false, false, false, false, false, false, false, false, false, false, false, false, false, false, false, false, false, false, false, false, false, false, false, false, false, false, false, false, false, false, false, false, false, false, false, false, false, false, false, false, false] rfl rfl (any_of HT_.out (by kernel_rfl)) (fun _ _ _ h => h) (Or.inl ⟨by rfl, ?_⟩) ?_ ?_
           rotate_left
           ·intro w'
            go_simp
            with_reducible rfl
           rotate_left
           ·simp only [Act.put, List.setIfInBounds_toArray, List.set_cons_zero, List.set_cons_succ, i64_w, i32_w]
            rfl
           refine pure_ (i := 1) (N := some 69) (v := ?_) (a' := ?_) #[true, true, false, false, false, false, false, false, false, false, false, false, false, false, false, false, false, false, false, false, false, false, false, false, false, false, false, false, false, false, false, false, false, false, false, false, false, false, false, false, false, false, false, false, false, false] rfl rfl (any_of HT_.out (by kernel_rfl)) (fun _ _ _ h => h) (Or.inl ⟨by rfl, ?_⟩) ?_ ?_
           rotate_left
           ·intro w'
            go_simp
            with_reducible rfl
           rotate_left
           ·simp only [Act.put, List.setIfInBounds_toArray, List.set_cons_zero, List.set_cons_succ, i64_w, i32_w]
            rfl
           refine take_ (i := 2) (N := some 70) (v := ?_) (a' := ?_) #[true, true, true, false, false, false, false, false, false, false, false, false, false, false, false, false, false, false, false, false, false, false, false, false, false, false, false, false, false, false, false, false, false, false, false, false, false, false, false, false, false, false, false, false, false, false] rfl rfl (take_ofW HT_.out HW_.out (by kernel_rfl)) (fun _ _ _ h => h) (Or.inl ⟨by rfl, ?_⟩) hHeld ?_ ?_
           rotate_left
           ·rintro w' ⟨s0, s1, s2, s3, s4, s5, s6, s7, s8, s9, s10, s11, s12, s13, s14, s15, s16, s17, s18, s19, s20, s21, s22, s23, s24, s25, s26⟩
            go_simp
            with_reducible rfl
           rotate_left
           ·simp only [Act.put, List.setIfInBounds_toArray, List.set_cons_zero, List.set_cons_succ, i64_w, i32_w]
            rfl
           refine take_ (i := 3) (N := some 71) (v := ?_) (a' := ?_) #[true, true, true, true, false, false, false, false, false, false, false, false, false, false, false, false, false, false, false, false, false, false, false, false, false, false, false, false, false, false, false, false, false, false, false, false, false, false, false, false, false, false, false, false, false, false] rfl rfl (take_ofW HT_.out HW_.out (by kernel_rfl)) (fun _ _ _ h => h) (Or.inl ⟨by rfl, ?_⟩) hHeld ?_ ?_
           rotate_left
           ·rintro w' ⟨s0, s1, s2, s3, s4, s5, s6, s7, s8, s9, s10, s11, s12, s13, s14, s15, s16, s17, s18, s19, s20, s21, s22, s23, s24, s25, s26⟩
            go_simp
            with_reducible rfl
           rotate_left
           ·simp only [Act.put, List.setIfInBounds_toArray, List.set_cons_zero, List.set_cons_succ, i64_w, i32_w]
            rfl
           refine one_ (i := 4) (N := some 72) #[true, true, true, true, true, false, false, false, false, false, false, false, false, false, false, false, false, false, false, false, false, false, false, false, false, false, false, false, false, false, false, false, false, false, false, false, false, false, false, false, false, false, false, false, false, false] rfl rfl (one_of HT_.out (by kernel_rfl)) (by decide) (fun K hK => ?_)
           refine goes_ Try.func14 (by kernel_rfl) rfl #[.agg #[.string t960, .int .i64 t961, .float .f64 t962, .string t963, .int .i64 t964, .int .i64 t965, .float .f64 t966, .string t967]] (by rfl) rfl rfl (by (try simp only [List.map_toArray, List.map_cons, List.map_nil]); first | done | rfl | (simp only [List.length_drop, List.length_take]; rfl)) ?_
           with_reducible refine (engrosslaw10_Of.calls t960 t961 t962 t963 t964 t965 t966 t967 t977 t978 t979 t980 t981 t982 t983 t984 _ A85.out).mono ?_
           rintro e w177 ⟨rfl, hb⟩
           refine ⟨_, rfl, ?_⟩
           replace BK956 := bB BK956 hb
           replace BK957 := bB BK957 hb
           replace BK958 := bB BK958 hb
           replace BK1001 := bB BK1001 hb
           replace BK1011 := bB BK1011 hb
           replace BK1021 := bB BK1021 hb
           replace HB := bW HB hb
           (try clear hb)
           (try clear hb2)
           (try clear hk)
           (try clear hi)
           refine hK.out _ _ (bn8 BK1011 (bn8 BK956 (bn8 BK1001 (be3 BK958)))) (fun hHeld => ?_)
           clear hK K
           refine norm_ (a' := ?_) ?_ ?_
           rotate_left
           ·show Act.put _ (some 72) _ = _
            simp only [Act.put, List.setIfInBounds_toArray, List.set_cons_zero, List.set_cons_succ, i64_w, i32_w]
            rfl
           refine one_ (i := 5) (N := some 73) #[true, true, true, true, true, true, false, false, false, false, false, false, false, false, false, false, false, false, false, false, false, false, false, false, false, false, false, false, false, false, false, false, false, false, false, false, false, false, false, false, false, false, false, false, false, false] rfl rfl (one_of HT_.out (by kernel_rfl)) (by decide) (fun K hK => ?_)
           refine goes_ Try.func19 (by kernel_rfl) rfl #[.agg #[.string t1002, .int .i64 t1003, .float .f64 t1004, .string t1005, .int .i64 t1006, .int .i64 t1007, .float .f64 t1008, .string t1009], .agg #[.string t977, .int .i64 t978, .float .f64 t979, .string t980, .int .i64 t981, .int .i64 t982, .float .f64 t983, .string t984]] (by rfl) rfl rfl (by (try simp only [List.map_toArray, List.map_cons, List.map_nil]); first | done | rfl | (simp only [List.length_drop, List.length_take]; rfl)) ?_
           with_reducible refine (cell_Eq.calls t1002 t1003 t1004 t1005 t1006 t1007 t1008 t1009 t977 t978 t979 t980 t981 t982 t983 t984 true _ A86.out).mono ?_
           rintro e w178 ⟨rfl, hb⟩
           refine ⟨_, rfl, ?_⟩
           replace BK956 := bB BK956 hb
           replace BK957 := bB BK957 hb
           replace BK958 := bB BK958 hb
           replace BK1001 := bB BK1001 hb
           replace BK1011 := bB BK1011 hb
           replace BK1021 := bB BK1021 hb
           replace HB := bW HB hb
           (try clear hb)
           (try clear hb2)
           (try clear hk)
           (try clear hi)
           refine hK.out _ _ (bn8 BK1011 (bn8 BK956 (bn8 BK1001 (be3 BK958)))) (fun hHeld => ?_)
           clear hK K
           refine norm_ (a' := ?_) ?_ ?_
           rotate_left
           ·show Act.put _ (some 73) _ = _
            simp only [Act.put, List.setIfInBounds_toArray, List.set_cons_zero, List.set_cons_succ, i64_w, i32_w]
            rfl
           refine pure_ (i := 6) (N := some 74) (v := ?_) (a' := ?_) #[true, true, true, true, true, true, true, false, false, false, false, false, false, false, false, false, false, false, false, false, false, false, false, false, false, false, false, false, false, false, false, false, false, false, false, false, false, false, false, false, false, false, false, false, false, false] rfl rfl (any_of HT_.out (by kernel_rfl)) (fun _ _ _ h => h) (Or.inl ⟨by rfl, ?_⟩) ?_ ?_
           rotate_left
           ·intro w'
            go_simp
            with_reducible rfl
           rotate_left
           ·simp only [Act.put, List.setIfInBounds_toArray, List.set_cons_zero, List.set_cons_succ, i64_w, i32_w]
            rfl
           refine pure_ (i := 7) (N := some 75) (v := ?_) (a' := ?_) #[true, true, true, true, true, true, true, true, false, false, false, false, false, false, false, false, false, false, false, false, false, false, false, false, false, false, false, false, false, false, false, false, false, false, false, false, false, false, false, false, false, false, false, false, false, false] rfl rfl (any_of HT_.out (by kernel_rfl)) (fun _ _ _ h => h) (Or.inl ⟨by rfl, ?_⟩) ?_ ?_
           rotate_left
           ·intro w'
            go_simp
            with_reducible rfl
           rotate_left
           ·simp only [Act.put, List.setIfInBounds_toArray, List.set_cons_zero, List.set_cons_succ, i64_w, i32_w]
            rfl
           refine pure_ (i := 9) (N := some 77) (v := ?_) (a' := ?_) #[true, true, true, true, true, true, true, true, false, true, false, false, false, false, false, false, false, false, false, false, false, false, false, false, false, false, false, false, false, false, false, false, false, false, false, false, false, false, false, false, false, false, false, false, false, false] rfl rfl (any_of HT_.out (by kernel_rfl)) (fun _ _ _ h => h) (Or.inl ⟨by rfl, ?_⟩) ?_ ?_
           rotate_left
           ·intro w'
            go_simp
            with_reducible rfl
           rotate_left
           ·simp only [Act.put, List.setIfInBounds_toArray, List.set_cons_zero, List.set_cons_succ, i64_w, i32_w]
            rfl
           refine take_ (i := 8) (N := some 76) (v := ?_) (a' := ?_) #[true, true, true, true, true, true, true, true, true, true, false, false, false, false, false, false, false, false, false, false, false, false, false, false, false, false, false, false, false, false, false, false, false, false, false, false, false, false, false, false, false, false, false, false, false, false] rfl rfl (take_ofW HT_.out HW_.out (by kernel_rfl)) (fun _ _ _ h => h) (Or.inl ⟨by rfl, ?_⟩) hHeld ?_ ?_
           rotate_left
           ·rintro w' ⟨s0, s1, s2, s3, s4, s5, s6, s7, s8, s9, s10, s11, s12, s13, s14, s15, s16, s17, s18, s19, s20, s21, s22, s23, s24, s25, s26⟩
            go_simp
            with_reducible rfl
           rotate_left
           ·simp only [Act.put, List.setIfInBounds_toArray, List.set_cons_zero, List.set_cons_succ, i64_w, i32_w]
            rfl
           refine take_ (i := 11) (N := some 79) (v := ?_) (a' := ?_) #[true, true, true, true, true, true, true, true, true, true, false, true, false, false, false, false, false, false, false, false, false, false, false, false, false, false, false, false, false, false, false, false, false, false, false, false, false, false, false, false, false, false, false, false, false, false] rfl rfl (take_ofW HT_.out HW_.out (by kernel_rfl)) (fun _ _ _ h => h) (Or.inl ⟨by rfl, ?_⟩) hHeld ?_ ?_
           rotate_left
           ·rintro w' ⟨s0, s1, s2, s3, s4, s5, s6, s7, s8, s9, s10, s11, s12, s13, s14, s15, s16, s17, s18, s19, s20, s21, s22, s23, s24, s25, s26⟩
            go_simp
            with_reducible rfl
           rotate_left
           ·simp only [Act.put, List.setIfInBounds_toArray, List.set_cons_zero, List.set_cons_succ, i64_w, i32_w]
            rfl
           refine one_ (i := 10) (N := some 78) #[true, true, true, true, true, true, true, true, true, true, true, true, false, false, false, false, false, false, false, false, false, false, false, false, false, false, false, false, false, false, false, false, false, false, false, false, false, false, false, false, false, false, false, false, false, false] rfl rfl (one_of HT_.out (by kernel_rfl)) (by decide) (fun K hK => ?_)
           refine goes_ Try.func17 (by kernel_rfl) rfl #[.agg #[.string t993, .int .i64 t994, .float .f64 t995, .string t996, .int .i64 t997, .int .i64 t998, .float .f64 t999, .string t1000], .int .i64 a1] (by rfl) rfl rfl (by (try simp only [List.map_toArray, List.map_cons, List.map_nil]); first | done | rfl | (simp only [List.length_drop, List.length_take]; rfl)) ?_
           with_reducible refine (cell_See.calls t993 t994 t995 t996 t997 t998 t999 t1000 a1 t1031 t1032 t1033 _ A88.out).mono ?_
           rintro e w179 ⟨rfl, hb⟩
           refine ⟨_, rfl, ?_⟩
           replace BK956 := bB BK956 hb
           replace BK957 := bB BK957 hb
           replace BK958 := bB BK958 hb
           replace BK1001 := bB BK1001 hb
           replace BK1011 := bB BK1011 hb
           replace BK1021 := bB BK1021 hb
           replace HB := bW HB hb
           (try clear hb)
           (try clear hb2)
           (try clear hk)
           (try clear hi)
           refine hK.out _ _ (bn8 BK1011 (bn8 BK956 (bn8 BK1001 (be3 BK958)))) (fun hHeld => ?_)
           clear hK K
           refine norm_ (a' := ?_) ?_ ?_
           rotate_left
           ·show Act.put _ (some 78) _ = _
            simp only [Act.put, List.setIfInBounds_toArray, List.set_cons_zero, List.set_cons_succ, i64_w, i32_w]
            rfl
           refine one_ (i := 12) (N := some 80) #[true, true, true, true, true, true, true, true, true, true, true, true, true, false, false, false, false, false, false, false, false, false, false, false, false, false, false, false, false, false, false, false, false, false, false, false, false, false, false, false, false, false, false, false, false, false] rfl rfl (one_of HT_.out (by kernel_rfl)) (by decide) (fun K hK => ?_)
           refine goes_ Try.func16 (by kernel_rfl) rfl #[.agg #[.int .i64 t1031, .float .f64 t1032, .string t1033], .agg #[.int .i64 t971, .float .f64 t972, .string t973]] (by rfl) rfl rfl (by (try simp only [List.map_toArray, List.map_cons, List.map_nil]); first | done | rfl | (simp only [List.length_drop, List.length_take]; rfl)) ?_
           with_reducible refine (engrossref1_EqVal.calls t1031 t1032 t1033 t971 t972 t973 true _ A89.out).mono ?_
           rintro e w180 ⟨rfl, hb⟩
           refine ⟨_, rfl, ?_⟩
           replace BK956 := bB BK956 hb
           replace BK957 := bB BK957 hb
           replace BK958 := bB BK958 hb
           replace BK1001 := bB BK1001 hb
           replace BK1011 := bB BK1011 hb
           replace BK1021 := bB BK1021 hb
           replace HB := bW HB hb
           (try clear hb)
           (try clear hb2)
           (try clear hk)
           (try clear hi)
           refine hK.out _ _ (bn8 BK1011 (bn8 BK956 (bn8 BK1001 (be3 BK958)))) (fun hHeld => ?_)
           clear hK K
           refine norm_ (a' := ?_) ?_ ?_
           rotate_left
           ·show Act.put _ (some 80) _ = _
            simp only [Act.put, List.setIfInBounds_toArray, List.set_cons_zero, List.set_cons_succ, i64_w, i32_w]
            rfl
           refine pure_ (i := 13) (N := some 81) (v := ?_) (a' := ?_) #[true, true, true, true, true, true, true, true, true, true, true, true, true, true, false, false, false, false, false, false, false, false, false, false, false, false, false, false, false, false, false, false, false, false, false, false, false, false, false, false, false, false, false, false, false, false] rfl rfl (any_of HT_.out (by kernel_rfl)) (fun _ _ _ h => h) (Or.inl ⟨by rfl, ?_⟩) ?_ ?_
           rotate_left
           ·intro w'
            go_simp
            with_reducible rfl
           rotate_left
           ·simp only [Act.put, List.setIfInBounds_toArray, List.set_cons_zero, List.set_cons_succ, i64_w, i32_w]
            rfl
           refine pure_ (i := 14) (N := some 82) (v := ?_) (a' := ?_) #[true, true, true, true, true, true, true, true, true, true, true, true, true, true, true, false, false, false, false, false, false, false, false, false, false, false, false, false, false, false, false, false, false, false, false, false, false, false, false, false, false, false, false, false, false, false] rfl rfl (any_of HT_.out (by kernel_rfl)) (fun _ _ _ h => h) (Or.inl ⟨by rfl, ?_⟩) ?_ ?_
           rotate_left
           ·intro w'
            go_simp
            with_reducible rfl
           rotate_left
           ·simp only [Act.put, List.setIfInBounds_toArray, List.set_cons_zero, List.set_cons_succ, i64_w, i32_w]
            rfl
           refine pure_ (i := 16) (N := some 84) (v := ?_) (a' := ?_) #[true, true, true, true, true, true, true, true, true, true, true, true, true, true, true, false, true, false, false, false, false, false, false, false, false, false, false, false, false, false, false, false, false, false, false, false, false, false, false, false, false, false, false, false, false, false] rfl rfl (any_of HT_.out (by kernel_rfl)) (fun _ _ _ h => h) (Or.inl ⟨by rfl, ?_⟩) ?_ ?_
           rotate_left
           ·intro w'
            go_simp
            with_reducible rfl
           rotate_left
           ·simp only [Act.put, List.setIfInBounds_toArray, List.set_cons_zero, List.set_cons_succ, i64_w, i32_w]
            rfl
           refine pure_ (i := 17) (N := some 85) (v := ?_) (a' := ?_) #[true, true, true, true, true, true, true, true, true, true, true, true, true, true, true, false, true, true, false, false, false, false, false, false, false, false, false, false, false, false, false, false, false, false, false, false, false, false, false, false, false, false, false, false, false, false] rfl rfl (any_of HT_.out (by kernel_rfl)) (fun _ _ _ h => h) (Or.inl ⟨by rfl, ?_⟩) ?_ ?_
           rotate_left
           ·intro w'
            go_simp
            with_reducible rfl
           rotate_left
           ·simp only [Act.put, List.setIfInBounds_toArray, List.set_cons_zero, List.set_cons_succ, i64_w, i32_w]
            rfl
           refine pure_ (i := 19) (N := some 87) (v := ?_) (a' := ?_) #[true, true, true, true, true, true, true, true, true, true, true, true, true, true, true, false, true, true, false, true, false, false, false, false, false, false, false, false, false, false, false, false, false, false, false, false, false, false, false, false, false, false, false, false, false, false] rfl rfl (any_of HT_.out (by kernel_rfl)) (fun _ _ _ h => h) (Or.inl ⟨by rfl, ?_⟩) ?_ ?_
           rotate_left
           ·intro w'
            go_simp
            with_reducible rfl
           rotate_left
           ·simp only [Act.put, List.setIfInBounds_toArray, List.set_cons_zero, List.set_cons_succ, i64_w, i32_w]
            rfl
           refine take_ (i := 15) (N := some 83) (v := ?_) (a' := ?_) #[true, true, true, true, true, true, true, true, true, true, true, true, true, true, true, true, true, true, false, true, false, false, false, false, false, false, false, false, false, false, false, false, false, false, false, false, false, false, false, false, false, false, false, false, false, false] rfl rfl (take_ofW HT_.out HW_.out (by kernel_rfl)) (fun _ _ _ h => h) (Or.inl ⟨by rfl, ?_⟩) hHeld ?_ ?_
           rotate_left
           ·rintro w' ⟨s0, s1, s2, s3, s4, s5, s6, s7, s8, s9, s10, s11, s12, s13, s14, s15, s16, s17, s18, s19, s20, s21, s22, s23, s24, s25, s26⟩
            go_simp
            with_reducible rfl
           rotate_left
           ·simp only [Act.put, List.setIfInBounds_toArray, List.set_cons_zero, List.set_cons_succ, i64_w, i32_w]
            rfl
           refine take_ (i := 20) (N := some 88) (v := ?_) (a' := ?_) #[true, true, true, true, true, true, true, true, true, true, true, true, true, true, true, true, true, true, false, true, true, false, false, false, false, false, false, false, false, false, false, false, false, false, false, false, false, false, false, false, false, false, false, false, false, false] rfl rfl (take_ofW HT_.out HW_.out (by kernel_rfl)) (fun _ _ _ h => h) (Or.inl ⟨by rfl, ?_⟩) hHeld ?_ ?_
           rotate_left
           ·rintro w' ⟨s0, s1, s2, s3, s4, s5, s6, s7, s8, s9, s10, s11, s12, s13, s14, s15, s16, s17, s18, s19, s20, s21, s22, s23, s24, s25, s26⟩
            go_simp
            with_reducible rfl
           rotate_left
           ·simp only [Act.put, List.setIfInBounds_toArray, List.set_cons_zero, List.set_cons_succ, i64_w, i32_w]
            rfl
           refine one_ (i := 18) (N := some 86) #[true, true, true, true, true, true, true, true, true, true, true, true, true, true, true, true, true, true, true, true, true, false, false, false, false, false, false, false, false, false, false, false, false, false, false, false, false, false, false, false, false, false, false, false, false, false] rfl rfl (one_of HT_.out (by kernel_rfl)) (by decide) (fun K hK => ?_)
           refine goes_ Try.func17 (by kernel_rfl) rfl #[.agg #[.string t993, .int .i64 t994, .float .f64 t995, .string t996, .int .i64 t997, .int .i64 t998, .float .f64 t999, .string t1000], .int .i64 (wrap64 (a1 + 1))] (by rfl) rfl rfl (by (try simp only [List.map_toArray, List.map_cons, List.map_nil]); first | done | rfl | (simp only [List.length_drop, List.length_take]; rfl)) ?_
           with_reducible refine (cell_See.calls t993 t994 t995 t996 t997 t998 t999 t1000 (wrap64 (a1 + 1)) t1035 t1036 t1037 _ A91.out).mono ?_
           rintro e w181 ⟨rfl, hb⟩
           refine ⟨_, rfl, ?_⟩
           replace BK956 := bB BK956 hb
           replace BK957 := bB BK957 hb
           replace BK958 := bB BK958 hb
           replace BK1001 := bB BK1001 hb
           replace BK1011 := bB BK1011 hb
           replace BK1021 := bB BK1021 hb
           replace HB := bW HB hb
           (try clear hb)
           (try clear hb2)
           (try clear hk)
           (try clear hi)
           refine hK.out _ _ (bn8 BK1011 (bn8 BK956 (bn8 BK1001 (be3 BK958)))) (fun hHeld => ?_)
           clear hK K
           refine norm_ (a' := ?_) ?_ ?_
           rotate_left
           ·show Act.put _ (some 86) _ = _
            simp only [Act.put, List.setIfInBounds_toArray, List.set_cons_zero, List.set_cons_succ, i64_w, i32_w]
            rfl
           refine one_ (i := 21) (N := some 89) #[true, true, true, true, true, true, true, true, true, true, true, true, true, true, true, true, true, true, true, true, true, true, false, false, false, false, false, false, false, false, false, false, false, false, false, false, false, false, false, false, false, false, false, false, false, false] rfl rfl (one_of HT_.out (by kernel_rfl)) (by decide) (fun K hK => ?_)
           refine goes_ Try.func16 (by kernel_rfl) rfl #[.agg #[.int .i64 t1035, .float .f64 t1036, .string t1037], .agg #[.int .i64 t961, .float .f64 t962, .string t963]] (by rfl) rfl rfl (by (try simp only [List.map_toArray, List.map_cons, List.map_nil]); first | done | rfl | (simp only [List.length_drop, List.length_take]; rfl)) ?_
           with_reducible refine (engrossref1_EqVal.calls t1035 t1036 t1037 t961 t962 t963 true _ A92.out).mono ?_
           rintro e w182 ⟨rfl, hb⟩
           refine ⟨_, rfl, ?_⟩
           replace BK956 := bB BK956 hb
           replace BK957 := bB BK957 hb
           replace BK958 := bB BK958 hb
           replace BK1001 := bB BK1001 hb
           replace BK1011 := bB BK1011 hb
           replace BK1021 := bB BK1021 hb
           replace HB := bW HB hb
           (try clear hb)
           (try clear hb2)
           (try clear hk)
           (try clear hi)
           refine hK.out _ _ (bn8 BK1011 (bn8 BK956 (bn8 BK1001 (be3 BK958)))) (fun hHeld => ?_)
           clear hK K
           refine norm_ (a' := ?_) ?_ ?_
           rotate_left
           ·show Act.put _ (some 89) _ = _
            simp only [Act.put, List.setIfInBounds_toArray, List.set_cons_zero, List.set_cons_succ, i64_w, i32_w]
            rfl
           refine pure_ (i := 22) (N := some 90) (v := ?_) (a' := ?_) #[true, true, true, true, true, true, true, true, true, true, true, true, true, true, true, true, true, true, true, true, true, true, true, false, false, false, false, false, false, false, false, false, false, false, false, false, false, false, false, false, false, false, false, false, false, false] rfl rfl (any_of HT_.out (by kernel_rfl)) (fun _ _ _ h => h) (Or.inl ⟨by rfl, ?_⟩) ?_ ?_
           rotate_left
           ·intro w'
            go_simp
            with_reducible rfl
           rotate_left
           ·simp only [Act.put, List.setIfInBounds_toArray, List.set_cons_zero, List.set_cons_succ, i64_w, i32_w]
            rfl
           refine pure_ (i := 23) (N := some 91) (v := ?_) (a' := ?_) #[true, true, true, true, true, true, true, true, true, true, true, true, true, true, true, true, true, true, true, true, true, true, true, true, false, false, false, false, false, false, false, false, false, false, false, false, false, false, false, false, false, false, false, false, false, false] rfl rfl (any_of HT_.out (by kernel_rfl)) (fun _ _ _ h => h) (Or.inl ⟨by rfl, ?_⟩) ?_ ?_
           rotate_left
           ·intro w'
            go_simp
            with_reducible rfl
           rotate_left
           ·simp only [Act.put, List.setIfInBounds_toArray, List.set_cons_zero, List.set_cons_succ, i64_w, i32_w]
            rfl
           refine pure_ (i := 24) (N := some 92) (v := ?_) (a' := ?_) #[true, true, true, true, true, true, true, true, true, true, true, true, true, true, true, true, true, true, true, true, true, true, true, true, true, false, false, false, false, false, false, false, false, false, false, false, false, false, false, false, false, false, false, false, false, false] rfl rfl (any_of HT_.out (by kernel_rfl)) (fun _ _ _ h => h) (Or.inl ⟨by rfl, ?_⟩) ?_ ?_
           rotate_left
           ·intro w'
            go_simp
            with_reducible rfl
           rotate_left
           ·simp only [Act.put, List.setIfInBounds_toArray, List.set_cons_zero, List.set_cons_succ, i64_w, i32_w]
            rfl
           refine pure_ (i := 25) (N := some 93) (v := ?_) (a' := ?_) #[true, true, true, true, true, true, true, true, true, true, true, true, true, true, true, true, true, true, true, true, true, true, true, true, true, true, false, false, false, false, false, false, false, false, false, false, false, false, false, false, false, false, false, false, false, false] rfl rfl (any_of HT_.out (by kernel_rfl)) (fun _ _ _ h => h) (Or.inl ⟨by rfl, ?_⟩) ?_ ?_
           rotate_left
           ·intro w'
            go_simp
            with_reducible rfl
           rotate_left
           ·simp only [Act.put, List.setIfInBounds_toArray, List.set_cons_zero, List.set_cons_succ, i64_w, i32_w]
            rfl
           refine take_ (i := 26) (N := some 94) (v := ?_) (a' := ?_) #[true, true, true, true, true, true, true, true, true, true, true, true, true, true, true, true, true, true, true, true, true, true, true, true, true, true, true, false, false, false, false, false, false, false, false, false, false, false, false, false, false, false, false, false, false, false] rfl rfl (take_ofW HT_.out HW_.out (by kernel_rfl)) (fun _ _ _ h => h) (Or.inl ⟨by rfl, ?_⟩) hHeld ?_ ?_
           rotate_left
           ·rintro w' ⟨s0, s1, s2, s3, s4, s5, s6, s7, s8, s9, s10, s11, s12, s13, s14, s15, s16, s17, s18, s19, s20, s21, s22, s23, s24, s25, s26⟩
            go_simp
            with_reducible rfl
           rotate_left
           ·simp only [Act.put, List.setIfInBounds_toArray, List.set_cons_zero, List.set_cons_succ, i64_w, i32_w]
            rfl
           refine pure_ (i := 27) (N := some 95) (v := ?_) (a' := ?_) #[true, true, true, true, true, true, true, true, true, true, true, true, true, true, true, true, true, true, true, true, true, true, true, true, true, true, true, true, false, false, false, false, false, false, false, false, false, false, false, false, false, false, false, false, false, false] rfl rfl (any_of HT_.out (by kernel_rfl)) (fun _ _ _ h => h) (Or.inl ⟨by rfl, ?_⟩) ?_ ?_
           rotate_left
           ·intro w'
            go_simp
            with_reducible rfl
           rotate_left
           ·simp only [Act.put, List.setIfInBounds_toArray, List.set_cons_zero, List.set_cons_succ, i64_w, i32_w]
            rfl
           refine pure_ (i := 28) (N := some 96) (v := ?_) (a' := ?_) #[true, true, true, true, true, true, true, true, true, true, true, true, true, true, true, true, true, true, true, true, true, true, true, true, true, true, true, true, true, false, false, false, false, false, false, false, false, false, false, false, false, false, false, false, false, false] rfl rfl (any_of HT_.out (by kernel_rfl)) (fun _ _ _ h => h) (Or.inl ⟨by rfl, ?_⟩) ?_ ?_
           rotate_left
           ·intro w'
            go_simp
            with_reducible rfl
           rotate_left
           ·simp only [Act.put, List.setIfInBounds_toArray, List.set_cons_zero, List.set_cons_succ, i64_w, i32_w]
            rfl
           refine pure_ (i := 29) (N := some 97) (v := ?_) (a' := ?_) #[true, true, true, true, true, true, true, true, true, true, true, true, true, true, true, true, true, true, true, true, true, true, true, true, true, true, true, true, true, true, false, false, false, false, false, false, false, false, false, false, false, false, false, false, false, false] rfl rfl (any_of HT_.out (by kernel_rfl)) (fun _ _ _ h => h) (Or.inl ⟨by rfl, ?_⟩) ?_ ?_
           rotate_left
           ·intro w'
            go_simp
            with_reducible rfl
           rotate_left
           ·simp only [Act.put, List.setIfInBounds_toArray, List.set_cons_zero, List.set_cons_succ, i64_w, i32_w]
            rfl
           refine pure_ (i := 30) (N := some 98) (v := ?_) (a' := ?_) #[true, true, true, true, true, true, true, true, true, true, true, true, true, true, true, true, true, true, true, true, true, true, true, true, true, true, true, true, true, true, true, false, false, false, false, false, false, false, false, false, false, false, false, false, false, false] rfl rfl (any_of HT_.out (by kernel_rfl)) (fun _ _ _ h => h) (Or.inl ⟨by rfl, ?_⟩) ?_ ?_
           rotate_left
           ·intro w'
            go_simp
            with_reducible rfl
           rotate_left
           ·simp only [Act.put, List.setIfInBounds_toArray, List.set_cons_zero, List.set_cons_succ, i64_w, i32_w]
            rfl
           refine pure_ (i := 31) (N := some 99) (v := ?_) (a' := ?_) #[true, true, true, true, true, true, true, true, true, true, true, true, true, true, true, true, true, true, true, true, true, true, true, true, true, true, true, true, true, true, true, true, false, false, false, false, false, false, false, false, false, false, false, false, false, false] rfl rfl (any_of HT_.out (by kernel_rfl)) (fun _ _ _ h => h) (Or.inl ⟨by rfl, ?_⟩) ?_ ?_
           rotate_left
           ·intro w'
            go_simp
            with_reducible rfl
           rotate_left
           ·simp only [Act.put, List.setIfInBounds_toArray, List.set_cons_zero, List.set_cons_succ, i64_w, i32_w]
            rfl
           refine pure_ (i := 32) (N := some 100) (v := ?_) (a' := ?_) #[true, true, true, true, true, true, true, true, true, true, true, true, true, true, true, true, true, true, true, true, true, true, true, true, true, true, true, true, true, true, true, true, true, false, false, false, false, false, false, false, false, false, false, false, false, false] rfl rfl (any_of HT_.out (by kernel_rfl)) (fun _ _ _ h => h) (Or.inl ⟨by rfl, ?_⟩) ?_ ?_
           rotate_left
           ·intro w'
            go_simp
            with_reducible rfl
           rotate_left
           ·simp only [Act.put, List.setIfInBounds_toArray, List.set_cons_zero, List.set_cons_succ, i64_w, i32_w]
            rfl
           refine pure_ (i := 33) (N := some 101) (v := ?_) (a' := ?_) #[true, true, true, true, true, true, true, true, true, true, true, true, true, true, true, true, true, true, true, true, true, true, true, true, true, true, true, true, true, true, true, true, true, true, false, false, false, false, false, false, false, false, false, false, false, false] rfl rfl (any_of HT_.out (by kernel_rfl)) (fun _ _ _ h => h) (Or.inl ⟨by rfl, ?_⟩) ?_ ?_
           rotate_left
           ·intro w'
            go_simp
            with_reducible rfl
           rotate_left
           ·simp only [Act.put, List.setIfInBounds_toArray, List.set_cons_zero, List.set_cons_succ, i64_w, i32_w]
            rfl
           refine pure_ (i := 34) (N := some 102) (v := undef) (a' := ?_) #[true, true, true, true, true, true, true, true, true, true, true, true, true, true, true, true, true, true, true, true, true, true, true, true, true, true, true, true, true, true, true, true, true, true, true, false, false, false, false, false, false, false, false, false, false, false] rfl rfl (any_of HT_.out (by kernel_rfl)) (fun _ _ _ h => h) (Or.inr ⟨by rfl, rfl⟩) ?_ ?_
           rotate_left
           ·simp only [Act.put, List.setIfInBounds_toArray, List.set_cons_zero, List.set_cons_succ, i64_w, i32_w]
            rfl
           refine pure_ (i := 35) (N := some 103) (v := undef) (a' := ?_) #[true, true, true, true, true, true, true, true, true, true, true, true, true, true, true, true, true, true, true, true, true, true, true, true, true, true, true, true, true, true, true, true, true, true, true, true, false, false, false, false, false, false, false, false, false, false] rfl rfl (any_of HT_.out (by kernel_rfl)) (fun _ _ _ h => h) (Or.inr ⟨by rfl, rfl⟩) ?_ ?_
           rotate_left
           ·simp only [Act.put, List.setIfInBounds_toArray, List.set_cons_zero, List.set_cons_succ, i64_w, i32_w]
            rfl
           refine pure_ (i := 36) (N := some 104) (v := undef) (a' := ?_) #[true, true, true, true, true, true, true, true, true, true, true, true, true, true, true, true, true, true, true, true, true, true, true, true, true, true, true, true, true, true, true, true, true, true, true, true, true, false, false, false, false, false, false, false, false, false] rfl rfl (any_of HT_.out (by kernel_rfl)) (fun _ _ _ h => h) (Or.inr ⟨by rfl, rfl⟩) ?_ ?_
           rotate_left
           ·simp only [Act.put, List.setIfInBounds_toArray, List.set_cons_zero, List.set_cons_succ, i64_w, i32_w]
            rfl
           refine pure_ (i := 37) (N := some 105) (v := undef) (a' := ?_) #[true, true, true, true, true, true, true, true, true, true, true, true, true, true, true, true, true, true, true, true, true, true, true, true, true, true, true, true, true, true, true, true, true, true, true, true, true, true, false, false, false, false, false, false, false, false] rfl rfl (any_of HT_.out (by kernel_rfl)) (fun _ _ _ h => h) (Or.inr ⟨by rfl, rfl⟩) ?_ ?_
           rotate_left
           ·simp only [Act.put, List.setIfInBounds_toArray, List.set_cons_zero, List.set_cons_succ, i64_w, i32_w]
            rfl
           refine pure_ (i := 38) (N := some 106) (v := undef) (a' := ?_) #[true, true, true, true, true, true, true, true, true, true, true, true, true, true, true, true, true, true, true, true, true, true, true, true, true, true, true, true, true, true, true, true, true, true, true, true, true, true, true, false, false, false, false, false, false, false] rfl rfl (any_of HT_.out (by kernel_rfl)) (fun _ _ _ h => h) (Or.inr ⟨by rfl, rfl⟩) ?_ ?_
           rotate_left
           ·simp only [Act.put, List.setIfInBounds_toArray, List.set_cons_zero, List.set_cons_succ, i64_w, i32_w]
            rfl
           refine pure_ (i := 39) (N := some 107) (v := undef) (a' := ?_) #[true, true, true, true, true, true, true, true, true, true, true, true, true, true, true, true, true, true, true, true, true, true, true, true, true, true, true, true, true, true, true, true, true, true, true, true, true, true, true, true, false, false, false, false, false, false] rfl rfl (any_of HT_.out (by kernel_rfl)) (fun _ _ _ h => h) (Or.inr ⟨by rfl, rfl⟩) ?_ ?_
           rotate_left
           ·simp only [Act.put, List.setIfInBounds_toArray, List.set_cons_zero, List.set_cons_succ, i64_w, i32_w]
            rfl
           refine pure_ (i := 40) (N := some 108) (v := undef) (a' := ?_) #[true, true, true, true, true, true, true, true, true, true, true, true, true, true, true, true, true, true, true, true, true, true, true, true, true, true, true, true, true, true, true, true, true, true, true, true, true, true, true, true, true, false, false, false, false, false] rfl rfl (any_of HT_.out (by kernel_rfl)) (fun _ _ _ h => h) (Or.inr ⟨by rfl, rfl⟩) ?_ ?_
           rotate_left
           ·simp only [Act.put, List.setIfInBounds_toArray, List.set_cons_zero, List.set_cons_succ, i64_w, i32_w]
            rfl
           refine pure_ (i := 41) (N := some 109) (v := undef) (a' := ?_) #[true, true, true, true, true, true, true, true, true, true, true, true, true, true, true, true, true, true, true, true, true, true, true, true, true, true, true, true, true, true, true, true, true, true, true, true, true, true, true, true, true, true, false, false, false, false] rfl rfl (any_of HT_.out (by kernel_rfl)) (fun _ _ _ h => h) (Or.inr ⟨by rfl, rfl⟩) ?_ ?_
           rotate_left
           ·simp only [Act.put, List.setIfInBounds_toArray, List.set_cons_zero, List.set_cons_succ, i64_w, i32_w]
            rfl
           refine pure_ (i := 42) (N := some 110) (v := undef) (a' := ?_) #[true, true, true, true, true, true, true, true, true, true, true, true, true, true, true, true, true, true, true, true, true, true, true, true, true, true, true, true, true, true, true, true, true, true, true, true, true, true, true, true, true, true, true, false, false, false] rfl rfl (any_of HT_.out (by kernel_rfl)) (fun _ _ _ h => h) (Or.inr ⟨by rfl, rfl⟩) ?_ ?_
           rotate_left
           ·simp only [Act.put, List.setIfInBounds_toArray, List.set_cons_zero, List.set_cons_succ, i64_w, i32_w]
            rfl
           refine pure_ (i := 43) (N := some 111) (v := ?_) (a' := ?_) #[true, true, true, true, true, true, true, true, true, true, true, true, true, true, true, true, true, true, true, true, true, true, true, true, true, true, true, true, true, true, true, true, true, true, true, true, true, true, true, true, true, true, true, true, false, false] rfl rfl (any_of HT_.out (by kernel_rfl)) (fun _ _ _ h => h) (Or.inl ⟨by rfl, ?_⟩) ?_ ?_
           rotate_left
           ·intro w'
            go_simp
            with_reducible rfl
           rotate_left
           ·simp only [Act.put, List.setIfInBounds_toArray, List.set_cons_zero, List.set_cons_succ, i64_w, i32_w]
            rfl
           refine pure_ (i := 44) (N := some 112) (v := ?_) (a' := ?_) #[true, true, true, true, true, true, true, true, true, true, true, true, true, true, true, true, true, true, true, true, true, true, true, true, true, true, true, true, true, true, true, true, true, true, true, true, true, true, true, true, true, true, true, true, true, false] rfl rfl (any_of HT_.out (by kernel_rfl)) (fun _ _ _ h => h) (Or.inl ⟨by rfl, ?_⟩) ?_ ?_
           rotate_left
           ·intro w'
            go_simp
            with_reducible rfl
           rotate_left
           ·simp only [Act.put, List.setIfInBounds_toArray, List.set_cons_zero, List.set_cons_succ, i64_w, i32_w]
            rfl
           refine pure_ (i := 45) (N := some 8) (v := ?_) (a' := ?_) #[true, true, true, true, true, true, true, true, true, true, true, true, true, true, true, true, true, true, true, true, true, true, true, true, true, true, true, true, true, true, true, true, true, true, true, true, true, true, true, true, true, true, true, true, true, true] rfl rfl (any_of HT_.out (by kernel_rfl)) (fun _ _ _ h => h) (Or.inl ⟨by rfl, ?_⟩) ?_ ?_
           rotate_left
           ·intro w'
            go_simp
            with_reducible rfl
           rotate_left
           ·simp only [Act.put, List.setIfInBounds_toArray, List.set_cons_zero, List.set_cons_succ, i64_w, i32_w]
            rfl
           refine done_ (done_of HT_.out (by kernel_rfl)) ?_
           try go_wp2
           go_ret
           exact ⟨by first | rfl | (simp [errW_none, errW_some] <;> rfl) | (simp [*, errW_none, errW_some] <;> rfl), by repeat (first | (with_reducible first | exact HB.out | apply below_alloc | apply pw_below_drewN | apply below_drew1 | refine below_set ?_ GE956.out | refine below_set ?_ GE957.out | refine below_set ?_ GE958.out | refine below_set ?_ GE1001.out | refine below_set ?_ GE1011.out | refine below_set ?_ GE1021.out) | exact HB.out)⟩
         ·rw [if_neg c94] at H
          have c94b0 : (t1020 == (t971 != 0)) = false := by simpa using c94
          (try (have c94b1 : decide (t1020 = (t971 != 0)) = false := by simpa using c94))
          (try (have c94b2 : (t1020 == (t971 != 0)) = false := by simpa using c94))
          (try (have c94b3 : ¬ (t1020 = (t971 != 0)) := by simpa using c94))
          clear c94
          exact absurd H (by simp)
        ·replace c93 := Bool.eq_false_iff.mpr c93
         subst c93
         have H1 : (none) = some r := by rw [if_neg (show ¬ (false = true) by decide)] at H; exact H
         clear H
         have H := H1
         clear H1
         exact absurd H (by simp)
       ·replace c90 := Bool.eq_false_iff.mpr c90
        subst c90
        have H1 : (none) = some r := by rw [if_neg (show ¬ (false = true) by decide)] at H; exact H
        clear H
        have H := H1
        clear H1
        exact absurd H (by simp)
      ·replace c87 := Bool.eq_false_iff.mpr c87
       subst c87
       have H1 : (none) = some r := by rw [if_neg (show ¬ (false = true) by decide)] at H; exact H
       clear H
       have H := H1
       clear H1
       exact absurd H (by simp)
     ·replace c84 := Bool.eq_false_iff.mpr c84
      subst c84
      have H1 : (none) = some r := by rw [if_neg (show ¬ (false = true) by decide)] at H; exact H
      clear H
      have H := H1
      clear H1
      exact absurd H (by simp)
 ·replace c6 := Bool.eq_false_iff.mpr c6
  subst c6
  have H1 : (none) = some r := by rw [if_neg (show ¬ (false = true) by decide)] at H; exact H
  clear H
  have H := H1
  clear H1
  exact absurd H (by simp)

/-- THE ONE PURE STATEMENT of engrosslaw10_CellTwice. -/
def engrosslaw10_CellTwice.Pure : Prop := ∀ (x0 : S26) (a1 : Int) (x2 : S24) (x3 : S24), wf26 x0 → (Lit.int .i64 a1).wf = true → wf24 x2 → wf24 x3 → ∃ k, engrosslaw10_CellTwice.f k x0.f0 x0.f1.f0 x0.f1.f1 x0.f1.f2 x0.f2 x0.f3.f0 x0.f3.f1 x0.f3.f2 a1 x2.f0 x2.f1 x2.f2 x3.f0 x3.f1 x3.f2 = some true

end Go.Proofs.Ytjhbeaffcdkhcaa.P
