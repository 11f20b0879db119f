/- Functions of the program as Lean functions, and that each call answers as its function does. No condition. (Lines written by a generator of this session.) -/
import Derived.Test.YtjhbeaffcdkhcaaPx0
import Derived.Test.YtjhbeaffcdkhcaaPx1
import Derived.Test.YtjhbeaffcdkhcaaPx2
import Derived.Test.YtjhbeaffcdkhcaaPx5
import Derived.Test.YtjhbeaffcdkhcaaPx6
namespace Go.Proofs.Ytjhbeaffcdkhcaa.P
open Go.RowKit Go.Proofs.YtjhbeaffcdkhcaaW.PrintWords Go.Proofs.YtjhbeaffcdkhcaaW.PrintLast Go.Proofs.YtjhbeaffcdkhcaaW.PrintMore
attribute [local go_sem] max2_int min2_int max_two min_two max_three min_three max_four min_four   -- for this text's walks alone
attribute [local go_sem] x_str_gtr x_str_leq x_str_geq ext_bits ext_frombits ext_neg x_store_float Instr.field asAgg
set_option linter.unusedVariables false
set_option linter.unusedSimpArgs false

/-! ### engrosslaw10_CellWho: function 7 -/
def engrosslaw10_CellWho.j0 : Nat → Int → Int → Bool → ByteArray → Int → Nat → ByteArray → Int → Int → Nat → ByteArray → Int → Nat → ByteArray → Option (Bool)
 | 0, _, _, _, _, _, _, _, _, _, _, _, _, _, _ => none
 | k + 1, x1, x2, x43, x894000, x894001, x894002, x894003, x894004, x894005, x894006, x894007, x895000, x895001, x895002 => if x43 = true then (some true) else ((engrosslaw10_Of.f x894000 x894001 x894002 x894003 x894004 x894005 x894006 x894007).bind fun bt909 => ((cell_Write.f bt909.1 bt909.2.1 bt909.2.2.1 bt909.2.2.2.1 bt909.2.2.2.2.1 bt909.2.2.2.2.2.1 bt909.2.2.2.2.2.2.1 bt909.2.2.2.2.2.2.2 x1 x895000 x895001 x895002).bind fun bt917 => ((cell_See.f bt917.1 bt917.2.1 bt917.2.2.1 bt917.2.2.2.1 bt917.2.2.2.2.1 bt917.2.2.2.2.2.1 bt917.2.2.2.2.2.2.1 bt917.2.2.2.2.2.2.2 x1).bind fun bt926 => ((engrossref1_EqVal.f bt926.1 bt926.2.1 bt926.2.2 x895000 x895001 x895002).bind fun t929 => (if t929 = true then ((cell_See.f bt917.1 bt917.2.1 bt917.2.2.1 bt917.2.2.2.1 bt917.2.2.2.2.1 bt917.2.2.2.2.2.1 bt917.2.2.2.2.2.2.1 bt917.2.2.2.2.2.2.2 x2).bind fun bt930 => ((engrossref1_EqVal.f bt930.1 bt930.2.1 bt930.2.2 x894001 x894002 x894003).bind fun t933 => (if t933 = true then ((cell_See.f bt917.1 bt917.2.1 bt917.2.2.1 bt917.2.2.2.1 bt917.2.2.2.2.1 bt917.2.2.2.2.2.1 bt917.2.2.2.2.2.2.1 bt917.2.2.2.2.2.2.2 0).bind fun bt934 => ((engrossref1_EqVal.f bt934.1 bt934.2.1 bt934.2.2 x894001 x894002 x894003).bind fun t937 => (if t937 = true then ((cell_May.f k bt917.1 bt917.2.1 bt917.2.2.1 bt917.2.2.2.1 bt917.2.2.2.2.1 bt917.2.2.2.2.2.1 bt917.2.2.2.2.2.2.1 bt917.2.2.2.2.2.2.2).bind fun t938 => (if t938 = true then ((engrosslaw10_Of.f x894000 x894001 x894002 x894003 x894004 x894005 x894006 x894007).bind fun bt939 => ((cell_Write.f bt939.1 bt939.2.1 bt939.2.2.1 bt939.2.2.2.1 bt939.2.2.2.2.1 bt939.2.2.2.2.2.1 bt939.2.2.2.2.2.2.1 bt939.2.2.2.2.2.2.2 x1 x895000 x895001 x895002).bind fun bt947 => ((cell_Eq.f bt917.1 bt917.2.1 bt917.2.2.1 bt917.2.2.2.1 bt917.2.2.2.2.1 bt917.2.2.2.2.2.1 bt917.2.2.2.2.2.2.1 bt917.2.2.2.2.2.2.2 bt947.1 bt947.2.1 bt947.2.2.1 bt947.2.2.2.1 bt947.2.2.2.2.1 bt947.2.2.2.2.2.1 bt947.2.2.2.2.2.2.1 bt947.2.2.2.2.2.2.2).bind fun t955 => (some t955)))) else (none))) else (none)))) else (none)))) else (none))))))
def engrosslaw10_CellWho.f (k : Nat) (a0_0 : ByteArray) (a0_1 : Int) (a0_2 : Nat) (a0_3 : ByteArray) (a0_4 : Int) (a0_5 : Int) (a0_6 : Nat) (a0_7 : ByteArray) (a1 : Int) (a2 : Int) (a3_0 : Int) (a3_1 : Nat) (a3_2 : ByteArray) : Option (Bool) := (engrosslaw10_begun.f k).bind fun t895 => (if t895 = true then ((engrosslaw10_Cut.f a0_0 a0_1 a0_2 a0_3 a0_4 a0_5 a0_6 a0_7).bind fun bt896 => ((engrosslaw10_Val.f a3_0 a3_1 a3_2).bind fun bt904 => ((engrossref10_May.f bt896.1 bt896.2.1 bt896.2.2.1 bt896.2.2.2.1 bt896.2.2.2.2.1 bt896.2.2.2.2.2.1 bt896.2.2.2.2.2.2.1 bt896.2.2.2.2.2.2.2).bind fun t907 => (if t907 = true then (if bt896.2.2.2.2.1 = 0 then (if a1 < 1 then (engrosslaw10_CellWho.j0 k a1 a2 true bt896.1 bt896.2.1 bt896.2.2.1 bt896.2.2.2.1 bt896.2.2.2.2.1 bt896.2.2.2.2.2.1 bt896.2.2.2.2.2.2.1 bt896.2.2.2.2.2.2.2 bt904.1 bt904.2.1 bt904.2.2) else (if a1 > 1099511627776 then (engrosslaw10_CellWho.j0 k a1 a2 true bt896.1 bt896.2.1 bt896.2.2.1 bt896.2.2.2.1 bt896.2.2.2.2.1 bt896.2.2.2.2.2.1 bt896.2.2.2.2.2.2.1 bt896.2.2.2.2.2.2.2 bt904.1 bt904.2.1 bt904.2.2) else (if a1 = a2 then (engrosslaw10_CellWho.j0 k a1 a2 true bt896.1 bt896.2.1 bt896.2.2.1 bt896.2.2.2.1 bt896.2.2.2.2.1 bt896.2.2.2.2.2.1 bt896.2.2.2.2.2.2.1 bt896.2.2.2.2.2.2.2 bt904.1 bt904.2.1 bt904.2.2) else ((engrossref1_MayVal.f bt904.1 bt904.2.1 bt904.2.2).bind fun t908 => (engrosslaw10_CellWho.j0 k a1 a2 (!t908) bt896.1 bt896.2.1 bt896.2.2.1 bt896.2.2.2.1 bt896.2.2.2.2.1 bt896.2.2.2.2.2.1 bt896.2.2.2.2.2.2.1 bt896.2.2.2.2.2.2.2 bt904.1 bt904.2.1 bt904.2.2))))) else (engrosslaw10_CellWho.j0 k a1 a2 true bt896.1 bt896.2.1 bt896.2.2.1 bt896.2.2.2.1 bt896.2.2.2.2.1 bt896.2.2.2.2.2.1 bt896.2.2.2.2.2.2.1 bt896.2.2.2.2.2.2.2 bt904.1 bt904.2.1 bt904.2.2)) else (engrosslaw10_CellWho.j0 k a1 a2 true bt896.1 bt896.2.1 bt896.2.2.1 bt896.2.2.2.1 bt896.2.2.2.2.1 bt896.2.2.2.2.2.1 bt896.2.2.2.2.2.2.1 bt896.2.2.2.2.2.2.2 bt904.1 bt904.2.1 bt904.2.2))))) else (none))
theorem engrosslaw10_CellWho.mono_l : ∀ k, (∀ y0 y1 y2 y3 y4 y5 y6 y7 y8 y9 y10 y11 y12 y13, LeO (engrosslaw10_CellWho.j0 k y0 y1 y2 y3 y4 y5 y6 y7 y8 y9 y10 y11 y12 y13) (engrosslaw10_CellWho.j0 (k + 1) y0 y1 y2 y3 y4 y5 y6 y7 y8 y9 y10 y11 y12 y13))
 | 0 => fun _ _ _ _ _ _ _ _ _ _ _ _ _ _ r h => by simp [engrosslaw10_CellWho.j0] at h
 | k + 1 => by
  have ih0 := engrosslaw10_CellWho.mono_l k
  ·intro y0 y1 y2 y3 y4 y5 y6 y7 y8 y9 y10 y11 y12 y13
   unfold engrosslaw10_CellWho.j0
   repeat' first
   | (with_reducible exact ih0 _ _ _ _ _ _ _ _ _ _ _ _ _ _)
   | (with_reducible exact cell_May.mono _ _ _ _ _ _ _ _ _)
   | (with_reducible exact engrosslaw10_begun.mono _)
   | (with_reducible exact LeO.refl _)
   | (with_reducible exact LeO.none _)
   | (with_reducible refine LeO.ite ?_ ?_)
   | (with_reducible refine LeO.bind ?_ (fun _ => ?_))
   | exact ih0 _ _ _ _ _ _ _ _ _ _ _ _ _ _
   | exact cell_May.mono _ _ _ _ _ _ _ _ _
   | exact engrosslaw10_begun.mono _
   | exact LeO.none _
   | refine LeO.ite ?_ ?_
   | refine LeO.bind ?_ (fun _ => ?_)
theorem engrosslaw10_CellWho.mono : ∀ a0 a1 a2 a3 a4 a5 a6 a7 a8 a9 a10 a11 a12 k, LeO (engrosslaw10_CellWho.f k a0 a1 a2 a3 a4 a5 a6 a7 a8 a9 a10 a11 a12) (engrosslaw10_CellWho.f (k + 1) a0 a1 a2 a3 a4 a5 a6 a7 a8 a9 a10 a11 a12) := by
 intro a0 a1 a2 a3 a4 a5 a6 a7 a8 a9 a10 a11 a12 k
 have ih0 := engrosslaw10_CellWho.mono_l k
 unfold engrosslaw10_CellWho.f
 repeat' first
   | (with_reducible exact ih0 _ _ _ _ _ _ _ _ _ _ _ _ _ _)
   | (with_reducible exact cell_May.mono _ _ _ _ _ _ _ _ _)
   | (with_reducible exact engrosslaw10_begun.mono _)
   | (with_reducible exact LeO.refl _)
   | (with_reducible exact LeO.none _)
   | (with_reducible refine LeO.ite ?_ ?_)
   | (with_reducible refine LeO.bind ?_ (fun _ => ?_))
   | exact ih0 _ _ _ _ _ _ _ _ _ _ _ _ _ _
   | exact cell_May.mono _ _ _ _ _ _ _ _ _
   | exact engrosslaw10_begun.mono _
   | exact LeO.none _
   | refine LeO.ite ?_ ?_
   | refine LeO.bind ?_ (fun _ => ?_)
def engrosslaw10_CellWho.T8 : Bool × List (List Nat × List Nat) := (true, [([], []), ([], []), ([0, 1], [0, 1]), ([], []), ([2, 3, 2], [2, 3]), ([4, 4], [4]), ([5], [5]), ([5], [5]), ([6, 7, 5, 5], [5, 6, 7]), ([5], [5]), ([9, 5], [5, 9]), ([8, 10, 8, 5], [5, 8, 10]), ([5, 11], [5, 11]), ([12, 11], [12]), ([13], [13]), ([14, 13, 13], [13, 14]), ([13], [13]), ([16, 13], [13, 16]), ([15, 17, 15, 13], [13, 15, 17]), ([13, 18], [13, 18]), ([19, 18], [19]), ([20], [20]), ([21, 20, 20], [20, 21]), ([20, 22], [20, 22]), ([23, 22], [23]), ([24], [24]), ([24], [24]), ([26, 24, 24], [24, 26]), ([24], [24]), ([24], [24]), ([27, 28, 29, 27, 24], [24, 27, 28, 29]), ([25, 30, 30, 24], [24, 25, 30]), ([24, 31], [24, 31]), ([32, 31, 0, 1, 2, 3, 4, 5, 6, 7, 8, 9, 10, 11, 12, 13, 14, 15, 16, 17, 18, 19, 20, 21, 22, 23, 24, 25, 26, 27, 28, 29, 30, 31, 32], [32])])
def engrosslaw10_CellWho.B8 : List Nat := [0, 0, 3, 0, 15, 31, 63, 63, 255, 63, 575, 2047, 4095, 8191, 16383, 32767, 16383, 81919, 262143, 524287, 1048575, 2097151, 4194303, 8388607, 16777215, 33554431, 33554431, 100663295, 33554431, 33554431, 1040187391, 2147483647, 4294967295, 8589934591]
theorem engrosslaw10_CellWho.tab8 : rtab .any (opsOf Try.f7 8) = engrosslaw10_CellWho.T8 := by kernel_rfl
theorem engrosslaw10_CellWho.bits8 : waitsOk engrosslaw10_CellWho.T8.2 engrosslaw10_CellWho.B8 = true := by kernel_rfl
set_option maxHeartbeats 8000000 in
set_option maxRecDepth 100000 in
theorem engrosslaw10_CellWho.calls (k : Nat) (a0_0 : ByteArray) (a0_1 : Int) (a0_2 : Nat) (a0_3 : ByteArray) (a0_4 : Int) (a0_5 : Int) (a0_6 : Nat) (a0_7 : ByteArray) (a1 : Int) (a2 : Int) (a3_0 : Int) (a3_1 : Nat) (a3_2 : ByteArray) (r : Bool) (w : World) (h : engrosslaw10_CellWho.f k a0_0 a0_1 a0_2 a0_3 a0_4 a0_5 a0_6 a0_7 a1 a2 a3_0 a3_1 a3_2 = some r) :
  Calls Try.prog 7 #[.agg #[.string a0_0, .int .i64 a0_1, .float .f64 a0_2, .string a0_3, .int .i64 a0_4, .int .i64 a0_5, .float .f64 a0_6, .string a0_7], .int .i64 a1, .int .i64 a2, .agg #[.int .i64 a3_0, .float .f64 a3_1, .string a3_2]] w fun e w' => e = .returned (.bool r) ∧ Below w.heap.size w w' := by
 have hu26 := Try.underlying26
 have hu24 := Try.underlying24
 have hu31 := Try.underlying31
 have HB := Aside0.mk (Below.refl w.heap.size w)
 have H : ((engrosslaw10_begun.f k).bind fun t895 => (if t895 = true then ((engrosslaw10_Cut.f a0_0 a0_1 a0_2 a0_3 a0_4 a0_5 a0_6 a0_7).bind fun bt896 => ((engrosslaw10_Val.f a3_0 a3_1 a3_2).bind fun bt904 => ((engrossref10_May.f bt896.1 bt896.2.1 bt896.2.2.1 bt896.2.2.2.1 bt896.2.2.2.2.1 bt896.2.2.2.2.2.1 bt896.2.2.2.2.2.2.1 bt896.2.2.2.2.2.2.2).bind fun t907 => (if t907 = true then (if bt896.2.2.2.2.1 = 0 then (if a1 < 1 then (engrosslaw10_CellWho.j0 k a1 a2 true bt896.1 bt896.2.1 bt896.2.2.1 bt896.2.2.2.1 bt896.2.2.2.2.1 bt896.2.2.2.2.2.1 bt896.2.2.2.2.2.2.1 bt896.2.2.2.2.2.2.2 bt904.1 bt904.2.1 bt904.2.2) else (if a1 > 1099511627776 then (engrosslaw10_CellWho.j0 k a1 a2 true bt896.1 bt896.2.1 bt896.2.2.1 bt896.2.2.2.1 bt896.2.2.2.2.1 bt896.2.2.2.2.2.1 bt896.2.2.2.2.2.2.1 bt896.2.2.2.2.2.2.2 bt904.1 bt904.2.1 bt904.2.2) else (if a1 = a2 then (engrosslaw10_CellWho.j0 k a1 a2 true bt896.1 bt896.2.1 bt896.2.2.1 bt896.2.2.2.1 bt896.2.2.2.2.1 bt896.2.2.2.2.2.1 bt896.2.2.2.2.2.2.1 bt896.2.2.2.2.2.2.2 bt904.1 bt904.2.1 bt904.2.2) else ((engrossref1_MayVal.f bt904.1 bt904.2.1 bt904.2.2).bind fun t908 => (engrosslaw10_CellWho.j0 k a1 a2 (!t908) bt896.1 bt896.2.1 bt896.2.2.1 bt896.2.2.2.1 bt896.2.2.2.2.1 bt896.2.2.2.2.2.1 bt896.2.2.2.2.2.2.1 bt896.2.2.2.2.2.2.2 bt904.1 bt904.2.1 bt904.2.2))))) else (engrosslaw10_CellWho.j0 k a1 a2 true bt896.1 bt896.2.1 bt896.2.2.1 bt896.2.2.2.1 bt896.2.2.2.2.1 bt896.2.2.2.2.2.1 bt896.2.2.2.2.2.2.1 bt896.2.2.2.2.2.2.2 bt904.1 bt904.2.1 bt904.2.2)) else (engrosslaw10_CellWho.j0 k a1 a2 true bt896.1 bt896.2.1 bt896.2.2.1 bt896.2.2.2.1 bt896.2.2.2.2.1 bt896.2.2.2.2.2.1 bt896.2.2.2.2.2.2.1 bt896.2.2.2.2.2.2.2 bt904.1 bt904.2.1 bt904.2.2))))) else (none))) = some r := h
 clear h
 replace H := Option.bind_eq_some_iff.mp H
 obtain ⟨t895, A50, H⟩ := H
 replace H : (if t895 = true then ((engrosslaw10_Cut.f a0_0 a0_1 a0_2 a0_3 a0_4 a0_5 a0_6 a0_7).bind fun bt896 => ((engrosslaw10_Val.f a3_0 a3_1 a3_2).bind fun bt904 => ((engrossref10_May.f bt896.1 bt896.2.1 bt896.2.2.1 bt896.2.2.2.1 bt896.2.2.2.2.1 bt896.2.2.2.2.2.1 bt896.2.2.2.2.2.2.1 bt896.2.2.2.2.2.2.2).bind fun t907 => (if t907 = true then (if bt896.2.2.2.2.1 = 0 then (if a1 < 1 then (engrosslaw10_CellWho.j0 k a1 a2 true bt896.1 bt896.2.1 bt896.2.2.1 bt896.2.2.2.1 bt896.2.2.2.2.1 bt896.2.2.2.2.2.1 bt896.2.2.2.2.2.2.1 bt896.2.2.2.2.2.2.2 bt904.1 bt904.2.1 bt904.2.2) else (if a1 > 1099511627776 then (engrosslaw10_CellWho.j0 k a1 a2 true bt896.1 bt896.2.1 bt896.2.2.1 bt896.2.2.2.1 bt896.2.2.2.2.1 bt896.2.2.2.2.2.1 bt896.2.2.2.2.2.2.1 bt896.2.2.2.2.2.2.2 bt904.1 bt904.2.1 bt904.2.2) else (if a1 = a2 then (engrosslaw10_CellWho.j0 k a1 a2 true bt896.1 bt896.2.1 bt896.2.2.1 bt896.2.2.2.1 bt896.2.2.2.2.1 bt896.2.2.2.2.2.1 bt896.2.2.2.2.2.2.1 bt896.2.2.2.2.2.2.2 bt904.1 bt904.2.1 bt904.2.2) else ((engrossref1_MayVal.f bt904.1 bt904.2.1 bt904.2.2).bind fun t908 => (engrosslaw10_CellWho.j0 k a1 a2 (!t908) bt896.1 bt896.2.1 bt896.2.2.1 bt896.2.2.2.1 bt896.2.2.2.2.1 bt896.2.2.2.2.2.1 bt896.2.2.2.2.2.2.1 bt896.2.2.2.2.2.2.2 bt904.1 bt904.2.1 bt904.2.2))))) else (engrosslaw10_CellWho.j0 k a1 a2 true bt896.1 bt896.2.1 bt896.2.2.1 bt896.2.2.2.1 bt896.2.2.2.2.1 bt896.2.2.2.2.2.1 bt896.2.2.2.2.2.2.1 bt896.2.2.2.2.2.2.2 bt904.1 bt904.2.1 bt904.2.2)) else (engrosslaw10_CellWho.j0 k a1 a2 true bt896.1 bt896.2.1 bt896.2.2.1 bt896.2.2.2.1 bt896.2.2.2.2.1 bt896.2.2.2.2.2.1 bt896.2.2.2.2.2.2.1 bt896.2.2.2.2.2.2.2 bt904.1 bt904.2.1 bt904.2.2))))) else (none)) = some r := H
 have A5 := Aside0.mk A50
 clear A50
 by_cases c6 : t895 = true
 ·subst c6
  have H1 : ((engrosslaw10_Cut.f a0_0 a0_1 a0_2 a0_3 a0_4 a0_5 a0_6 a0_7).bind fun bt896 => ((engrosslaw10_Val.f a3_0 a3_1 a3_2).bind fun bt904 => ((engrossref10_May.f bt896.1 bt896.2.1 bt896.2.2.1 bt896.2.2.2.1 bt896.2.2.2.2.1 bt896.2.2.2.2.2.1 bt896.2.2.2.2.2.2.1 bt896.2.2.2.2.2.2.2).bind fun t907 => (if t907 = true then (if bt896.2.2.2.2.1 = 0 then (if a1 < 1 then (engrosslaw10_CellWho.j0 k a1 a2 true bt896.1 bt896.2.1 bt896.2.2.1 bt896.2.2.2.1 bt896.2.2.2.2.1 bt896.2.2.2.2.2.1 bt896.2.2.2.2.2.2.1 bt896.2.2.2.2.2.2.2 bt904.1 bt904.2.1 bt904.2.2) else (if a1 > 1099511627776 then (engrosslaw10_CellWho.j0 k a1 a2 true bt896.1 bt896.2.1 bt896.2.2.1 bt896.2.2.2.1 bt896.2.2.2.2.1 bt896.2.2.2.2.2.1 bt896.2.2.2.2.2.2.1 bt896.2.2.2.2.2.2.2 bt904.1 bt904.2.1 bt904.2.2) else (if a1 = a2 then (engrosslaw10_CellWho.j0 k a1 a2 true bt896.1 bt896.2.1 bt896.2.2.1 bt896.2.2.2.1 bt896.2.2.2.2.1 bt896.2.2.2.2.2.1 bt896.2.2.2.2.2.2.1 bt896.2.2.2.2.2.2.2 bt904.1 bt904.2.1 bt904.2.2) else ((engrossref1_MayVal.f bt904.1 bt904.2.1 bt904.2.2).bind fun t908 => (engrosslaw10_CellWho.j0 k a1 a2 (!t908) bt896.1 bt896.2.1 bt896.2.2.1 bt896.2.2.2.1 bt896.2.2.2.2.1 bt896.2.2.2.2.2.1 bt896.2.2.2.2.2.2.1 bt896.2.2.2.2.2.2.2 bt904.1 bt904.2.1 bt904.2.2))))) else (engrosslaw10_CellWho.j0 k a1 a2 true bt896.1 bt896.2.1 bt896.2.2.1 bt896.2.2.2.1 bt896.2.2.2.2.1 bt896.2.2.2.2.2.1 bt896.2.2.2.2.2.2.1 bt896.2.2.2.2.2.2.2 bt904.1 bt904.2.1 bt904.2.2)) else (engrosslaw10_CellWho.j0 k a1 a2 true bt896.1 bt896.2.1 bt896.2.2.1 bt896.2.2.2.1 bt896.2.2.2.2.1 bt896.2.2.2.2.2.1 bt896.2.2.2.2.2.2.1 bt896.2.2.2.2.2.2.2 bt904.1 bt904.2.1 bt904.2.2))))) = some r := by rw [if_pos rfl] at H; exact H
  clear H
  have H := H1
  clear H1
  replace H := Option.bind_eq_some_iff.mp H
  obtain ⟨⟨t896, t897, t898, t899, t900, t901, t902, t903⟩, A70, H⟩ := H
  replace H : ((engrosslaw10_Val.f a3_0 a3_1 a3_2).bind fun bt904 => ((engrossref10_May.f t896 t897 t898 t899 t900 t901 t902 t903).bind fun t907 => (if t907 = true then (if t900 = 0 then (if a1 < 1 then (engrosslaw10_CellWho.j0 k a1 a2 true t896 t897 t898 t899 t900 t901 t902 t903 bt904.1 bt904.2.1 bt904.2.2) else (if a1 > 1099511627776 then (engrosslaw10_CellWho.j0 k a1 a2 true t896 t897 t898 t899 t900 t901 t902 t903 bt904.1 bt904.2.1 bt904.2.2) else (if a1 = a2 then (engrosslaw10_CellWho.j0 k a1 a2 true t896 t897 t898 t899 t900 t901 t902 t903 bt904.1 bt904.2.1 bt904.2.2) else ((engrossref1_MayVal.f bt904.1 bt904.2.1 bt904.2.2).bind fun t908 => (engrosslaw10_CellWho.j0 k a1 a2 (!t908) t896 t897 t898 t899 t900 t901 t902 t903 bt904.1 bt904.2.1 bt904.2.2))))) else (engrosslaw10_CellWho.j0 k a1 a2 true t896 t897 t898 t899 t900 t901 t902 t903 bt904.1 bt904.2.1 bt904.2.2)) else (engrosslaw10_CellWho.j0 k a1 a2 true t896 t897 t898 t899 t900 t901 t902 t903 bt904.1 bt904.2.1 bt904.2.2)))) = some r := H
  have A7 := Aside0.mk A70
  clear A70
  replace H := Option.bind_eq_some_iff.mp H
  obtain ⟨⟨t904, t905, t906⟩, A80, H⟩ := H
  replace H : ((engrossref10_May.f t896 t897 t898 t899 t900 t901 t902 t903).bind fun t907 => (if t907 = true then (if t900 = 0 then (if a1 < 1 then (engrosslaw10_CellWho.j0 k a1 a2 true t896 t897 t898 t899 t900 t901 t902 t903 t904 t905 t906) else (if a1 > 1099511627776 then (engrosslaw10_CellWho.j0 k a1 a2 true t896 t897 t898 t899 t900 t901 t902 t903 t904 t905 t906) else (if a1 = a2 then (engrosslaw10_CellWho.j0 k a1 a2 true t896 t897 t898 t899 t900 t901 t902 t903 t904 t905 t906) else ((engrossref1_MayVal.f t904 t905 t906).bind fun t908 => (engrosslaw10_CellWho.j0 k a1 a2 (!t908) t896 t897 t898 t899 t900 t901 t902 t903 t904 t905 t906))))) else (engrosslaw10_CellWho.j0 k a1 a2 true t896 t897 t898 t899 t900 t901 t902 t903 t904 t905 t906)) else (engrosslaw10_CellWho.j0 k a1 a2 true t896 t897 t898 t899 t900 t901 t902 t903 t904 t905 t906))) = some r := H
  have A8 := Aside0.mk A80
  clear A80
  have HC9 := Aside0.mk H
  clear H
  go_enter Try.func7, Try.ntmps7
  try go_wp2_with (first | ((with_reducible refine gate_dst (N := 4) rfl ?_); refine box_event ?hg (N := 4) ?hd (cs := #[.string a0_0, .int .i64 a0_1, .float .f64 a0_2, .string a0_3, .int .i64 a0_4, .int .i64 a0_5, .float .f64 a0_6, .string a0_7]) (t := 26) ?hr ?_; (case hd => rfl); (case hg => rfl); (case hr => first | (go_simp; done) | (go_simp; rfl)); intro gb893 hg w10 hbox hb; have BK893 := Aside0.mk (hbox); have GW893 := bZ HB hg; have GE893 := bZ HB hg; replace HB := bW HB hb; clear hb hbox hg) | ((with_reducible refine gate_dst (N := 7) rfl ?_); refine box_event ?hg (N := 7) ?hd (cs := #[.int .i64 a3_0, .float .f64 a3_1, .string a3_2]) (t := 24) ?hr ?_; (case hd => rfl); (case hg => rfl); (case hr => first | (go_simp; done) | (go_simp; rfl)); intro gb894 hg w11 hbox hb; have BK894 := Aside0.mk (hbox); have GW894 := bZ HB hg; have GE894 := bZ HB hg; have NB893_894 := bL BK893 hg; have NB894_893 := bG BK893 hg; replace BK893 := bB BK893 hb; replace HB := bW HB hb; clear hb hbox hg) | ((with_reducible refine gate_callee (f := 10) rfl ?_); refine goesL_ (some 11) rfl rfl Try.func10 (by kernel_rfl) rfl #[] rfl (by (try simp only [List.map_toArray, List.map_cons, List.map_nil]); first | done | rfl | (simp only [List.length_drop, List.length_take]; rfl)) ?_; (with_reducible refine (engrosslaw10_begun.calls k  true _ A5.out).mono ?_); rintro e w12 ⟨rfl, hb⟩; refine ⟨_, rfl, ?_⟩; replace BK893 := bB BK893 hb; replace BK894 := bB BK894 hb; replace HB := bW HB hb; (try clear hb); (try clear hb2); (try clear hk); (try clear hi)))
  replace BK893 := Aside0.mk (blk_drew BK893.out)
  replace BK894 := Aside0.mk (blk_drew BK894.out)
  replace HB := Aside0.mk (below_drew1 HB.out)
  refine start_ (n := 6) (S := fun w' => w'.cell? ⟨gb893, 0, none⟩ = some (.string a0_0) ∧ w'.cell? ⟨gb893, 1, none⟩ = some (.int .i64 a0_1) ∧ w'.cell? ⟨gb893, 2, none⟩ = some (.float .f64 a0_2) ∧ w'.cell? ⟨gb893, 3, none⟩ = some (.string a0_3) ∧ w'.cell? ⟨gb893, 4, none⟩ = some (.int .i64 a0_4) ∧ w'.cell? ⟨gb893, 5, none⟩ = some (.int .i64 a0_5) ∧ w'.cell? ⟨gb893, 6, none⟩ = some (.float .f64 a0_6) ∧ w'.cell? ⟨gb893, 7, none⟩ = some (.string a0_7) ∧ w'.cell? ⟨gb894, 0, none⟩ = some (.int .i64 a3_0) ∧ w'.cell? ⟨gb894, 1, none⟩ = some (.float .f64 a3_1) ∧ w'.cell? ⟨gb894, 2, none⟩ = some (.string a3_2)) (ds := [4, 5]) #[false, false, false, false, false, false] (by kernel_rfl) rfl rfl (bn8 BK893 (be3 BK894)) (fun hHeld => ?_)
  generalize w12.drew = w13 at BK893 BK894 HB hHeld ⊢
  refine take_ (i := 0) (N := some 14) (v := ?_) (a' := ?_) #[true, false, false, false, false, false] rfl rfl (by kernel_rfl) (fun _ _ _ h => h) (Or.inl ⟨by rfl, ?_⟩) hHeld ?_ ?_
  rotate_left
  ·rintro w' ⟨s0, s1, s2, s3, s4, s5, s6, s7, s8, s9, s10⟩
   go_simp
   with_reducible rfl
  rotate_left
  ·simp only [Act.put, List.setIfInBounds_toArray, List.set_cons_zero, List.set_cons_succ, i64_w, i32_w]
   rfl
  refine take_ (i := 2) (N := some 16) (v := ?_) (a' := ?_) #[true, false, true, false, false, false] rfl rfl (by kernel_rfl) (fun _ _ _ h => h) (Or.inl ⟨by rfl, ?_⟩) hHeld ?_ ?_
  rotate_left
  ·rintro w' ⟨s0, s1, s2, s3, s4, s5, s6, s7, s8, s9, s10⟩
   go_simp
   with_reducible rfl
  rotate_left
  ·simp only [Act.put, List.setIfInBounds_toArray, List.set_cons_zero, List.set_cons_succ, i64_w, i32_w]
   rfl
  refine one_ (i := 1) (N := some 15) #[true, true, true, false, false, false] rfl rfl (by kernel_rfl) (by decide) (fun K hK => ?_)
  refine goes_ Try.func11 (by kernel_rfl) rfl #[.agg #[.string a0_0, .int .i64 a0_1, .float .f64 a0_2, .string a0_3, .int .i64 a0_4, .int .i64 a0_5, .float .f64 a0_6, .string a0_7]] (by rfl) rfl rfl (by (try simp only [List.map_toArray, List.map_cons, List.map_nil]); first | done | rfl | (simp only [List.length_drop, List.length_take]; rfl)) ?_
  with_reducible refine (engrosslaw10_Cut.calls a0_0 a0_1 a0_2 a0_3 a0_4 a0_5 a0_6 a0_7 t896 t897 t898 t899 t900 t901 t902 t903 _ A7.out).mono ?_
  rintro e w14 ⟨rfl, hb⟩
  refine ⟨_, rfl, ?_⟩
  replace BK893 := bB BK893 hb
  replace BK894 := bB BK894 hb
  replace HB := bW HB hb
  (try clear hb)
  (try clear hb2)
  (try clear hk)
  (try clear hi)
  refine hK.out _ _ (bn8 BK893 (be3 BK894)) (fun hHeld => ?_)
  clear hK K
  refine norm_ (a' := ?_) ?_ ?_
  rotate_left
  ·show Act.put _ (some 15) _ = _
   simp only [Act.put, List.setIfInBounds_toArray, List.set_cons_zero, List.set_cons_succ, i64_w, i32_w]
   rfl
  refine one_ (i := 3) (N := some 17) #[true, true, true, true, false, false] rfl rfl (by kernel_rfl) (by decide) (fun K hK => ?_)
  refine goes_ Try.func12 (by kernel_rfl) rfl #[.agg #[.int .i64 a3_0, .float .f64 a3_1, .string a3_2]] (by rfl) rfl rfl (by (try simp only [List.map_toArray, List.map_cons, List.map_nil]); first | done | rfl | (simp only [List.length_drop, List.length_take]; rfl)) ?_
  with_reducible refine (engrosslaw10_Val.calls a3_0 a3_1 a3_2 t904 t905 t906 _ A8.out).mono ?_
  rintro e w15 ⟨rfl, hb⟩
  refine ⟨_, rfl, ?_⟩
  replace BK893 := bB BK893 hb
  replace BK894 := bB BK894 hb
  replace HB := bW HB hb
  (try clear hb)
  (try clear hb2)
  (try clear hk)
  (try clear hi)
  refine hK.out _ _ (bn8 BK893 (be3 BK894)) (fun hHeld => ?_)
  clear hK K
  refine norm_ (a' := ?_) ?_ ?_
  rotate_left
  ·show Act.put _ (some 17) _ = _
   simp only [Act.put, List.setIfInBounds_toArray, List.set_cons_zero, List.set_cons_succ, i64_w, i32_w]
   rfl
  refine last_ (i := 4) (N := none) #[true, true, true, true, true, false] rfl rfl (by kernel_rfl) (by decide) (fun K hK => ?_)
  have hs16 : w15.cell? ⟨gb893, 0, none⟩ = some (.string a0_0) := (blk_cell BK893.out 0).trans rfl
  have hfs16 := blk_frozen BK893.out 0
  have hns16_1 := NB894_893.out
  have hms16_1 := NB893_894.out
  have hs17 : w15.cell? ⟨gb893, 1, none⟩ = some (.int .i64 a0_1) := (blk_cell BK893.out 1).trans rfl
  have hfs17 := blk_frozen BK893.out 1
  have hns17_1 := NB894_893.out
  have hms17_1 := NB893_894.out
  have hs18 : w15.cell? ⟨gb893, 2, none⟩ = some (.float .f64 a0_2) := (blk_cell BK893.out 2).trans rfl
  have hfs18 := blk_frozen BK893.out 2
  have hns18_1 := NB894_893.out
  have hms18_1 := NB893_894.out
  have hs19 : w15.cell? ⟨gb893, 3, none⟩ = some (.string a0_3) := (blk_cell BK893.out 3).trans rfl
  have hfs19 := blk_frozen BK893.out 3
  have hns19_1 := NB894_893.out
  have hms19_1 := NB893_894.out
  have hs20 : w15.cell? ⟨gb893, 4, none⟩ = some (.int .i64 a0_4) := (blk_cell BK893.out 4).trans rfl
  have hfs20 := blk_frozen BK893.out 4
  have hns20_1 := NB894_893.out
  have hms20_1 := NB893_894.out
  have hs21 : w15.cell? ⟨gb893, 5, none⟩ = some (.int .i64 a0_5) := (blk_cell BK893.out 5).trans rfl
  have hfs21 := blk_frozen BK893.out 5
  have hns21_1 := NB894_893.out
  have hms21_1 := NB893_894.out
  have hs22 : w15.cell? ⟨gb893, 6, none⟩ = some (.float .f64 a0_6) := (blk_cell BK893.out 6).trans rfl
  have hfs22 := blk_frozen BK893.out 6
  have hns22_1 := NB894_893.out
  have hms22_1 := NB893_894.out
  have hs23 : w15.cell? ⟨gb893, 7, none⟩ = some (.string a0_7) := (blk_cell BK893.out 7).trans rfl
  have hfs23 := blk_frozen BK893.out 7
  have hns23_1 := NB894_893.out
  have hms23_1 := NB893_894.out
  with_reducible refine skip_ (w1 := ?_) (by with_unfolding_all rfl) (by with_unfolding_all rfl) ?_ ?_
  rotate_left
  ·go_simp
   rfl
  refine hK.out _ _ ?_
  clear hK K
  refine last_ (i := 5) (N := none) #[true, true, true, true, true, true] rfl rfl (by kernel_rfl) (by decide) (fun K hK => ?_)
  have hs24 : w15.cell? ⟨gb894, 0, none⟩ = some (.int .i64 a3_0) := (blk_cell BK894.out 0).trans rfl
  have hfs24 := blk_frozen BK894.out 0
  have hns24_0 := NB893_894.out
  have hms24_0 := NB894_893.out
  have hs25 : w15.cell? ⟨gb894, 1, none⟩ = some (.float .f64 a3_1) := (blk_cell BK894.out 1).trans rfl
  have hfs25 := blk_frozen BK894.out 1
  have hns25_0 := NB893_894.out
  have hms25_0 := NB894_893.out
  have hs26 : w15.cell? ⟨gb894, 2, none⟩ = some (.string a3_2) := (blk_cell BK894.out 2).trans rfl
  have hfs26 := blk_frozen BK894.out 2
  have hns26_0 := NB893_894.out
  have hms26_0 := NB894_893.out
  with_reducible refine skip_ (w1 := ?_) (by with_unfolding_all rfl) (by with_unfolding_all rfl) ?_ ?_
  rotate_left
  ·go_simp
   rfl
  refine hK.out _ _ ?_
  clear hK K
  refine done_ (by kernel_rfl) ?_
  go_upto_region 5 with (fail)
  go_cut [43] (fun v43 wc => ∃ (kq : Nat) (x43_8 : Bool), v43 = .bool x43_8 ∧ Aside0 (engrosslaw10_CellWho.j0 kq a1 a2 x43_8 t896 t897 t898 t899 t900 t901 t902 t903 t904 t905 t906 = some r) ∧ Aside0 (kq ≤ k) ∧ Aside0 (wc.heap[gb893]? = some (.cells #[.string t896, .int .i64 t897, .float .f64 t898, .string t899, .int .i64 t900, .int .i64 t901, .float .f64 t902, .string t903] 26 (0, 0))) ∧ Aside0 (wc.heap[gb894]? = some (.cells #[.int .i64 t904, .float .f64 t905, .string t906] 24 (0, 0))) ∧ Aside0 (Below w.heap.size w wc))
  case first =>
   have H := HC9.out
   clear HC9
   replace H := Option.bind_eq_some_iff.mp H
   obtain ⟨t907, A270, H⟩ := H
   replace H : (if t907 = true then (if t900 = 0 then (if a1 < 1 then (engrosslaw10_CellWho.j0 k a1 a2 true t896 t897 t898 t899 t900 t901 t902 t903 t904 t905 t906) else (if a1 > 1099511627776 then (engrosslaw10_CellWho.j0 k a1 a2 true t896 t897 t898 t899 t900 t901 t902 t903 t904 t905 t906) else (if a1 = a2 then (engrosslaw10_CellWho.j0 k a1 a2 true t896 t897 t898 t899 t900 t901 t902 t903 t904 t905 t906) else ((engrossref1_MayVal.f t904 t905 t906).bind fun t908 => (engrosslaw10_CellWho.j0 k a1 a2 (!t908) t896 t897 t898 t899 t900 t901 t902 t903 t904 t905 t906))))) else (engrosslaw10_CellWho.j0 k a1 a2 true t896 t897 t898 t899 t900 t901 t902 t903 t904 t905 t906)) else (engrosslaw10_CellWho.j0 k a1 a2 true t896 t897 t898 t899 t900 t901 t902 t903 t904 t905 t906)) = some r := H
   have A27 := Aside0.mk A270
   clear A270
   by_cases c28 : t907 = true
   ·subst c28
    have H1 : (if t900 = 0 then (if a1 < 1 then (engrosslaw10_CellWho.j0 k a1 a2 true t896 t897 t898 t899 t900 t901 t902 t903 t904 t905 t906) else (if a1 > 1099511627776 then (engrosslaw10_CellWho.j0 k a1 a2 true t896 t897 t898 t899 t900 t901 t902 t903 t904 t905 t906) else (if a1 = a2 then (engrosslaw10_CellWho.j0 k a1 a2 true t896 t897 t898 t899 t900 t901 t902 t903 t904 t905 t906) else ((engrossref1_MayVal.f t904 t905 t906).bind fun t908 => (engrosslaw10_CellWho.j0 k a1 a2 (!t908) t896 t897 t898 t899 t900 t901 t902 t903 t904 t905 t906))))) else (engrosslaw10_CellWho.j0 k a1 a2 true t896 t897 t898 t899 t900 t901 t902 t903 t904 t905 t906)) = some r := by rw [if_pos rfl] at H; exact H
    clear H
    have H := H1
    clear H1
    by_cases c29 : t900 = 0
    ·rw [if_pos c29] at H
     have c29b0 : (t900 == 0) = true := beq_iff_eq.mpr c29
     have c29b1 : (t900 != 0) = false := bne_eq_false_iff_eq.mpr c29
     clear c29
     (first | rw [c29b0] | (simp only [i64_w, i32_w]; rw [c29b0]) | skip)
     by_cases c30 : a1 < 1
     ·rw [if_pos c30] at H
      have c30b0 : decide (a1 < 1) = true := decide_eq_true c30
      clear c30
      have H' := Aside0.mk H
      clear H
      have hnb31 := NB893_894.out
      have hnc31 := NB894_893.out
      obtain ⟨hcz32_0, hcz32_1, hcz32_2, hcz32_3, hcz32_4, hcz32_5, hcz32_6, hcz32_7, hfz32_0, hfz32_1, hfz32_2, hfz32_3, hfz32_4, hfz32_5, hfz32_6, hfz32_7⟩ := bf8 (w := w15) BK893
      go_wp2_with (first | ((with_reducible refine gate_callee (f := 15) rfl ?_); refine goesL_ (some 19) rfl rfl Try.func15 (by kernel_rfl) rfl #[.agg #[.string t896, .int .i64 t897, .float .f64 t898, .string t899, .int .i64 t900, .int .i64 t901, .float .f64 t902, .string t903]] rfl (by (try simp only [List.map_toArray, List.map_cons, List.map_nil]); first | done | rfl | (simp only [List.length_drop, List.length_take]; rfl)) ?_; (with_reducible refine (engrossref10_May.calls t896 t897 t898 t899 t900 t901 t902 t903 true _ A27.out).mono ?_); rintro e w33 ⟨rfl, hb⟩; refine ⟨_, rfl, ?_⟩; replace BK893 := Aside0.mk (blk_below (g := gb893) (o := .cells #[.string t896, .int .i64 t897, .float .f64 t898, .string t899, .int .i64 t900, .int .i64 t901, .float .f64 t902, .string t903] 26 (0, 0)) (bR BK893) hb); replace BK894 := Aside0.mk (blk_below (g := gb894) (o := .cells #[.int .i64 t904, .float .f64 t905, .string t906] 24 (0, 0)) (bR BK894) hb); replace HB := bW HB hb; (try clear hb); (try clear hb2); (try clear hk); (try clear hi); obtain ⟨hcz34_0, hcz34_1, hcz34_2, hcz34_3, hcz34_4, hcz34_5, hcz34_6, hcz34_7, hfz34_0, hfz34_1, hfz34_2, hfz34_3, hfz34_4, hfz34_5, hfz34_6, hfz34_7⟩ := bf8 (w := w33) BK893))
      go_meet
      case rel => exact ⟨_, (true), (by first | rfl | (simp; done) | (simp [*]; done)), H', ⟨by first | omega | exact Nat.le_refl _⟩, ⟨by (with_reducible repeat (first | refine blk_drewN ?_ _ | refine blk_drew ?_ | refine blk_alloc ?_ _)); exact BK893.out⟩, ⟨by (with_reducible repeat (first | refine blk_drewN ?_ _ | refine blk_drew ?_ | refine blk_alloc ?_ _)); exact BK894.out⟩, ⟨by repeat (first | (with_reducible first | exact HB.out | apply below_alloc | apply pw_below_drewN | apply below_drew1 | refine below_set ?_ GE893.out | refine below_set ?_ GE894.out) | exact HB.out)⟩⟩
     ·rw [if_neg c30] at H
      have c30b0 : decide (a1 < 1) = false := decide_eq_false c30
      clear c30
      by_cases c35 : a1 > 1099511627776
      ·rw [if_pos c35] at H
       have c35b0 : decide (1099511627776 < a1) = true := decide_eq_true c35
       clear c35
       have H' := Aside0.mk H
       clear H
       have hnb36 := NB893_894.out
       have hnc36 := NB894_893.out
       obtain ⟨hcz37_0, hcz37_1, hcz37_2, hcz37_3, hcz37_4, hcz37_5, hcz37_6, hcz37_7, hfz37_0, hfz37_1, hfz37_2, hfz37_3, hfz37_4, hfz37_5, hfz37_6, hfz37_7⟩ := bf8 (w := w15) BK893
       go_wp2_with (first | ((with_reducible refine gate_callee (f := 15) rfl ?_); refine goesL_ (some 19) rfl rfl Try.func15 (by kernel_rfl) rfl #[.agg #[.string t896, .int .i64 t897, .float .f64 t898, .string t899, .int .i64 t900, .int .i64 t901, .float .f64 t902, .string t903]] rfl (by (try simp only [List.map_toArray, List.map_cons, List.map_nil]); first | done | rfl | (simp only [List.length_drop, List.length_take]; rfl)) ?_; (with_reducible refine (engrossref10_May.calls t896 t897 t898 t899 t900 t901 t902 t903 true _ A27.out).mono ?_); rintro e w38 ⟨rfl, hb⟩; refine ⟨_, rfl, ?_⟩; replace BK893 := Aside0.mk (blk_below (g := gb893) (o := .cells #[.string t896, .int .i64 t897, .float .f64 t898, .string t899, .int .i64 t900, .int .i64 t901, .float .f64 t902, .string t903] 26 (0, 0)) (bR BK893) hb); replace BK894 := Aside0.mk (blk_below (g := gb894) (o := .cells #[.int .i64 t904, .float .f64 t905, .string t906] 24 (0, 0)) (bR BK894) hb); replace HB := bW HB hb; (try clear hb); (try clear hb2); (try clear hk); (try clear hi); obtain ⟨hcz39_0, hcz39_1, hcz39_2, hcz39_3, hcz39_4, hcz39_5, hcz39_6, hcz39_7, hfz39_0, hfz39_1, hfz39_2, hfz39_3, hfz39_4, hfz39_5, hfz39_6, hfz39_7⟩ := bf8 (w := w38) BK893))
       go_meet
       case rel => exact ⟨_, (true), (by first | rfl | (simp; done) | (simp [*]; done)), H', ⟨by first | omega | exact Nat.le_refl _⟩, ⟨by (with_reducible repeat (first | refine blk_drewN ?_ _ | refine blk_drew ?_ | refine blk_alloc ?_ _)); exact BK893.out⟩, ⟨by (with_reducible repeat (first | refine blk_drewN ?_ _ | refine blk_drew ?_ | refine blk_alloc ?_ _)); exact BK894.out⟩, ⟨by repeat (first | (with_reducible first | exact HB.out | apply below_alloc | apply pw_below_drewN | apply below_drew1 | refine below_set ?_ GE893.out | refine below_set ?_ GE894.out) | exact HB.out)⟩⟩
      ·rw [if_neg c35] at H
       have c35b0 : decide (1099511627776 < a1) = false := decide_eq_false c35
       clear c35
       by_cases c40 : a1 = a2
       ·rw [if_pos c40] at H
        have c40b0 : (a1 == a2) = true := beq_iff_eq.mpr c40
        have c40b1 : (a1 != a2) = false := bne_eq_false_iff_eq.mpr c40
        clear c40
        have H' := Aside0.mk H
        clear H
        have hnb41 := NB893_894.out
        have hnc41 := NB894_893.out
        obtain ⟨hcz42_0, hcz42_1, hcz42_2, hcz42_3, hcz42_4, hcz42_5, hcz42_6, hcz42_7, hfz42_0, hfz42_1, hfz42_2, hfz42_3, hfz42_4, hfz42_5, hfz42_6, hfz42_7⟩ := bf8 (w := w15) BK893
        go_wp2_with (first | ((with_reducible refine gate_callee (f := 15) rfl ?_); refine goesL_ (some 19) rfl rfl Try.func15 (by kernel_rfl) rfl #[.agg #[.string t896, .int .i64 t897, .float .f64 t898, .string t899, .int .i64 t900, .int .i64 t901, .float .f64 t902, .string t903]] rfl (by (try simp only [List.map_toArray, List.map_cons, List.map_nil]); first | done | rfl | (simp only [List.length_drop, List.length_take]; rfl)) ?_; (with_reducible refine (engrossref10_May.calls t896 t897 t898 t899 t900 t901 t902 t903 true _ A27.out).mono ?_); rintro e w43 ⟨rfl, hb⟩; refine ⟨_, rfl, ?_⟩; replace BK893 := Aside0.mk (blk_below (g := gb893) (o := .cells #[.string t896, .int .i64 t897, .float .f64 t898, .string t899, .int .i64 t900, .int .i64 t901, .float .f64 t902, .string t903] 26 (0, 0)) (bR BK893) hb); replace BK894 := Aside0.mk (blk_below (g := gb894) (o := .cells #[.int .i64 t904, .float .f64 t905, .string t906] 24 (0, 0)) (bR BK894) hb); replace HB := bW HB hb; (try clear hb); (try clear hb2); (try clear hk); (try clear hi); obtain ⟨hcz44_0, hcz44_1, hcz44_2, hcz44_3, hcz44_4, hcz44_5, hcz44_6, hcz44_7, hfz44_0, hfz44_1, hfz44_2, hfz44_3, hfz44_4, hfz44_5, hfz44_6, hfz44_7⟩ := bf8 (w := w43) BK893))
        go_meet
        case rel => exact ⟨_, (true), (by first | rfl | (simp; done) | (simp [*]; done)), H', ⟨by first | omega | exact Nat.le_refl _⟩, ⟨by (with_reducible repeat (first | refine blk_drewN ?_ _ | refine blk_drew ?_ | refine blk_alloc ?_ _)); exact BK893.out⟩, ⟨by (with_reducible repeat (first | refine blk_drewN ?_ _ | refine blk_drew ?_ | refine blk_alloc ?_ _)); exact BK894.out⟩, ⟨by repeat (first | (with_reducible first | exact HB.out | apply below_alloc | apply pw_below_drewN | apply below_drew1 | refine below_set ?_ GE893.out | refine below_set ?_ GE894.out) | exact HB.out)⟩⟩
       ·rw [if_neg c40] at H
        have c40b0 : (a1 == a2) = false := beq_eq_false_iff_ne.mpr c40
        have c40b1 : (a1 != a2) = true := bne_iff_ne.mpr c40
        replace H := Option.bind_eq_some_iff.mp H
        obtain ⟨t908, A450, H⟩ := H
        replace H : (engrosslaw10_CellWho.j0 k a1 a2 (!t908) t896 t897 t898 t899 t900 t901 t902 t903 t904 t905 t906) = some r := H
        have A45 := Aside0.mk A450
        clear A450
        have H' := Aside0.mk H
        clear H
        have hnb46 := NB893_894.out
        have hnc46 := NB894_893.out
        obtain ⟨hcz47_0, hcz47_1, hcz47_2, hcz47_3, hcz47_4, hcz47_5, hcz47_6, hcz47_7, hfz47_0, hfz47_1, hfz47_2, hfz47_3, hfz47_4, hfz47_5, hfz47_6, hfz47_7⟩ := bf8 (w := w15) BK893
        go_wp2_with (first | ((with_reducible refine gate_callee (f := 15) rfl ?_); refine goesL_ (some 19) rfl rfl Try.func15 (by kernel_rfl) rfl #[.agg #[.string t896, .int .i64 t897, .float .f64 t898, .string t899, .int .i64 t900, .int .i64 t901, .float .f64 t902, .string t903]] rfl (by (try simp only [List.map_toArray, List.map_cons, List.map_nil]); first | done | rfl | (simp only [List.length_drop, List.length_take]; rfl)) ?_; (with_reducible refine (engrossref10_May.calls t896 t897 t898 t899 t900 t901 t902 t903 true _ A27.out).mono ?_); rintro e w48 ⟨rfl, hb⟩; refine ⟨_, rfl, ?_⟩; replace BK893 := Aside0.mk (blk_below (g := gb893) (o := .cells #[.string t896, .int .i64 t897, .float .f64 t898, .string t899, .int .i64 t900, .int .i64 t901, .float .f64 t902, .string t903] 26 (0, 0)) (bR BK893) hb); replace BK894 := Aside0.mk (blk_below (g := gb894) (o := .cells #[.int .i64 t904, .float .f64 t905, .string t906] 24 (0, 0)) (bR BK894) hb); replace HB := bW HB hb; (try clear hb); (try clear hb2); (try clear hk); (try clear hi); obtain ⟨hcz49_0, hcz49_1, hcz49_2, hcz49_3, hcz49_4, hcz49_5, hcz49_6, hcz49_7, hfz49_0, hfz49_1, hfz49_2, hfz49_3, hfz49_4, hfz49_5, hfz49_6, hfz49_7⟩ := bf8 (w := w48) BK893; obtain ⟨hcz50_0, hcz50_1, hcz50_2, hfz50_0, hfz50_1, hfz50_2⟩ := bf3 (w := w48) BK894) | (go_at_call 26; (with_reducible refine (engrossref1_MayVal.calls t904 t905 t906 t908 _ A45.out).mono ?_); rintro e w51 ⟨rfl, hb⟩; replace BK893 := bB BK893 hb; replace BK894 := bB BK894 hb; replace HB := bW HB hb; (try clear hb); (try clear hb2); (try clear hk); (try clear hi)))
        go_meet
        case rel => exact ⟨_, (!t908), (by first | rfl | (simp; done) | (simp [*]; done)), H', ⟨by first | omega | exact Nat.le_refl _⟩, ⟨by (with_reducible repeat (first | refine blk_drewN ?_ _ | refine blk_drew ?_ | refine blk_alloc ?_ _)); exact BK893.out⟩, ⟨by (with_reducible repeat (first | refine blk_drewN ?_ _ | refine blk_drew ?_ | refine blk_alloc ?_ _)); exact BK894.out⟩, ⟨by repeat (first | (with_reducible first | exact HB.out | apply below_alloc | apply pw_below_drewN | apply below_drew1 | refine below_set ?_ GE893.out | refine below_set ?_ GE894.out) | exact HB.out)⟩⟩
    ·rw [if_neg c29] at H
     have c29b0 : (t900 == 0) = false := beq_eq_false_iff_ne.mpr c29
     have c29b1 : (t900 != 0) = true := bne_iff_ne.mpr c29
     (first | rw [c29b0] | (simp only [i64_w, i32_w]; rw [c29b0]) | skip)
     have H' := Aside0.mk H
     clear H
     have hnb52 := NB893_894.out
     have hnc52 := NB894_893.out
     obtain ⟨hcz53_0, hcz53_1, hcz53_2, hcz53_3, hcz53_4, hcz53_5, hcz53_6, hcz53_7, hfz53_0, hfz53_1, hfz53_2, hfz53_3, hfz53_4, hfz53_5, hfz53_6, hfz53_7⟩ := bf8 (w := w15) BK893
     go_wp2_with (first | ((with_reducible refine gate_callee (f := 15) rfl ?_); refine goesL_ (some 19) rfl rfl Try.func15 (by kernel_rfl) rfl #[.agg #[.string t896, .int .i64 t897, .float .f64 t898, .string t899, .int .i64 t900, .int .i64 t901, .float .f64 t902, .string t903]] rfl (by (try simp only [List.map_toArray, List.map_cons, List.map_nil]); first | done | rfl | (simp only [List.length_drop, List.length_take]; rfl)) ?_; (with_reducible refine (engrossref10_May.calls t896 t897 t898 t899 t900 t901 t902 t903 true _ A27.out).mono ?_); rintro e w54 ⟨rfl, hb⟩; refine ⟨_, rfl, ?_⟩; replace BK893 := Aside0.mk (blk_below (g := gb893) (o := .cells #[.string t896, .int .i64 t897, .float .f64 t898, .string t899, .int .i64 t900, .int .i64 t901, .float .f64 t902, .string t903] 26 (0, 0)) (bR BK893) hb); replace BK894 := Aside0.mk (blk_below (g := gb894) (o := .cells #[.int .i64 t904, .float .f64 t905, .string t906] 24 (0, 0)) (bR BK894) hb); replace HB := bW HB hb; (try clear hb); (try clear hb2); (try clear hk); (try clear hi); obtain ⟨hcz55_0, hcz55_1, hcz55_2, hcz55_3, hcz55_4, hcz55_5, hcz55_6, hcz55_7, hfz55_0, hfz55_1, hfz55_2, hfz55_3, hfz55_4, hfz55_5, hfz55_6, hfz55_7⟩ := bf8 (w := w54) BK893))
     go_meet
     case rel => exact ⟨_, (true), (by first | rfl | (simp; done) | (simp [*]; done)), H', ⟨by first | omega | exact Nat.le_refl _⟩, ⟨by (with_reducible repeat (first | refine blk_drewN ?_ _ | refine blk_drew ?_ | refine blk_alloc ?_ _)); exact BK893.out⟩, ⟨by (with_reducible repeat (first | refine blk_drewN ?_ _ | refine blk_drew ?_ | refine blk_alloc ?_ _)); exact BK894.out⟩, ⟨by repeat (first | (with_reducible first | exact HB.out | apply below_alloc | apply pw_below_drewN | apply below_drew1 | refine below_set ?_ GE893.out | refine below_set ?_ GE894.out) | exact HB.out)⟩⟩
   ·replace c28 := Bool.eq_false_iff.mpr c28
    subst c28
    have H1 : (engrosslaw10_CellWho.j0 k a1 a2 true t896 t897 t898 t899 t900 t901 t902 t903 t904 t905 t906) = some r := by rw [if_neg (show ¬ (false = true) by decide)] at H; exact H
    clear H
    have H := H1
    clear H1
    have H' := Aside0.mk H
    clear H
    have hnb56 := NB893_894.out
    have hnc56 := NB894_893.out
    obtain ⟨hcz57_0, hcz57_1, hcz57_2, hcz57_3, hcz57_4, hcz57_5, hcz57_6, hcz57_7, hfz57_0, hfz57_1, hfz57_2, hfz57_3, hfz57_4, hfz57_5, hfz57_6, hfz57_7⟩ := bf8 (w := w15) BK893
    go_wp2_with (first | ((with_reducible refine gate_callee (f := 15) rfl ?_); refine goesL_ (some 19) rfl rfl Try.func15 (by kernel_rfl) rfl #[.agg #[.string t896, .int .i64 t897, .float .f64 t898, .string t899, .int .i64 t900, .int .i64 t901, .float .f64 t902, .string t903]] rfl (by (try simp only [List.map_toArray, List.map_cons, List.map_nil]); first | done | rfl | (simp only [List.length_drop, List.length_take]; rfl)) ?_; (with_reducible refine (engrossref10_May.calls t896 t897 t898 t899 t900 t901 t902 t903 false _ A27.out).mono ?_); rintro e w58 ⟨rfl, hb⟩; refine ⟨_, rfl, ?_⟩; replace BK893 := Aside0.mk (blk_below (g := gb893) (o := .cells #[.string t896, .int .i64 t897, .float .f64 t898, .string t899, .int .i64 t900, .int .i64 t901, .float .f64 t902, .string t903] 26 (0, 0)) (bR BK893) hb); replace BK894 := Aside0.mk (blk_below (g := gb894) (o := .cells #[.int .i64 t904, .float .f64 t905, .string t906] 24 (0, 0)) (bR BK894) hb); replace HB := bW HB hb; (try clear hb); (try clear hb2); (try clear hk); (try clear hi)))
    go_meet
    case rel => exact ⟨_, (true), (by first | rfl | (simp; done) | (simp [*]; done)), H', ⟨by first | omega | exact Nat.le_refl _⟩, ⟨by (with_reducible repeat (first | refine blk_drewN ?_ _ | refine blk_drew ?_ | refine blk_alloc ?_ _)); exact BK893.out⟩, ⟨by (with_reducible repeat (first | refine blk_drewN ?_ _ | refine blk_drew ?_ | refine blk_alloc ?_ _)); exact BK894.out⟩, ⟨by repeat (first | (with_reducible first | exact HB.out | apply below_alloc | apply pw_below_drewN | apply below_drew1 | refine below_set ?_ GE893.out | refine below_set ?_ GE894.out) | exact HB.out)⟩⟩
  case rest =>
   clear HC9
   try clear c1
   try clear c2
   try clear p2
   try clear c3
   try clear c4
   try clear c5
   try clear c6
   try clear c7
   try clear c10
   try clear c11
   try clear c12
   try clear c15
   try clear c28
   try clear c29
   try clear c29b0
   try clear c29b1
   try clear c30
   try clear c30b0
   try clear c31
   try clear c35
   try clear c35b0
   try clear c36
   try clear c40
   try clear c40b0
   try clear c40b1
   try clear c41
   try clear c46
   try clear c52
   try clear c56
   try clear hcz32_0
   try clear hcz32_1
   try clear hcz32_2
   try clear hcz32_3
   try clear hcz32_4
   try clear hcz32_5
   try clear hcz32_6
   try clear hcz32_7
   try clear hcz34_0
   try clear hcz34_1
   try clear hcz34_2
   try clear hcz34_3
   try clear hcz34_4
   try clear hcz34_5
   try clear hcz34_6
   try clear hcz34_7
   try clear hcz37_0
   try clear hcz37_1
   try clear hcz37_2
   try clear hcz37_3
   try clear hcz37_4
   try clear hcz37_5
   try clear hcz37_6
   try clear hcz37_7
   try clear hcz39_0
   try clear hcz39_1
   try clear hcz39_2
   try clear hcz39_3
   try clear hcz39_4
   try clear hcz39_5
   try clear hcz39_6
   try clear hcz39_7
   try clear hcz42_0
   try clear hcz42_1
   try clear hcz42_2
   try clear hcz42_3
   try clear hcz42_4
   try clear hcz42_5
   try clear hcz42_6
   try clear hcz42_7
   try clear hcz44_0
   try clear hcz44_1
   try clear hcz44_2
   try clear hcz44_3
   try clear hcz44_4
   try clear hcz44_5
   try clear hcz44_6
   try clear hcz44_7
   try clear hcz47_0
   try clear hcz47_1
   try clear hcz47_2
   try clear hcz47_3
   try clear hcz47_4
   try clear hcz47_5
   try clear hcz47_6
   try clear hcz47_7
   try clear hcz49_0
   try clear hcz49_1
   try clear hcz49_2
   try clear hcz49_3
   try clear hcz49_4
   try clear hcz49_5
   try clear hcz49_6
   try clear hcz49_7
   try clear hcz50_0
   try clear hcz50_1
   try clear hcz50_2
   try clear hcz53_0
   try clear hcz53_1
   try clear hcz53_2
   try clear hcz53_3
   try clear hcz53_4
   try clear hcz53_5
   try clear hcz53_6
   try clear hcz53_7
   try clear hcz55_0
   try clear hcz55_1
   try clear hcz55_2
   try clear hcz55_3
   try clear hcz55_4
   try clear hcz55_5
   try clear hcz55_6
   try clear hcz55_7
   try clear hcz57_0
   try clear hcz57_1
   try clear hcz57_2
   try clear hcz57_3
   try clear hcz57_4
   try clear hcz57_5
   try clear hcz57_6
   try clear hcz57_7
   try clear hfz32_0
   try clear hfz32_1
   try clear hfz32_2
   try clear hfz32_3
   try clear hfz32_4
   try clear hfz32_5
   try clear hfz32_6
   try clear hfz32_7
   try clear hfz34_0
   try clear hfz34_1
   try clear hfz34_2
   try clear hfz34_3
   try clear hfz34_4
   try clear hfz34_5
   try clear hfz34_6
   try clear hfz34_7
   try clear hfz37_0
   try clear hfz37_1
   try clear hfz37_2
   try clear hfz37_3
   try clear hfz37_4
   try clear hfz37_5
   try clear hfz37_6
   try clear hfz37_7
   try clear hfz39_0
   try clear hfz39_1
   try clear hfz39_2
   try clear hfz39_3
   try clear hfz39_4
   try clear hfz39_5
   try clear hfz39_6
   try clear hfz39_7
   try clear hfz42_0
   try clear hfz42_1
   try clear hfz42_2
   try clear hfz42_3
   try clear hfz42_4
   try clear hfz42_5
   try clear hfz42_6
   try clear hfz42_7
   try clear hfz44_0
   try clear hfz44_1
   try clear hfz44_2
   try clear hfz44_3
   try clear hfz44_4
   try clear hfz44_5
   try clear hfz44_6
   try clear hfz44_7
   try clear hfz47_0
   try clear hfz47_1
   try clear hfz47_2
   try clear hfz47_3
   try clear hfz47_4
   try clear hfz47_5
   try clear hfz47_6
   try clear hfz47_7
   try clear hfz49_0
   try clear hfz49_1
   try clear hfz49_2
   try clear hfz49_3
   try clear hfz49_4
   try clear hfz49_5
   try clear hfz49_6
   try clear hfz49_7
   try clear hfz50_0
   try clear hfz50_1
   try clear hfz50_2
   try clear hfz53_0
   try clear hfz53_1
   try clear hfz53_2
   try clear hfz53_3
   try clear hfz53_4
   try clear hfz53_5
   try clear hfz53_6
   try clear hfz53_7
   try clear hfz55_0
   try clear hfz55_1
   try clear hfz55_2
   try clear hfz55_3
   try clear hfz55_4
   try clear hfz55_5
   try clear hfz55_6
   try clear hfz55_7
   try clear hfz57_0
   try clear hfz57_1
   try clear hfz57_2
   try clear hfz57_3
   try clear hfz57_4
   try clear hfz57_5
   try clear hfz57_6
   try clear hfz57_7
   obtain ⟨kq, x43_8, rfl, HA, HJ8, BK893, BK894, HB⟩ := hcut
   cases kq with
   | zero => exact absurd HA.out (by simp [engrosslaw10_CellWho.j0])
   | succ kj8 =>
    have H := HA.out
    clear HA
    simp only [engrosslaw10_CellWho.j0] at H
    by_cases c59 : x43_8 = true
    ·subst c59
     have H1 : (some true) = some r := by rw [if_pos rfl] at H; exact H
     clear H
     have H := H1
     clear H1
     obtain rfl := Option.some.inj H
     go_wp2
     go_ret
     exact ⟨by first | rfl | (simp [errW_none, errW_some] <;> rfl) | (simp [*, errW_none, errW_some] <;> rfl), by repeat (first | (with_reducible first | exact HB.out | apply below_alloc | apply pw_below_drewN | apply below_drew1 | refine below_set ?_ GE893.out | refine below_set ?_ GE894.out) | exact HB.out)⟩
    ·replace c59 := Bool.eq_false_iff.mpr c59
     subst c59
     have H1 : ((engrosslaw10_Of.f t896 t897 t898 t899 t900 t901 t902 t903).bind fun bt909 => ((cell_Write.f bt909.1 bt909.2.1 bt909.2.2.1 bt909.2.2.2.1 bt909.2.2.2.2.1 bt909.2.2.2.2.2.1 bt909.2.2.2.2.2.2.1 bt909.2.2.2.2.2.2.2 a1 t904 t905 t906).bind fun bt917 => ((cell_See.f bt917.1 bt917.2.1 bt917.2.2.1 bt917.2.2.2.1 bt917.2.2.2.2.1 bt917.2.2.2.2.2.1 bt917.2.2.2.2.2.2.1 bt917.2.2.2.2.2.2.2 a1).bind fun bt926 => ((engrossref1_EqVal.f bt926.1 bt926.2.1 bt926.2.2 t904 t905 t906).bind fun t929 => (if t929 = true then ((cell_See.f bt917.1 bt917.2.1 bt917.2.2.1 bt917.2.2.2.1 bt917.2.2.2.2.1 bt917.2.2.2.2.2.1 bt917.2.2.2.2.2.2.1 bt917.2.2.2.2.2.2.2 a2).bind fun bt930 => ((engrossref1_EqVal.f bt930.1 bt930.2.1 bt930.2.2 t897 t898 t899).bind fun t933 => (if t933 = true then ((cell_See.f bt917.1 bt917.2.1 bt917.2.2.1 bt917.2.2.2.1 bt917.2.2.2.2.1 bt917.2.2.2.2.2.1 bt917.2.2.2.2.2.2.1 bt917.2.2.2.2.2.2.2 0).bind fun bt934 => ((engrossref1_EqVal.f bt934.1 bt934.2.1 bt934.2.2 t897 t898 t899).bind fun t937 => (if t937 = true then ((cell_May.f kj8 bt917.1 bt917.2.1 bt917.2.2.1 bt917.2.2.2.1 bt917.2.2.2.2.1 bt917.2.2.2.2.2.1 bt917.2.2.2.2.2.2.1 bt917.2.2.2.2.2.2.2).bind fun t938 => (if t938 = true then ((engrosslaw10_Of.f t896 t897 t898 t899 t900 t901 t902 t903).bind fun bt939 => ((cell_Write.f bt939.1 bt939.2.1 bt939.2.2.1 bt939.2.2.2.1 bt939.2.2.2.2.1 bt939.2.2.2.2.2.1 bt939.2.2.2.2.2.2.1 bt939.2.2.2.2.2.2.2 a1 t904 t905 t906).bind fun bt947 => ((cell_Eq.f bt917.1 bt917.2.1 bt917.2.2.1 bt917.2.2.2.1 bt917.2.2.2.2.1 bt917.2.2.2.2.2.1 bt917.2.2.2.2.2.2.1 bt917.2.2.2.2.2.2.2 bt947.1 bt947.2.1 bt947.2.2.1 bt947.2.2.2.1 bt947.2.2.2.2.1 bt947.2.2.2.2.2.1 bt947.2.2.2.2.2.2.1 bt947.2.2.2.2.2.2.2).bind fun t955 => (some t955)))) else (none))) else (none)))) else (none)))) else (none)))))) = some r := by rw [if_neg (show ¬ (false = true) by decide)] at H; exact H
     clear H
     have H := H1
     clear H1
     replace H := Option.bind_eq_some_iff.mp H
     obtain ⟨⟨t909, t910, t911, t912, t913, t914, t915, t916⟩, A600, H⟩ := H
     replace H : ((cell_Write.f t909 t910 t911 t912 t913 t914 t915 t916 a1 t904 t905 t906).bind fun bt917 => ((cell_See.f bt917.1 bt917.2.1 bt917.2.2.1 bt917.2.2.2.1 bt917.2.2.2.2.1 bt917.2.2.2.2.2.1 bt917.2.2.2.2.2.2.1 bt917.2.2.2.2.2.2.2 a1).bind fun bt926 => ((engrossref1_EqVal.f bt926.1 bt926.2.1 bt926.2.2 t904 t905 t906).bind fun t929 => (if t929 = true then ((cell_See.f bt917.1 bt917.2.1 bt917.2.2.1 bt917.2.2.2.1 bt917.2.2.2.2.1 bt917.2.2.2.2.2.1 bt917.2.2.2.2.2.2.1 bt917.2.2.2.2.2.2.2 a2).bind fun bt930 => ((engrossref1_EqVal.f bt930.1 bt930.2.1 bt930.2.2 t897 t898 t899).bind fun t933 => (if t933 = true then ((cell_See.f bt917.1 bt917.2.1 bt917.2.2.1 bt917.2.2.2.1 bt917.2.2.2.2.1 bt917.2.2.2.2.2.1 bt917.2.2.2.2.2.2.1 bt917.2.2.2.2.2.2.2 0).bind fun bt934 => ((engrossref1_EqVal.f bt934.1 bt934.2.1 bt934.2.2 t897 t898 t899).bind fun t937 => (if t937 = true then ((cell_May.f kj8 bt917.1 bt917.2.1 bt917.2.2.1 bt917.2.2.2.1 bt917.2.2.2.2.1 bt917.2.2.2.2.2.1 bt917.2.2.2.2.2.2.1 bt917.2.2.2.2.2.2.2).bind fun t938 => (if t938 = true then ((engrosslaw10_Of.f t896 t897 t898 t899 t900 t901 t902 t903).bind fun bt939 => ((cell_Write.f bt939.1 bt939.2.1 bt939.2.2.1 bt939.2.2.2.1 bt939.2.2.2.2.1 bt939.2.2.2.2.2.1 bt939.2.2.2.2.2.2.1 bt939.2.2.2.2.2.2.2 a1 t904 t905 t906).bind fun bt947 => ((cell_Eq.f bt917.1 bt917.2.1 bt917.2.2.1 bt917.2.2.2.1 bt917.2.2.2.2.1 bt917.2.2.2.2.2.1 bt917.2.2.2.2.2.2.1 bt917.2.2.2.2.2.2.2 bt947.1 bt947.2.1 bt947.2.2.1 bt947.2.2.2.1 bt947.2.2.2.2.1 bt947.2.2.2.2.2.1 bt947.2.2.2.2.2.2.1 bt947.2.2.2.2.2.2.2).bind fun t955 => (some t955)))) else (none))) else (none)))) else (none)))) else (none))))) = some r := H
     have A60 := Aside0.mk A600
     clear A600
     replace H := Option.bind_eq_some_iff.mp H
     obtain ⟨⟨t917, t918, t919, t920, t921, t922, t923, t924⟩, A610, H⟩ := H
     replace H : ((cell_See.f t917 t918 t919 t920 t921 t922 t923 t924 a1).bind fun bt926 => ((engrossref1_EqVal.f bt926.1 bt926.2.1 bt926.2.2 t904 t905 t906).bind fun t929 => (if t929 = true then ((cell_See.f t917 t918 t919 t920 t921 t922 t923 t924 a2).bind fun bt930 => ((engrossref1_EqVal.f bt930.1 bt930.2.1 bt930.2.2 t897 t898 t899).bind fun t933 => (if t933 = true then ((cell_See.f t917 t918 t919 t920 t921 t922 t923 t924 0).bind fun bt934 => ((engrossref1_EqVal.f bt934.1 bt934.2.1 bt934.2.2 t897 t898 t899).bind fun t937 => (if t937 = true then ((cell_May.f kj8 t917 t918 t919 t920 t921 t922 t923 t924).bind fun t938 => (if t938 = true then ((engrosslaw10_Of.f t896 t897 t898 t899 t900 t901 t902 t903).bind fun bt939 => ((cell_Write.f bt939.1 bt939.2.1 bt939.2.2.1 bt939.2.2.2.1 bt939.2.2.2.2.1 bt939.2.2.2.2.2.1 bt939.2.2.2.2.2.2.1 bt939.2.2.2.2.2.2.2 a1 t904 t905 t906).bind fun bt947 => ((cell_Eq.f t917 t918 t919 t920 t921 t922 t923 t924 bt947.1 bt947.2.1 bt947.2.2.1 bt947.2.2.2.1 bt947.2.2.2.2.1 bt947.2.2.2.2.2.1 bt947.2.2.2.2.2.2.1 bt947.2.2.2.2.2.2.2).bind fun t955 => (some t955)))) else (none))) else (none)))) else (none)))) else (none)))) = some r := H
     have A61 := Aside0.mk A610
     clear A610
     replace H := Option.bind_eq_some_iff.mp H
     obtain ⟨⟨t926, t927, t928⟩, A620, H⟩ := H
     replace H : ((engrossref1_EqVal.f t926 t927 t928 t904 t905 t906).bind fun t929 => (if t929 = true then ((cell_See.f t917 t918 t919 t920 t921 t922 t923 t924 a2).bind fun bt930 => ((engrossref1_EqVal.f bt930.1 bt930.2.1 bt930.2.2 t897 t898 t899).bind fun t933 => (if t933 = true then ((cell_See.f t917 t918 t919 t920 t921 t922 t923 t924 0).bind fun bt934 => ((engrossref1_EqVal.f bt934.1 bt934.2.1 bt934.2.2 t897 t898 t899).bind fun t937 => (if t937 = true then ((cell_May.f kj8 t917 t918 t919 t920 t921 t922 t923 t924).bind fun t938 => (if t938 = true then ((engrosslaw10_Of.f t896 t897 t898 t899 t900 t901 t902 t903).bind fun bt939 => ((cell_Write.f bt939.1 bt939.2.1 bt939.2.2.1 bt939.2.2.2.1 bt939.2.2.2.2.1 bt939.2.2.2.2.2.1 bt939.2.2.2.2.2.2.1 bt939.2.2.2.2.2.2.2 a1 t904 t905 t906).bind fun bt947 => ((cell_Eq.f t917 t918 t919 t920 t921 t922 t923 t924 bt947.1 bt947.2.1 bt947.2.2.1 bt947.2.2.2.1 bt947.2.2.2.2.1 bt947.2.2.2.2.2.1 bt947.2.2.2.2.2.2.1 bt947.2.2.2.2.2.2.2).bind fun t955 => (some t955)))) else (none))) else (none)))) else (none)))) else (none))) = some r := H
     have A62 := Aside0.mk A620
     clear A620
     replace H := Option.bind_eq_some_iff.mp H
     obtain ⟨t929, A630, H⟩ := H
     replace H : (if t929 = true then ((cell_See.f t917 t918 t919 t920 t921 t922 t923 t924 a2).bind fun bt930 => ((engrossref1_EqVal.f bt930.1 bt930.2.1 bt930.2.2 t897 t898 t899).bind fun t933 => (if t933 = true then ((cell_See.f t917 t918 t919 t920 t921 t922 t923 t924 0).bind fun bt934 => ((engrossref1_EqVal.f bt934.1 bt934.2.1 bt934.2.2 t897 t898 t899).bind fun t937 => (if t937 = true then ((cell_May.f kj8 t917 t918 t919 t920 t921 t922 t923 t924).bind fun t938 => (if t938 = true then ((engrosslaw10_Of.f t896 t897 t898 t899 t900 t901 t902 t903).bind fun bt939 => ((cell_Write.f bt939.1 bt939.2.1 bt939.2.2.1 bt939.2.2.2.1 bt939.2.2.2.2.1 bt939.2.2.2.2.2.1 bt939.2.2.2.2.2.2.1 bt939.2.2.2.2.2.2.2 a1 t904 t905 t906).bind fun bt947 => ((cell_Eq.f t917 t918 t919 t920 t921 t922 t923 t924 bt947.1 bt947.2.1 bt947.2.2.1 bt947.2.2.2.1 bt947.2.2.2.2.1 bt947.2.2.2.2.2.1 bt947.2.2.2.2.2.2.1 bt947.2.2.2.2.2.2.2).bind fun t955 => (some t955)))) else (none))) else (none)))) else (none)))) else (none)) = some r := H
     have A63 := Aside0.mk A630
     clear A630
     by_cases c64 : t929 = true
     ·subst c64
      have H1 : ((cell_See.f t917 t918 t919 t920 t921 t922 t923 t924 a2).bind fun bt930 => ((engrossref1_EqVal.f bt930.1 bt930.2.1 bt930.2.2 t897 t898 t899).bind fun t933 => (if t933 = true then ((cell_See.f t917 t918 t919 t920 t921 t922 t923 t924 0).bind fun bt934 => ((engrossref1_EqVal.f bt934.1 bt934.2.1 bt934.2.2 t897 t898 t899).bind fun t937 => (if t937 = true then ((cell_May.f kj8 t917 t918 t919 t920 t921 t922 t923 t924).bind fun t938 => (if t938 = true then ((engrosslaw10_Of.f t896 t897 t898 t899 t900 t901 t902 t903).bind fun bt939 => ((cell_Write.f bt939.1 bt939.2.1 bt939.2.2.1 bt939.2.2.2.1 bt939.2.2.2.2.1 bt939.2.2.2.2.2.1 bt939.2.2.2.2.2.2.1 bt939.2.2.2.2.2.2.2 a1 t904 t905 t906).bind fun bt947 => ((cell_Eq.f t917 t918 t919 t920 t921 t922 t923 t924 bt947.1 bt947.2.1 bt947.2.2.1 bt947.2.2.2.1 bt947.2.2.2.2.1 bt947.2.2.2.2.2.1 bt947.2.2.2.2.2.2.1 bt947.2.2.2.2.2.2.2).bind fun t955 => (some t955)))) else (none))) else (none)))) else (none)))) = some r := by rw [if_pos rfl] at H; exact H
      clear H
      have H := H1
      clear H1
      replace H := Option.bind_eq_some_iff.mp H
      obtain ⟨⟨t930, t931, t932⟩, A650, H⟩ := H
      replace H : ((engrossref1_EqVal.f t930 t931 t932 t897 t898 t899).bind fun t933 => (if t933 = true then ((cell_See.f t917 t918 t919 t920 t921 t922 t923 t924 0).bind fun bt934 => ((engrossref1_EqVal.f bt934.1 bt934.2.1 bt934.2.2 t897 t898 t899).bind fun t937 => (if t937 = true then ((cell_May.f kj8 t917 t918 t919 t920 t921 t922 t923 t924).bind fun t938 => (if t938 = true then ((engrosslaw10_Of.f t896 t897 t898 t899 t900 t901 t902 t903).bind fun bt939 => ((cell_Write.f bt939.1 bt939.2.1 bt939.2.2.1 bt939.2.2.2.1 bt939.2.2.2.2.1 bt939.2.2.2.2.2.1 bt939.2.2.2.2.2.2.1 bt939.2.2.2.2.2.2.2 a1 t904 t905 t906).bind fun bt947 => ((cell_Eq.f t917 t918 t919 t920 t921 t922 t923 t924 bt947.1 bt947.2.1 bt947.2.2.1 bt947.2.2.2.1 bt947.2.2.2.2.1 bt947.2.2.2.2.2.1 bt947.2.2.2.2.2.2.1 bt947.2.2.2.2.2.2.2).bind fun t955 => (some t955)))) else (none))) else (none)))) else (none))) = some r := H
      have A65 := Aside0.mk A650
      clear A650
      replace H := Option.bind_eq_some_iff.mp H
      obtain ⟨t933, A660, H⟩ := H
      replace H : (if t933 = true then ((cell_See.f t917 t918 t919 t920 t921 t922 t923 t924 0).bind fun bt934 => ((engrossref1_EqVal.f bt934.1 bt934.2.1 bt934.2.2 t897 t898 t899).bind fun t937 => (if t937 = true then ((cell_May.f kj8 t917 t918 t919 t920 t921 t922 t923 t924).bind fun t938 => (if t938 = true then ((engrosslaw10_Of.f t896 t897 t898 t899 t900 t901 t902 t903).bind fun bt939 => ((cell_Write.f bt939.1 bt939.2.1 bt939.2.2.1 bt939.2.2.2.1 bt939.2.2.2.2.1 bt939.2.2.2.2.2.1 bt939.2.2.2.2.2.2.1 bt939.2.2.2.2.2.2.2 a1 t904 t905 t906).bind fun bt947 => ((cell_Eq.f t917 t918 t919 t920 t921 t922 t923 t924 bt947.1 bt947.2.1 bt947.2.2.1 bt947.2.2.2.1 bt947.2.2.2.2.1 bt947.2.2.2.2.2.1 bt947.2.2.2.2.2.2.1 bt947.2.2.2.2.2.2.2).bind fun t955 => (some t955)))) else (none))) else (none)))) else (none)) = some r := H
      have A66 := Aside0.mk A660
      clear A660
      by_cases c67 : t933 = true
      ·subst c67
       have H1 : ((cell_See.f t917 t918 t919 t920 t921 t922 t923 t924 0).bind fun bt934 => ((engrossref1_EqVal.f bt934.1 bt934.2.1 bt934.2.2 t897 t898 t899).bind fun t937 => (if t937 = true then ((cell_May.f kj8 t917 t918 t919 t920 t921 t922 t923 t924).bind fun t938 => (if t938 = true then ((engrosslaw10_Of.f t896 t897 t898 t899 t900 t901 t902 t903).bind fun bt939 => ((cell_Write.f bt939.1 bt939.2.1 bt939.2.2.1 bt939.2.2.2.1 bt939.2.2.2.2.1 bt939.2.2.2.2.2.1 bt939.2.2.2.2.2.2.1 bt939.2.2.2.2.2.2.2 a1 t904 t905 t906).bind fun bt947 => ((cell_Eq.f t917 t918 t919 t920 t921 t922 t923 t924 bt947.1 bt947.2.1 bt947.2.2.1 bt947.2.2.2.1 bt947.2.2.2.2.1 bt947.2.2.2.2.2.1 bt947.2.2.2.2.2.2.1 bt947.2.2.2.2.2.2.2).bind fun t955 => (some t955)))) else (none))) else (none)))) = some r := by rw [if_pos rfl] at H; exact H
       clear H
       have H := H1
       clear H1
       replace H := Option.bind_eq_some_iff.mp H
       obtain ⟨⟨t934, t935, t936⟩, A680, H⟩ := H
       replace H : ((engrossref1_EqVal.f t934 t935 t936 t897 t898 t899).bind fun t937 => (if t937 = true then ((cell_May.f kj8 t917 t918 t919 t920 t921 t922 t923 t924).bind fun t938 => (if t938 = true then ((engrosslaw10_Of.f t896 t897 t898 t899 t900 t901 t902 t903).bind fun bt939 => ((cell_Write.f bt939.1 bt939.2.1 bt939.2.2.1 bt939.2.2.2.1 bt939.2.2.2.2.1 bt939.2.2.2.2.2.1 bt939.2.2.2.2.2.2.1 bt939.2.2.2.2.2.2.2 a1 t904 t905 t906).bind fun bt947 => ((cell_Eq.f t917 t918 t919 t920 t921 t922 t923 t924 bt947.1 bt947.2.1 bt947.2.2.1 bt947.2.2.2.1 bt947.2.2.2.2.1 bt947.2.2.2.2.2.1 bt947.2.2.2.2.2.2.1 bt947.2.2.2.2.2.2.2).bind fun t955 => (some t955)))) else (none))) else (none))) = some r := H
       have A68 := Aside0.mk A680
       clear A680
       replace H := Option.bind_eq_some_iff.mp H
       obtain ⟨t937, A690, H⟩ := H
       replace H : (if t937 = true then ((cell_May.f kj8 t917 t918 t919 t920 t921 t922 t923 t924).bind fun t938 => (if t938 = true then ((engrosslaw10_Of.f t896 t897 t898 t899 t900 t901 t902 t903).bind fun bt939 => ((cell_Write.f bt939.1 bt939.2.1 bt939.2.2.1 bt939.2.2.2.1 bt939.2.2.2.2.1 bt939.2.2.2.2.2.1 bt939.2.2.2.2.2.2.1 bt939.2.2.2.2.2.2.2 a1 t904 t905 t906).bind fun bt947 => ((cell_Eq.f t917 t918 t919 t920 t921 t922 t923 t924 bt947.1 bt947.2.1 bt947.2.2.1 bt947.2.2.2.1 bt947.2.2.2.2.1 bt947.2.2.2.2.2.1 bt947.2.2.2.2.2.2.1 bt947.2.2.2.2.2.2.2).bind fun t955 => (some t955)))) else (none))) else (none)) = some r := H
       have A69 := Aside0.mk A690
       clear A690
       by_cases c70 : t937 = true
       ·subst c70
        have H1 : ((cell_May.f kj8 t917 t918 t919 t920 t921 t922 t923 t924).bind fun t938 => (if t938 = true then ((engrosslaw10_Of.f t896 t897 t898 t899 t900 t901 t902 t903).bind fun bt939 => ((cell_Write.f bt939.1 bt939.2.1 bt939.2.2.1 bt939.2.2.2.1 bt939.2.2.2.2.1 bt939.2.2.2.2.2.1 bt939.2.2.2.2.2.2.1 bt939.2.2.2.2.2.2.2 a1 t904 t905 t906).bind fun bt947 => ((cell_Eq.f t917 t918 t919 t920 t921 t922 t923 t924 bt947.1 bt947.2.1 bt947.2.2.1 bt947.2.2.2.1 bt947.2.2.2.2.1 bt947.2.2.2.2.2.1 bt947.2.2.2.2.2.2.1 bt947.2.2.2.2.2.2.2).bind fun t955 => (some t955)))) else (none))) = some r := by rw [if_pos rfl] at H; exact H
        clear H
        have H := H1
        clear H1
        replace H := Option.bind_eq_some_iff.mp H
        obtain ⟨t938, A710, H⟩ := H
        replace H : (if t938 = true then ((engrosslaw10_Of.f t896 t897 t898 t899 t900 t901 t902 t903).bind fun bt939 => ((cell_Write.f bt939.1 bt939.2.1 bt939.2.2.1 bt939.2.2.2.1 bt939.2.2.2.2.1 bt939.2.2.2.2.2.1 bt939.2.2.2.2.2.2.1 bt939.2.2.2.2.2.2.2 a1 t904 t905 t906).bind fun bt947 => ((cell_Eq.f t917 t918 t919 t920 t921 t922 t923 t924 bt947.1 bt947.2.1 bt947.2.2.1 bt947.2.2.2.1 bt947.2.2.2.2.1 bt947.2.2.2.2.2.1 bt947.2.2.2.2.2.2.1 bt947.2.2.2.2.2.2.2).bind fun t955 => (some t955)))) else (none)) = some r := H
        have A71 := Aside0.mk A710
        clear A710
        by_cases c72 : t938 = true
        ·subst c72
         have H1 : ((engrosslaw10_Of.f t896 t897 t898 t899 t900 t901 t902 t903).bind fun bt939 => ((cell_Write.f bt939.1 bt939.2.1 bt939.2.2.1 bt939.2.2.2.1 bt939.2.2.2.2.1 bt939.2.2.2.2.2.1 bt939.2.2.2.2.2.2.1 bt939.2.2.2.2.2.2.2 a1 t904 t905 t906).bind fun bt947 => ((cell_Eq.f t917 t918 t919 t920 t921 t922 t923 t924 bt947.1 bt947.2.1 bt947.2.2.1 bt947.2.2.2.1 bt947.2.2.2.2.1 bt947.2.2.2.2.2.1 bt947.2.2.2.2.2.2.1 bt947.2.2.2.2.2.2.2).bind fun t955 => (some t955)))) = some r := by rw [if_pos rfl] at H; exact H
         clear H
         have H := H1
         clear H1
         replace H := Option.bind_eq_some_iff.mp H
         obtain ⟨⟨t939, t940, t941, t942, t943, t944, t945, t946⟩, A730, H⟩ := H
         replace H : ((cell_Write.f t939 t940 t941 t942 t943 t944 t945 t946 a1 t904 t905 t906).bind fun bt947 => ((cell_Eq.f t917 t918 t919 t920 t921 t922 t923 t924 bt947.1 bt947.2.1 bt947.2.2.1 bt947.2.2.2.1 bt947.2.2.2.2.1 bt947.2.2.2.2.2.1 bt947.2.2.2.2.2.2.1 bt947.2.2.2.2.2.2.2).bind fun t955 => (some t955))) = some r := H
         have A73 := Aside0.mk A730
         clear A730
         have EA73 := Option.some.inj (A60.out.symm.trans A73.out)
         simp only [Prod.mk.injEq] at EA73
         obtain ⟨eA73_0, eA73_1, eA73_2, eA73_3, eA73_4, eA73_5, eA73_6, eA73_7⟩ := EA73
         subst eA73_0
         subst eA73_1
         subst eA73_2
         subst eA73_3
         subst eA73_4
         subst eA73_5
         subst eA73_6
         subst eA73_7
         replace H := Option.bind_eq_some_iff.mp H
         obtain ⟨⟨t947, t948, t949, t950, t951, t952, t953, t954⟩, A740, H⟩ := H
         replace H : ((cell_Eq.f t917 t918 t919 t920 t921 t922 t923 t924 t947 t948 t949 t950 t951 t952 t953 t954).bind fun t955 => (some t955)) = some r := H
         have A74 := Aside0.mk A740
         clear A740
         have EA74 := Option.some.inj (A61.out.symm.trans A74.out)
         simp only [Prod.mk.injEq] at EA74
         obtain ⟨eA74_0, eA74_1, eA74_2, eA74_3, eA74_4, eA74_5, eA74_6, eA74_7⟩ := EA74
         subst eA74_0
         subst eA74_1
         subst eA74_2
         subst eA74_3
         subst eA74_4
         subst eA74_5
         subst eA74_6
         subst eA74_7
         replace H := Option.bind_eq_some_iff.mp H
         obtain ⟨t955, A750, H⟩ := H
         replace H : (some t955) = some r := H
         have A75 := Aside0.mk A750
         clear A750
         obtain rfl := Option.some.inj H
         try go_wp2
         replace BK893 := Aside0.mk (blk_drew BK893.out)
         replace BK894 := Aside0.mk (blk_drew BK894.out)
         replace HB := Aside0.mk (below_drew1 HB.out)
         refine start_ (n := 7) (S := fun w' => w'.cell? ⟨gb893, 0, none⟩ = some (.string t896) ∧ w'.cell? ⟨gb893, 1, none⟩ = some (.int .i64 t897) ∧ w'.cell? ⟨gb893, 2, none⟩ = some (.float .f64 t898) ∧ w'.cell? ⟨gb893, 3, none⟩ = some (.string t899) ∧ w'.cell? ⟨gb893, 4, none⟩ = some (.int .i64 t900) ∧ w'.cell? ⟨gb893, 5, none⟩ = some (.int .i64 t901) ∧ w'.cell? ⟨gb893, 6, none⟩ = some (.float .f64 t902) ∧ w'.cell? ⟨gb893, 7, none⟩ = some (.string t903) ∧ w'.cell? ⟨gb894, 0, none⟩ = some (.int .i64 t904) ∧ w'.cell? ⟨gb894, 1, none⟩ = some (.float .f64 t905) ∧ w'.cell? ⟨gb894, 2, none⟩ = some (.string t906)) (ds := []) #[false, false, false, false, false, false, false] (by kernel_rfl) rfl rfl (bn8 BK893 (be3 BK894)) (fun hHeld => ?_)
         generalize wc.drew = w76 at BK893 BK894 HB hHeld ⊢
         refine pure_ (i := 2) (N := some 46) (v := ?_) (a' := ?_) #[false, false, true, false, false, false, false] rfl rfl (by kernel_rfl) (fun _ _ _ h => h) (Or.inl ⟨by rfl, ?_⟩) ?_ ?_
         rotate_left
         ·intro w'
          go_simp
          with_reducible rfl
         rotate_left
         ·simp only [Act.put, List.setIfInBounds_toArray, List.set_cons_zero, List.set_cons_succ, i64_w, i32_w]
          rfl
         refine take_ (i := 0) (N := some 44) (v := ?_) (a' := ?_) #[true, false, true, false, false, false, false] rfl rfl (by kernel_rfl) (fun _ _ _ h => h) (Or.inl ⟨by rfl, ?_⟩) hHeld ?_ ?_
         rotate_left
         ·rintro w' ⟨s0, s1, s2, s3, s4, s5, s6, s7, s8, s9, s10⟩
          go_simp
          with_reducible rfl
         rotate_left
         ·simp only [Act.put, List.setIfInBounds_toArray, List.set_cons_zero, List.set_cons_succ, i64_w, i32_w]
          rfl
         refine take_ (i := 3) (N := some 47) (v := ?_) (a' := ?_) #[true, false, true, true, false, false, false] rfl rfl (by kernel_rfl) (fun _ _ _ h => h) (Or.inl ⟨by rfl, ?_⟩) hHeld ?_ ?_
         rotate_left
         ·rintro w' ⟨s0, s1, s2, s3, s4, s5, s6, s7, s8, s9, s10⟩
          go_simp
          with_reducible rfl
         rotate_left
         ·simp only [Act.put, List.setIfInBounds_toArray, List.set_cons_zero, List.set_cons_succ, i64_w, i32_w]
          rfl
         refine join_ (σ := Nat) 1 #[true, true, true, true, true, true, false] (fun s_ => [(45, .agg #[.string t909, .int .i64 t910, .float .f64 t911, .string t912, .int .i64 t913, .int .i64 t914, .float .f64 t915, .string t916]), (48, .agg #[.string t917, .int .i64 t918, .float .f64 t919, .string t920, .int .i64 t921, .int .i64 t922, .float .f64 t923, .string t924]), (10, .pointer (some ⟨s_, 0, none⟩))]) (fun s_ w' => (w'.cell? ⟨gb893, 0, none⟩ = some (.string t896) ∧ w'.cell? ⟨gb893, 1, none⟩ = some (.int .i64 t897) ∧ w'.cell? ⟨gb893, 2, none⟩ = some (.float .f64 t898) ∧ w'.cell? ⟨gb893, 3, none⟩ = some (.string t899) ∧ w'.cell? ⟨gb893, 4, none⟩ = some (.int .i64 t900) ∧ w'.cell? ⟨gb893, 5, none⟩ = some (.int .i64 t901) ∧ w'.cell? ⟨gb893, 6, none⟩ = some (.float .f64 t902) ∧ w'.cell? ⟨gb893, 7, none⟩ = some (.string t903) ∧ w'.cell? ⟨gb894, 0, none⟩ = some (.int .i64 t904) ∧ w'.cell? ⟨gb894, 1, none⟩ = some (.float .f64 t905) ∧ w'.cell? ⟨gb894, 2, none⟩ = some (.string t906)) ∧ (w'.heap[gb893]? = some (.cells #[.string t896, .int .i64 t897, .float .f64 t898, .string t899, .int .i64 t900, .int .i64 t901, .float .f64 t902, .string t903] 26 (0, 0))) ∧ (w'.heap[gb894]? = some (.cells #[.int .i64 t904, .float .f64 t905, .string t906] 24 (0, 0))) ∧ (w'.heap[s_]? = some (.cells #[.string (⟨#[]⟩ : ByteArray), .int .i64 0, .float .f64 0, .string (⟨#[]⟩ : ByteArray), .int .i64 0, .int .i64 0, .float .f64 0, .string (⟨#[]⟩ : ByteArray)] 31 (0, 0))) ∧ (w.heap.size ≤ s_) ∧ (w.heap.size ≤ s_) ∧ (gb893 ≠ s_) ∧ (s_ ≠ gb893) ∧ (gb894 ≠ s_) ∧ (s_ ≠ gb894) ∧ (Below w.heap.size w w')) ?_ ?_
         rotate_left
         ·intro hCont
          refine two_ (i := 1) (j := 5) (Ni := some 45) (Nj := some 10) #[true, true, true, true, false, false, false] #[true, false, true, true, false, true, false] rfl rfl rfl rfl (by kernel_rfl) (by decide) (by decide) (fun K hK => ?_) (fun K hK => ?_)
          ·skip
           refine goes_ Try.func14 (by kernel_rfl) rfl #[.agg #[.string t896, .int .i64 t897, .float .f64 t898, .string t899, .int .i64 t900, .int .i64 t901, .float .f64 t902, .string t903]] (by rfl) rfl rfl (by (try simp only [List.map_toArray, List.map_cons, List.map_nil]); first | done | rfl | (simp only [List.length_drop, List.length_take]; rfl)) ?_
           with_reducible refine (engrosslaw10_Of.calls t896 t897 t898 t899 t900 t901 t902 t903 t909 t910 t911 t912 t913 t914 t915 t916 _ A60.out).mono ?_
           rintro e w77 ⟨rfl, hb⟩
           refine ⟨_, rfl, ?_⟩
           replace BK893 := bB BK893 hb
           replace BK894 := bB BK894 hb
           replace HB := bW HB hb
           (try clear hb)
           (try clear hb2)
           (try clear hk)
           (try clear hi)
           refine hK.out _ _ (bn8 BK893 (be3 BK894)) (fun hHeld => ?_)
           clear hK K
           refine norm_ (a' := ?_) ?_ ?_
           rotate_left
           ·show Act.put _ (some 45) _ = _
            simp only [Act.put, List.setIfInBounds_toArray, List.set_cons_zero, List.set_cons_succ, i64_w, i32_w]
            rfl
           refine two_ (i := 4) (j := 5) (Ni := some 48) (Nj := some 10) #[true, true, true, true, true, false, false] #[true, true, true, true, false, true, false] rfl rfl rfl rfl (by kernel_rfl) (by decide) (by decide) (fun K hK => ?_) (fun K hK => ?_)
           ·skip
            refine goes_ Try.func27 (by kernel_rfl) rfl #[.agg #[.string t909, .int .i64 t910, .float .f64 t911, .string t912, .int .i64 t913, .int .i64 t914, .float .f64 t915, .string t916], .int .i64 a1, .agg #[.int .i64 t904, .float .f64 t905, .string t906]] (by rfl) rfl rfl (by (try simp only [List.map_toArray, List.map_cons, List.map_nil]); first | done | rfl | (simp only [List.length_drop, List.length_take]; rfl)) ?_
            with_reducible refine (cell_Write.calls t909 t910 t911 t912 t913 t914 t915 t916 a1 t904 t905 t906 t917 t918 t919 t920 t921 t922 t923 t924 _ A61.out).mono ?_
            rintro e w78 ⟨rfl, hb⟩
            refine ⟨_, rfl, ?_⟩
            replace BK893 := bB BK893 hb
            replace BK894 := bB BK894 hb
            replace HB := bW HB hb
            (try clear hb)
            (try clear hb2)
            (try clear hk)
            (try clear hi)
            refine hK.out _ _ (bn8 BK893 (be3 BK894)) (fun hHeld => ?_)
            clear hK K
            refine norm_ (a' := ?_) ?_ ?_
            rotate_left
            ·show Act.put _ (some 48) _ = _
             simp only [Act.put, List.setIfInBounds_toArray, List.set_cons_zero, List.set_cons_succ, i64_w, i32_w]
             rfl
            refine one_ (i := 5) (N := some 10) #[true, true, true, true, true, true, false] rfl rfl (by kernel_rfl) (by decide) (fun K hK => ?_)
            refine box_step ?hg (N := 10) ?hd (cs := #[.string (⟨#[]⟩ : ByteArray), .int .i64 0, .float .f64 0, .string (⟨#[]⟩ : ByteArray), .int .i64 0, .int .i64 0, .float .f64 0, .string (⟨#[]⟩ : ByteArray)]) (t := 31) ?hr ?_; (case hd => rfl); (case hg => rfl); (case hr => first | (go_simp; done) | (go_simp; rfl))
            intro gb925 hg w79 hbox hb
            have BK925 := Aside0.mk (hbox)
            have GW925 := bZ HB hg
            have GE925 := bZ HB hg
            have NB893_925 := bL BK893 hg
            have NB925_893 := bG BK893 hg
            have NB894_925 := bL BK894 hg
            have NB925_894 := bG BK894 hg
            replace BK893 := bB BK893 hb
            replace BK894 := bB BK894 hb
            replace HB := bW HB hb
            clear hb hbox hg
            refine hK.out _ _ (bn8 BK893 (be3 BK894)) (fun hHeld => ?_)
            clear hK K
            refine norm_ (a' := ?_) ?_ ?_
            rotate_left
            ·show Act.put _ (some 10) _ = _
             simp only [Act.put, List.setIfInBounds_toArray, List.set_cons_zero, List.set_cons_succ, i64_w, i32_w]
             rfl
            exact norm_ (by simp only [putAll, Act.put, List.setIfInBounds_toArray, List.set_cons_zero, List.set_cons_succ]) (hCont (gb925) _ ⟨hHeld, (bQ BK893), (bQ BK894), (bQ BK925), GW925.out, GE925.out, NB893_925.out, NB925_893.out, NB894_925.out, NB925_894.out, (bC HB)⟩)
           ·skip
            refine box_step ?hg (N := 10) ?hd (cs := #[.string (⟨#[]⟩ : ByteArray), .int .i64 0, .float .f64 0, .string (⟨#[]⟩ : ByteArray), .int .i64 0, .int .i64 0, .float .f64 0, .string (⟨#[]⟩ : ByteArray)]) (t := 31) ?hr ?_; (case hd => rfl); (case hg => rfl); (case hr => first | (go_simp; done) | (go_simp; rfl))
            intro gb925 hg w78 hbox hb
            have BK925 := Aside0.mk (hbox)
            have GW925 := bZ HB hg
            have GE925 := bZ HB hg
            have NB893_925 := bL BK893 hg
            have NB925_893 := bG BK893 hg
            have NB894_925 := bL BK894 hg
            have NB925_894 := bG BK894 hg
            replace BK893 := bB BK893 hb
            replace BK894 := bB BK894 hb
            replace HB := bW HB hb
            clear hb hbox hg
            refine hK.out _ _ (bn8 BK893 (be3 BK894)) (fun hHeld => ?_)
            clear hK K
            refine norm_ (a' := ?_) ?_ ?_
            rotate_left
            ·show Act.put _ (some 10) _ = _
             simp only [Act.put, List.setIfInBounds_toArray, List.set_cons_zero, List.set_cons_succ, i64_w, i32_w]
             rfl
            refine one_ (i := 4) (N := some 48) #[true, true, true, true, true, true, false] rfl rfl (by kernel_rfl) (by decide) (fun K hK => ?_)
            refine goes_ Try.func27 (by kernel_rfl) rfl #[.agg #[.string t909, .int .i64 t910, .float .f64 t911, .string t912, .int .i64 t913, .int .i64 t914, .float .f64 t915, .string t916], .int .i64 a1, .agg #[.int .i64 t904, .float .f64 t905, .string t906]] (by rfl) rfl rfl (by (try simp only [List.map_toArray, List.map_cons, List.map_nil]); first | done | rfl | (simp only [List.length_drop, List.length_take]; rfl)) ?_
            with_reducible refine (cell_Write.calls t909 t910 t911 t912 t913 t914 t915 t916 a1 t904 t905 t906 t917 t918 t919 t920 t921 t922 t923 t924 _ A61.out).mono ?_
            rintro e w79 ⟨rfl, hb⟩
            refine ⟨_, rfl, ?_⟩
            replace BK893 := bB BK893 hb
            replace BK894 := bB BK894 hb
            replace BK925 := bB BK925 hb
            replace HB := bW HB hb
            (try clear hb)
            (try clear hb2)
            (try clear hk)
            (try clear hi)
            refine hK.out _ _ (bn8 BK893 (be3 BK894)) (fun hHeld => ?_)
            clear hK K
            refine norm_ (a' := ?_) ?_ ?_
            rotate_left
            ·show Act.put _ (some 48) _ = _
             simp only [Act.put, List.setIfInBounds_toArray, List.set_cons_zero, List.set_cons_succ, i64_w, i32_w]
             rfl
            exact norm_ (by simp only [putAll, Act.put, List.setIfInBounds_toArray, List.set_cons_zero, List.set_cons_succ]) (hCont (gb925) _ ⟨hHeld, (bQ BK893), (bQ BK894), (bQ BK925), GW925.out, GE925.out, NB893_925.out, NB925_893.out, NB894_925.out, NB925_894.out, (bC HB)⟩)
          ·skip
           refine box_step ?hg (N := 10) ?hd (cs := #[.string (⟨#[]⟩ : ByteArray), .int .i64 0, .float .f64 0, .string (⟨#[]⟩ : ByteArray), .int .i64 0, .int .i64 0, .float .f64 0, .string (⟨#[]⟩ : ByteArray)]) (t := 31) ?hr ?_; (case hd => rfl); (case hg => rfl); (case hr => first | (go_simp; done) | (go_simp; rfl))
           intro gb925 hg w77 hbox hb
           have BK925 := Aside0.mk (hbox)
           have GW925 := bZ HB hg
           have GE925 := bZ HB hg
           have NB893_925 := bL BK893 hg
           have NB925_893 := bG BK893 hg
           have NB894_925 := bL BK894 hg
           have NB925_894 := bG BK894 hg
           replace BK893 := bB BK893 hb
           replace BK894 := bB BK894 hb
           replace HB := bW HB hb
           clear hb hbox hg
           refine hK.out _ _ (bn8 BK893 (be3 BK894)) (fun hHeld => ?_)
           clear hK K
           refine norm_ (a' := ?_) ?_ ?_
           rotate_left
           ·show Act.put _ (some 10) _ = _
            simp only [Act.put, List.setIfInBounds_toArray, List.set_cons_zero, List.set_cons_succ, i64_w, i32_w]
            rfl
           refine one_ (i := 1) (N := some 45) #[true, true, true, true, false, true, false] rfl rfl (by kernel_rfl) (by decide) (fun K hK => ?_)
           refine goes_ Try.func14 (by kernel_rfl) rfl #[.agg #[.string t896, .int .i64 t897, .float .f64 t898, .string t899, .int .i64 t900, .int .i64 t901, .float .f64 t902, .string t903]] (by rfl) rfl rfl (by (try simp only [List.map_toArray, List.map_cons, List.map_nil]); first | done | rfl | (simp only [List.length_drop, List.length_take]; rfl)) ?_
           with_reducible refine (engrosslaw10_Of.calls t896 t897 t898 t899 t900 t901 t902 t903 t909 t910 t911 t912 t913 t914 t915 t916 _ A60.out).mono ?_
           rintro e w78 ⟨rfl, hb⟩
           refine ⟨_, rfl, ?_⟩
           replace BK893 := bB BK893 hb
           replace BK894 := bB BK894 hb
           replace BK925 := bB BK925 hb
           replace HB := bW HB hb
           (try clear hb)
           (try clear hb2)
           (try clear hk)
           (try clear hi)
           refine hK.out _ _ (bn8 BK893 (be3 BK894)) (fun hHeld => ?_)
           clear hK K
           refine norm_ (a' := ?_) ?_ ?_
           rotate_left
           ·show Act.put _ (some 45) _ = _
            simp only [Act.put, List.setIfInBounds_toArray, List.set_cons_zero, List.set_cons_succ, i64_w, i32_w]
            rfl
           refine one_ (i := 4) (N := some 48) #[true, true, true, true, true, true, false] rfl rfl (by kernel_rfl) (by decide) (fun K hK => ?_)
           refine goes_ Try.func27 (by kernel_rfl) rfl #[.agg #[.string t909, .int .i64 t910, .float .f64 t911, .string t912, .int .i64 t913, .int .i64 t914, .float .f64 t915, .string t916], .int .i64 a1, .agg #[.int .i64 t904, .float .f64 t905, .string t906]] (by rfl) rfl rfl (by (try simp only [List.map_toArray, List.map_cons, List.map_nil]); first | done | rfl | (simp only [List.length_drop, List.length_take]; rfl)) ?_
           with_reducible refine (cell_Write.calls t909 t910 t911 t912 t913 t914 t915 t916 a1 t904 t905 t906 t917 t918 t919 t920 t921 t922 t923 t924 _ A61.out).mono ?_
           rintro e w79 ⟨rfl, hb⟩
           refine ⟨_, rfl, ?_⟩
           replace BK893 := bB BK893 hb
           replace BK894 := bB BK894 hb
           replace BK925 := bB BK925 hb
           replace HB := bW HB hb
           (try clear hb)
           (try clear hb2)
           (try clear hk)
           (try clear hi)
           refine hK.out _ _ (bn8 BK893 (be3 BK894)) (fun hHeld => ?_)
           clear hK K
           refine norm_ (a' := ?_) ?_ ?_
           rotate_left
           ·show Act.put _ (some 48) _ = _
            simp only [Act.put, List.setIfInBounds_toArray, List.set_cons_zero, List.set_cons_succ, i64_w, i32_w]
            rfl
           exact norm_ (by simp only [putAll, Act.put, List.setIfInBounds_toArray, List.set_cons_zero, List.set_cons_succ]) (hCont (gb925) _ ⟨hHeld, (bQ BK893), (bQ BK894), (bQ BK925), GW925.out, GE925.out, NB893_925.out, NB925_893.out, NB894_925.out, NB925_894.out, (bC HB)⟩)
         rintro gb925 w80 ⟨hS_, h0_, h1_, h2_, h3_, h4_, h5_, h6_, h7_, h8_, h9_⟩
         have n0_ : Aside0 (w80.heap[gb893]? = some (.cells #[.string t896, .int .i64 t897, .float .f64 t898, .string t899, .int .i64 t900, .int .i64 t901, .float .f64 t902, .string t903] 26 (0, 0))) := ⟨h0_⟩
         have n1_ : Aside0 (w80.heap[gb894]? = some (.cells #[.int .i64 t904, .float .f64 t905, .string t906] 24 (0, 0))) := ⟨h1_⟩
         have n2_ : Aside0 (w80.heap[gb925]? = some (.cells #[.string (⟨#[]⟩ : ByteArray), .int .i64 0, .float .f64 0, .string (⟨#[]⟩ : ByteArray), .int .i64 0, .int .i64 0, .float .f64 0, .string (⟨#[]⟩ : ByteArray)] 31 (0, 0))) := ⟨h2_⟩
         have n3_ : Aside0 (w.heap.size ≤ gb925) := ⟨h3_⟩
         have n4_ : Aside0 (w.heap.size ≤ gb925) := ⟨h4_⟩
         have n5_ : Aside0 (gb893 ≠ gb925) := ⟨h5_⟩
         have n6_ : Aside0 (gb925 ≠ gb893) := ⟨h6_⟩
         have n7_ : Aside0 (gb894 ≠ gb925) := ⟨h7_⟩
         have n8_ : Aside0 (gb925 ≠ gb894) := ⟨h8_⟩
         have n9_ : Aside0 (Below w.heap.size w w80) := ⟨h9_⟩
         clear BK893
         clear BK894
         clear HB
         clear h0_ h1_ h2_ h3_ h4_ h5_ h6_ h7_ h8_ h9_
         have BK893 := n0_
         have BK894 := n1_
         have BK925 := n2_
         have GW925 := n3_
         have GE925 := n4_
         have NB893_925 := n5_
         have NB925_893 := n6_
         have NB894_925 := n7_
         have NB925_894 := n8_
         have HB := n9_
         clear n0_ n1_ n2_ n3_ n4_ n5_ n6_ n7_ n8_ n9_
         have hHeld : w80.cell? ⟨gb893, 0, none⟩ = some (.string t896) ∧ w80.cell? ⟨gb893, 1, none⟩ = some (.int .i64 t897) ∧ w80.cell? ⟨gb893, 2, none⟩ = some (.float .f64 t898) ∧ w80.cell? ⟨gb893, 3, none⟩ = some (.string t899) ∧ w80.cell? ⟨gb893, 4, none⟩ = some (.int .i64 t900) ∧ w80.cell? ⟨gb893, 5, none⟩ = some (.int .i64 t901) ∧ w80.cell? ⟨gb893, 6, none⟩ = some (.float .f64 t902) ∧ w80.cell? ⟨gb893, 7, none⟩ = some (.string t903) ∧ w80.cell? ⟨gb894, 0, none⟩ = some (.int .i64 t904) ∧ w80.cell? ⟨gb894, 1, none⟩ = some (.float .f64 t905) ∧ w80.cell? ⟨gb894, 2, none⟩ = some (.string t906) := hS_
         refine norm_ (a' := ?_) ?_ ?_
         rotate_left
         ·simp only [putAll, Act.put, List.setIfInBounds_toArray, List.set_cons_zero, List.set_cons_succ]
          rfl
         refine one_ (i := 6) (N := none) #[true, true, true, true, true, true, true] rfl rfl (by kernel_rfl) (by decide) (fun K hK => ?_)
         have hs81 : w80.cell? ⟨gb925, 0, none⟩ = some (.string (⟨#[]⟩ : ByteArray)) := (blk_cell BK925.out 0).trans rfl
         have hfs81 := blk_frozen BK925.out 0
         have hns81_0 := NB893_925.out
         have hns81_1 := NB894_925.out
         have hms81_0 := NB925_893.out
         have hms81_1 := NB925_894.out
         have hs82 : w80.cell? ⟨gb925, 1, none⟩ = some (.int .i64 0) := (blk_cell BK925.out 1).trans rfl
         have hfs82 := blk_frozen BK925.out 1
         have hns82_0 := NB893_925.out
         have hns82_1 := NB894_925.out
         have hms82_0 := NB925_893.out
         have hms82_1 := NB925_894.out
         have hs83 : w80.cell? ⟨gb925, 2, none⟩ = some (.float .f64 0) := (blk_cell BK925.out 2).trans rfl
         have hfs83 := blk_frozen BK925.out 2
         have hns83_0 := NB893_925.out
         have hns83_1 := NB894_925.out
         have hms83_0 := NB925_893.out
         have hms83_1 := NB925_894.out
         have hs84 : w80.cell? ⟨gb925, 3, none⟩ = some (.string (⟨#[]⟩ : ByteArray)) := (blk_cell BK925.out 3).trans rfl
         have hfs84 := blk_frozen BK925.out 3
         have hns84_0 := NB893_925.out
         have hns84_1 := NB894_925.out
         have hms84_0 := NB925_893.out
         have hms84_1 := NB925_894.out
         have hs85 : w80.cell? ⟨gb925, 4, none⟩ = some (.int .i64 0) := (blk_cell BK925.out 4).trans rfl
         have hfs85 := blk_frozen BK925.out 4
         have hns85_0 := NB893_925.out
         have hns85_1 := NB894_925.out
         have hms85_0 := NB925_893.out
         have hms85_1 := NB925_894.out
         have hs86 : w80.cell? ⟨gb925, 5, none⟩ = some (.int .i64 0) := (blk_cell BK925.out 5).trans rfl
         have hfs86 := blk_frozen BK925.out 5
         have hns86_0 := NB893_925.out
         have hns86_1 := NB894_925.out
         have hms86_0 := NB925_893.out
         have hms86_1 := NB925_894.out
         have hs87 : w80.cell? ⟨gb925, 6, none⟩ = some (.float .f64 0) := (blk_cell BK925.out 6).trans rfl
         have hfs87 := blk_frozen BK925.out 6
         have hns87_0 := NB893_925.out
         have hns87_1 := NB894_925.out
         have hms87_0 := NB925_893.out
         have hms87_1 := NB925_894.out
         have hs88 : w80.cell? ⟨gb925, 7, none⟩ = some (.string (⟨#[]⟩ : ByteArray)) := (blk_cell BK925.out 7).trans rfl
         have hfs88 := blk_frozen BK925.out 7
         have hns88_0 := NB893_925.out
         have hns88_1 := NB894_925.out
         have hms88_0 := NB925_893.out
         have hms88_1 := NB925_894.out
         with_reducible refine skip_ (w1 := ?_) (by with_unfolding_all rfl) (by with_unfolding_all rfl) ?_ ?_
         rotate_left
         ·go_simp
          rfl
         refine hK.out _ _ ⟨(bT hHeld.1), (bT hHeld.2.1), (bT hHeld.2.2.1), (bT hHeld.2.2.2.1), (bT hHeld.2.2.2.2.1), (bT hHeld.2.2.2.2.2.1), (bT hHeld.2.2.2.2.2.2.1), (bT hHeld.2.2.2.2.2.2.2.1), (bT hHeld.2.2.2.2.2.2.2.2.1), (bT hHeld.2.2.2.2.2.2.2.2.2.1), (bT hHeld.2.2.2.2.2.2.2.2.2.2)⟩ (fun hHeld => ?_)
         clear hK K
         refine done_ (by kernel_rfl) ?_
         try go_wp2
         have n0_ : Aside0 (((((((((w80.setCell ⟨gb925, 0, none⟩ (.string t917)).setCell ⟨gb925, 1, none⟩ (.int .i64 t918)).setCell ⟨gb925, 2, none⟩ (.float .f64 t919)).setCell ⟨gb925, 3, none⟩ (.string t920)).setCell ⟨gb925, 4, none⟩ (.int .i64 t921)).setCell ⟨gb925, 5, none⟩ (.int .i64 t922)).setCell ⟨gb925, 6, none⟩ (.float .f64 t923)).setCell ⟨gb925, 7, none⟩ (.string t924)).heap[gb893]? = some (.cells #[.string t896, .int .i64 t897, .float .f64 t898, .string t899, .int .i64 t900, .int .i64 t901, .float .f64 t902, .string t903] 26 (0, 0))) := bS BK893
         have n1_ : Aside0 (((((((((w80.setCell ⟨gb925, 0, none⟩ (.string t917)).setCell ⟨gb925, 1, none⟩ (.int .i64 t918)).setCell ⟨gb925, 2, none⟩ (.float .f64 t919)).setCell ⟨gb925, 3, none⟩ (.string t920)).setCell ⟨gb925, 4, none⟩ (.int .i64 t921)).setCell ⟨gb925, 5, none⟩ (.int .i64 t922)).setCell ⟨gb925, 6, none⟩ (.float .f64 t923)).setCell ⟨gb925, 7, none⟩ (.string t924)).heap[gb894]? = some (.cells #[.int .i64 t904, .float .f64 t905, .string t906] 24 (0, 0))) := bS BK894
         have n2_ : Aside0 (((((((((w80.setCell ⟨gb925, 0, none⟩ (.string t917)).setCell ⟨gb925, 1, none⟩ (.int .i64 t918)).setCell ⟨gb925, 2, none⟩ (.float .f64 t919)).setCell ⟨gb925, 3, none⟩ (.string t920)).setCell ⟨gb925, 4, none⟩ (.int .i64 t921)).setCell ⟨gb925, 5, none⟩ (.int .i64 t922)).setCell ⟨gb925, 6, none⟩ (.float .f64 t923)).setCell ⟨gb925, 7, none⟩ (.string t924)).heap[gb925]? = some (.cells #[.string t917, .int .i64 t918, .float .f64 t919, .string t920, .int .i64 t921, .int .i64 t922, .float .f64 t923, .string t924] 31 (0, 0))) := ⟨by (with_reducible repeat (first | refine blk_drewN ?_ _ | refine blk_drew ?_ | refine blk_alloc ?_ _)); refine blk_put (cs := #[.string t917, .int .i64 t918, .float .f64 t919, .string t920, .int .i64 t921, .int .i64 t922, .float .f64 t923, .string (⟨#[]⟩ : ByteArray)]) ?_ 7 _ rfl; (with_reducible repeat (first | refine blk_drewN ?_ _ | refine blk_drew ?_ | refine blk_alloc ?_ _)); refine blk_put (cs := #[.string t917, .int .i64 t918, .float .f64 t919, .string t920, .int .i64 t921, .int .i64 t922, .float .f64 0, .string (⟨#[]⟩ : ByteArray)]) ?_ 6 _ rfl; (with_reducible repeat (first | refine blk_drewN ?_ _ | refine blk_drew ?_ | refine blk_alloc ?_ _)); refine blk_put (cs := #[.string t917, .int .i64 t918, .float .f64 t919, .string t920, .int .i64 t921, .int .i64 0, .float .f64 0, .string (⟨#[]⟩ : ByteArray)]) ?_ 5 _ rfl; (with_reducible repeat (first | refine blk_drewN ?_ _ | refine blk_drew ?_ | refine blk_alloc ?_ _)); refine blk_put (cs := #[.string t917, .int .i64 t918, .float .f64 t919, .string t920, .int .i64 0, .int .i64 0, .float .f64 0, .string (⟨#[]⟩ : ByteArray)]) ?_ 4 _ rfl; (with_reducible repeat (first | refine blk_drewN ?_ _ | refine blk_drew ?_ | refine blk_alloc ?_ _)); refine blk_put (cs := #[.string t917, .int .i64 t918, .float .f64 t919, .string (⟨#[]⟩ : ByteArray), .int .i64 0, .int .i64 0, .float .f64 0, .string (⟨#[]⟩ : ByteArray)]) ?_ 3 _ rfl; (with_reducible repeat (first | refine blk_drewN ?_ _ | refine blk_drew ?_ | refine blk_alloc ?_ _)); refine blk_put (cs := #[.string t917, .int .i64 t918, .float .f64 0, .string (⟨#[]⟩ : ByteArray), .int .i64 0, .int .i64 0, .float .f64 0, .string (⟨#[]⟩ : ByteArray)]) ?_ 2 _ rfl; (with_reducible repeat (first | refine blk_drewN ?_ _ | refine blk_drew ?_ | refine blk_alloc ?_ _)); refine blk_put (cs := #[.string t917, .int .i64 0, .float .f64 0, .string (⟨#[]⟩ : ByteArray), .int .i64 0, .int .i64 0, .float .f64 0, .string (⟨#[]⟩ : ByteArray)]) ?_ 1 _ rfl; (with_reducible repeat (first | refine blk_drewN ?_ _ | refine blk_drew ?_ | refine blk_alloc ?_ _)); refine blk_put (cs := #[.string (⟨#[]⟩ : ByteArray), .int .i64 0, .float .f64 0, .string (⟨#[]⟩ : ByteArray), .int .i64 0, .int .i64 0, .float .f64 0, .string (⟨#[]⟩ : ByteArray)]) ?_ 0 _ rfl; (with_reducible repeat (first | refine blk_drewN ?_ _ | refine blk_drew ?_ | refine blk_alloc ?_ _)); exact BK925.out⟩
         have n3_ : Aside0 (Below w.heap.size w ((((((((w80.setCell ⟨gb925, 0, none⟩ (.string t917)).setCell ⟨gb925, 1, none⟩ (.int .i64 t918)).setCell ⟨gb925, 2, none⟩ (.float .f64 t919)).setCell ⟨gb925, 3, none⟩ (.string t920)).setCell ⟨gb925, 4, none⟩ (.int .i64 t921)).setCell ⟨gb925, 5, none⟩ (.int .i64 t922)).setCell ⟨gb925, 6, none⟩ (.float .f64 t923)).setCell ⟨gb925, 7, none⟩ (.string t924))) := ⟨by repeat (first | (with_reducible first | exact HB.out | apply below_alloc | apply pw_below_drewN | apply below_drew1 | refine below_set ?_ GE893.out | refine below_set ?_ GE894.out | refine below_set ?_ GE925.out) | exact HB.out)⟩
         (try clear BK893)
         (try clear BK894)
         (try clear BK925)
         (try clear HB)
         generalize ((((((((w80.setCell ⟨gb925, 0, none⟩ (.string t917)).setCell ⟨gb925, 1, none⟩ (.int .i64 t918)).setCell ⟨gb925, 2, none⟩ (.float .f64 t919)).setCell ⟨gb925, 3, none⟩ (.string t920)).setCell ⟨gb925, 4, none⟩ (.int .i64 t921)).setCell ⟨gb925, 5, none⟩ (.int .i64 t922)).setCell ⟨gb925, 6, none⟩ (.float .f64 t923)).setCell ⟨gb925, 7, none⟩ (.string t924)) = w89 at n0_ n1_ n2_ n3_ ⊢
         have BK893 := n0_
         have BK894 := n1_
         have BK925 := n2_
         have HB := n3_
         clear n0_ n1_ n2_ n3_
         replace BK893 := Aside0.mk (blk_drew BK893.out)
         replace BK894 := Aside0.mk (blk_drew BK894.out)
         replace BK925 := Aside0.mk (blk_drew BK925.out)
         replace HB := Aside0.mk (below_drew1 HB.out)
         refine start_ (n := 34) (S := fun w' => w'.cell? ⟨gb925, 0, none⟩ = some (.string t917) ∧ w'.cell? ⟨gb925, 1, none⟩ = some (.int .i64 t918) ∧ w'.cell? ⟨gb925, 2, none⟩ = some (.float .f64 t919) ∧ w'.cell? ⟨gb925, 3, none⟩ = some (.string t920) ∧ w'.cell? ⟨gb925, 4, none⟩ = some (.int .i64 t921) ∧ w'.cell? ⟨gb925, 5, none⟩ = some (.int .i64 t922) ∧ w'.cell? ⟨gb925, 6, none⟩ = some (.float .f64 t923) ∧ w'.cell? ⟨gb925, 7, none⟩ = some (.string t924) ∧ w'.cell? ⟨gb894, 0, none⟩ = some (.int .i64 t904) ∧ w'.cell? ⟨gb894, 1, none⟩ = some (.float .f64 t905) ∧ w'.cell? ⟨gb894, 2, none⟩ = some (.string t906) ∧ w'.cell? ⟨gb893, 0, none⟩ = some (.string t896) ∧ w'.cell? ⟨gb893, 1, none⟩ = some (.int .i64 t897) ∧ w'.cell? ⟨gb893, 2, none⟩ = some (.float .f64 t898) ∧ w'.cell? ⟨gb893, 3, none⟩ = some (.string t899) ∧ w'.cell? ⟨gb893, 4, none⟩ = some (.int .i64 t900) ∧ w'.cell? ⟨gb893, 5, none⟩ = some (.int .i64 t901) ∧ w'.cell? ⟨gb893, 6, none⟩ = some (.float .f64 t902) ∧ w'.cell? ⟨gb893, 7, none⟩ = some (.string t903)) (ds := []) #[false, false, false, false, false, false, false, false, false, false, false, false, false, false, false, false, false, false, false, false, false, false, false, false, false, false, false, false, false, false, false, false, false, false] (by kernel_rfl) rfl rfl (bn8 BK925 (bn3 BK894 (be8 BK893))) (fun hHeld => ?_); refine with_tabW engrosslaw10_CellWho.tab8 engrosslaw10_CellWho.bits8 (fun HT_ HW_ => ?_)
         generalize w89.drew = w90 at BK893 BK894 BK925 HB hHeld ⊢
         refine pure_ (i := 1) (N := some 50) (v := ?_) (a' := ?_) #[false, true, false, false, false, false, false, false, false, false, false, false, false, false, false, false, false, false, false, false, false, false, false, false, false, false, false, false, false, false, false, false, false, false] rfl rfl (any_of HT_.out (by kernel_rfl)) (fun _ _ _ h => h) (Or.inl ⟨by rfl, ?_⟩) ?_ ?_
         rotate_left
         ·intro w'
          go_simp
          with_reducible rfl
         rotate_left
         ·simp only [Act.put, List.setIfInBounds_toArray, List.set_cons_zero, List.set_cons_succ, i64_w, i32_w]
          rfl
         refine take_ (i := 0) (N := some 49) (v := ?_) (a' := ?_) #[true, true, false, false, false, false, false, false, false, false, false, false, false, false, false, false, false, false, false, false, false, false, false, false, false, false, false, false, false, false, false, false, false, false] rfl rfl (take_ofW HT_.out HW_.out (by kernel_rfl)) (fun _ _ _ h => h) (Or.inl ⟨by rfl, ?_⟩) hHeld ?_ ?_
         rotate_left
         ·rintro w' ⟨s0, s1, s2, s3, s4, s5, s6, s7, s8, s9, s10, s11, s12, s13, s14, s15, s16, s17, s18⟩
          go_simp
          with_reducible rfl
         rotate_left
         ·simp only [Act.put, List.setIfInBounds_toArray, List.set_cons_zero, List.set_cons_succ, i64_w, i32_w]
          rfl
         refine take_ (i := 3) (N := some 52) (v := ?_) (a' := ?_) #[true, true, false, true, false, false, false, false, false, false, false, false, false, false, false, false, false, false, false, false, false, false, false, false, false, false, false, false, false, false, false, false, false, false] rfl rfl (take_ofW HT_.out HW_.out (by kernel_rfl)) (fun _ _ _ h => h) (Or.inl ⟨by rfl, ?_⟩) hHeld ?_ ?_
         rotate_left
         ·rintro w' ⟨s0, s1, s2, s3, s4, s5, s6, s7, s8, s9, s10, s11, s12, s13, s14, s15, s16, s17, s18⟩
          go_simp
          with_reducible rfl
         rotate_left
         ·simp only [Act.put, List.setIfInBounds_toArray, List.set_cons_zero, List.set_cons_succ, i64_w, i32_w]
          rfl
         refine one_ (i := 2) (N := some 51) #[true, true, true, true, false, false, false, false, false, false, false, false, false, false, false, false, false, false, false, false, false, false, false, false, false, false, false, false, false, false, false, false, false, false] rfl rfl (one_of HT_.out (by kernel_rfl)) (by decide) (fun K hK => ?_)
         refine goes_ Try.func17 (by kernel_rfl) rfl #[.agg #[.string t917, .int .i64 t918, .float .f64 t919, .string t920, .int .i64 t921, .int .i64 t922, .float .f64 t923, .string t924], .int .i64 a1] (by rfl) rfl rfl (by (try simp only [List.map_toArray, List.map_cons, List.map_nil]); first | done | rfl | (simp only [List.length_drop, List.length_take]; rfl)) ?_
         with_reducible refine (cell_See.calls t917 t918 t919 t920 t921 t922 t923 t924 a1 t926 t927 t928 _ A62.out).mono ?_
         rintro e w91 ⟨rfl, hb⟩
         refine ⟨_, rfl, ?_⟩
         replace BK893 := bB BK893 hb
         replace BK894 := bB BK894 hb
         replace BK925 := bB BK925 hb
         replace HB := bW HB hb
         (try clear hb)
         (try clear hb2)
         (try clear hk)
         (try clear hi)
         refine hK.out _ _ (bn8 BK925 (bn3 BK894 (be8 BK893))) (fun hHeld => ?_)
         clear hK K
         refine norm_ (a' := ?_) ?_ ?_
         rotate_left
         ·show Act.put _ (some 51) _ = _
          simp only [Act.put, List.setIfInBounds_toArray, List.set_cons_zero, List.set_cons_succ, i64_w, i32_w]
          rfl
         refine one_ (i := 4) (N := some 53) #[true, true, true, true, true, false, false, false, false, false, false, false, false, false, false, false, false, false, false, false, false, false, false, false, false, false, false, false, false, false, false, false, false, false] rfl rfl (one_of HT_.out (by kernel_rfl)) (by decide) (fun K hK => ?_)
         refine goes_ Try.func16 (by kernel_rfl) rfl #[.agg #[.int .i64 t926, .float .f64 t927, .string t928], .agg #[.int .i64 t904, .float .f64 t905, .string t906]] (by rfl) rfl rfl (by (try simp only [List.map_toArray, List.map_cons, List.map_nil]); first | done | rfl | (simp only [List.length_drop, List.length_take]; rfl)) ?_
         with_reducible refine (engrossref1_EqVal.calls t926 t927 t928 t904 t905 t906 true _ A63.out).mono ?_
         rintro e w92 ⟨rfl, hb⟩
         refine ⟨_, rfl, ?_⟩
         replace BK893 := bB BK893 hb
         replace BK894 := bB BK894 hb
         replace BK925 := bB BK925 hb
         replace HB := bW HB hb
         (try clear hb)
         (try clear hb2)
         (try clear hk)
         (try clear hi)
         refine hK.out _ _ (bn8 BK925 (bn3 BK894 (be8 BK893))) (fun hHeld => ?_)
         clear hK K
         refine norm_ (a' := ?_) ?_ ?_
         rotate_left
         ·show Act.put _ (some 53) _ = _
          simp only [Act.put, List.setIfInBounds_toArray, List.set_cons_zero, List.set_cons_succ, i64_w, i32_w]
          rfl
         refine pure_ (i := 5) (N := some 54) (v := ?_) (a' := ?_) #[true, true, true, true, true, true, false, false, false, false, false, false, false, false, false, false, false, false, false, false, false, false, false, false, false, false, false, false, false, false, false, false, false, false] rfl rfl (any_of HT_.out (by kernel_rfl)) (fun _ _ _ h => h) (Or.inl ⟨by rfl, ?_⟩) ?_ ?_
         rotate_left
         ·intro w'
          go_simp
          with_reducible rfl
         rotate_left
         ·simp only [Act.put, List.setIfInBounds_toArray, List.set_cons_zero, List.set_cons_succ, i64_w, i32_w]
          rfl
         refine pure_ (i := 7) (N := some 56) (v := ?_) (a' := ?_) #[true, true, true, true, true, true, false, true, false, false, false, false, false, false, false, false, false, false, false, false, false, false, false, false, false, false, false, false, false, false, false, false, false, false] rfl rfl (any_of HT_.out (by kernel_rfl)) (fun _ _ _ h => h) (Or.inl ⟨by rfl, ?_⟩) ?_ ?_
         rotate_left
         ·intro w'
          go_simp
          with_reducible rfl
         rotate_left
         ·simp only [Act.put, List.setIfInBounds_toArray, List.set_cons_zero, List.set_cons_succ, i64_w, i32_w]
          rfl
         refine pure_ (i := 9) (N := some 58) (v := ?_) (a' := ?_) #[true, true, true, true, true, true, false, true, false, true, false, false, false, false, false, false, false, false, false, false, false, false, false, false, false, false, false, false, false, false, false, false, false, false] rfl rfl (any_of HT_.out (by kernel_rfl)) (fun _ _ _ h => h) (Or.inl ⟨by rfl, ?_⟩) ?_ ?_
         rotate_left
         ·intro w'
          go_simp
          with_reducible rfl
         rotate_left
         ·simp only [Act.put, List.setIfInBounds_toArray, List.set_cons_zero, List.set_cons_succ, i64_w, i32_w]
          rfl
         refine take_ (i := 6) (N := some 55) (v := ?_) (a' := ?_) #[true, true, true, true, true, true, true, true, false, true, false, false, false, false, false, false, false, false, false, false, false, false, false, false, false, false, false, false, false, false, false, false, false, false] rfl rfl (take_ofW HT_.out HW_.out (by kernel_rfl)) (fun _ _ _ h => h) (Or.inl ⟨by rfl, ?_⟩) hHeld ?_ ?_
         rotate_left
         ·rintro w' ⟨s0, s1, s2, s3, s4, s5, s6, s7, s8, s9, s10, s11, s12, s13, s14, s15, s16, s17, s18⟩
          go_simp
          with_reducible rfl
         rotate_left
         ·simp only [Act.put, List.setIfInBounds_toArray, List.set_cons_zero, List.set_cons_succ, i64_w, i32_w]
          rfl
         refine take_ (i := 10) (N := some 59) (v := ?_) (a' := ?_) #[true, true, true, true, true, true, true, true, false, true, true, false, false, false, false, false, false, false, false, false, false, false, false, false, false, false, false, false, false, false, false, false, false, false] rfl rfl (take_ofW HT_.out HW_.out (by kernel_rfl)) (fun _ _ _ h => h) (Or.inl ⟨by rfl, ?_⟩) hHeld ?_ ?_
         rotate_left
         ·rintro w' ⟨s0, s1, s2, s3, s4, s5, s6, s7, s8, s9, s10, s11, s12, s13, s14, s15, s16, s17, s18⟩
          go_simp
          with_reducible rfl
         rotate_left
         ·simp only [Act.put, List.setIfInBounds_toArray, List.set_cons_zero, List.set_cons_succ, i64_w, i32_w]
          rfl
         refine one_ (i := 8) (N := some 57) #[true, true, true, true, true, true, true, true, true, true, true, false, false, false, false, false, false, false, false, false, false, false, false, false, false, false, false, false, false, false, false, false, false, false] rfl rfl (one_of HT_.out (by kernel_rfl)) (by decide) (fun K hK => ?_)
         refine goes_ Try.func17 (by kernel_rfl) rfl #[.agg #[.string t917, .int .i64 t918, .float .f64 t919, .string t920, .int .i64 t921, .int .i64 t922, .float .f64 t923, .string t924], .int .i64 a2] (by rfl) rfl rfl (by (try simp only [List.map_toArray, List.map_cons, List.map_nil]); first | done | rfl | (simp only [List.length_drop, List.length_take]; rfl)) ?_
         with_reducible refine (cell_See.calls t917 t918 t919 t920 t921 t922 t923 t924 a2 t930 t931 t932 _ A65.out).mono ?_
         rintro e w93 ⟨rfl, hb⟩
         refine ⟨_, rfl, ?_⟩
         replace BK893 := bB BK893 hb
         replace BK894 := bB BK894 hb
         replace BK925 := bB BK925 hb
         replace HB := bW HB hb
         (try clear hb)
         (try clear hb2)
         (try clear hk)
         (try clear hi)
         refine hK.out _ _ (bn8 BK925 (bn3 BK894 (be8 BK893))) (fun hHeld => ?_)
         clear hK K
         refine norm_ (a' := ?_) ?_ ?_
         rotate_left
         ·show Act.put _ (some 57) _ = _
          simp only [Act.put, List.setIfInBounds_toArray, List.set_cons_zero, List.set_cons_succ, i64_w, i32_w]
          rfl
         refine one_ (i := 11) (N := some 60) #[true, true, true, true, true, true, true, true, true, true, true, true, false, false, false, false, false, false, false, false, false, false, false, false, false, false, false, false, false, false, false, false, false, false] rfl rfl (one_of HT_.out (by kernel_rfl)) (by decide) (fun K hK => ?_)
         refine goes_ Try.func16 (by kernel_rfl) rfl #[.agg #[.int .i64 t930, .float .f64 t931, .string t932], .agg #[.int .i64 t897, .float .f64 t898, .string t899]] (by rfl) rfl rfl (by (try simp only [List.map_toArray, List.map_cons, List.map_nil]); first | done | rfl | (simp only [List.length_drop, List.length_take]; rfl)) ?_
         with_reducible refine (engrossref1_EqVal.calls t930 t931 t932 t897 t898 t899 true _ A66.out).mono ?_
         rintro e w94 ⟨rfl, hb⟩
         refine ⟨_, rfl, ?_⟩
         replace BK893 := bB BK893 hb
         replace BK894 := bB BK894 hb
         replace BK925 := bB BK925 hb
         replace HB := bW HB hb
         (try clear hb)
         (try clear hb2)
         (try clear hk)
         (try clear hi)
         refine hK.out _ _ (bn8 BK925 (bn3 BK894 (be8 BK893))) (fun hHeld => ?_)
         clear hK K
         refine norm_ (a' := ?_) ?_ ?_
         rotate_left
         ·show Act.put _ (some 60) _ = _
          simp only [Act.put, List.setIfInBounds_toArray, List.set_cons_zero, List.set_cons_succ, i64_w, i32_w]
          rfl
         refine pure_ (i := 12) (N := some 61) (v := ?_) (a' := ?_) #[true, true, true, true, true, true, true, true, true, true, true, true, true, false, false, false, false, false, false, false, false, false, false, false, false, false, false, false, false, false, false, false, false, false] rfl rfl (any_of HT_.out (by kernel_rfl)) (fun _ _ _ h => h) (Or.inl ⟨by rfl, ?_⟩) ?_ ?_
         rotate_left
         ·intro w'
          go_simp
          with_reducible rfl
         rotate_left
         ·simp only [Act.put, List.setIfInBounds_toArray, List.set_cons_zero, List.set_cons_succ, i64_w, i32_w]
          rfl
         refine pure_ (i := 13) (N := some 62) (v := ?_) (a' := ?_) #[true, true, true, true, true, true, true, true, true, true, true, true, true, true, false, false, false, false, false, false, false, false, false, false, false, false, false, false, false, false, false, false, false, false] rfl rfl (any_of HT_.out (by kernel_rfl)) (fun _ _ _ h => h) (Or.inl ⟨by rfl, ?_⟩) ?_ ?_
         rotate_left
         ·intro w'
          go_simp
          with_reducible rfl
         rotate_left
         ·simp only [Act.put, List.setIfInBounds_toArray, List.set_cons_zero, List.set_cons_succ, i64_w, i32_w]
          rfl
         refine pure_ (i := 16) (N := some 65) (v := ?_) (a' := ?_) #[true, true, true, true, true, true, true, true, true, true, true, true, true, true, false, false, true, false, false, false, false, false, false, false, false, false, false, false, false, false, false, false, false, false] rfl rfl (any_of HT_.out (by kernel_rfl)) (fun _ _ _ h => h) (Or.inl ⟨by rfl, ?_⟩) ?_ ?_
         rotate_left
         ·intro w'
          go_simp
          with_reducible rfl
         rotate_left
         ·simp only [Act.put, List.setIfInBounds_toArray, List.set_cons_zero, List.set_cons_succ, i64_w, i32_w]
          rfl
         refine take_ (i := 14) (N := some 63) (v := ?_) (a' := ?_) #[true, true, true, true, true, true, true, true, true, true, true, true, true, true, true, false, true, false, false, false, false, false, false, false, false, false, false, false, false, false, false, false, false, false] rfl rfl (take_ofW HT_.out HW_.out (by kernel_rfl)) (fun _ _ _ h => h) (Or.inl ⟨by rfl, ?_⟩) hHeld ?_ ?_
         rotate_left
         ·rintro w' ⟨s0, s1, s2, s3, s4, s5, s6, s7, s8, s9, s10, s11, s12, s13, s14, s15, s16, s17, s18⟩
          go_simp
          with_reducible rfl
         rotate_left
         ·simp only [Act.put, List.setIfInBounds_toArray, List.set_cons_zero, List.set_cons_succ, i64_w, i32_w]
          rfl
         refine take_ (i := 17) (N := some 66) (v := ?_) (a' := ?_) #[true, true, true, true, true, true, true, true, true, true, true, true, true, true, true, false, true, true, false, false, false, false, false, false, false, false, false, false, false, false, false, false, false, false] rfl rfl (take_ofW HT_.out HW_.out (by kernel_rfl)) (fun _ _ _ h => h) (Or.inl ⟨by rfl, ?_⟩) hHeld ?_ ?_
         rotate_left
         ·rintro w' ⟨s0, s1, s2, s3, s4, s5, s6, s7, s8, s9, s10, s11, s12, s13, s14, s15, s16, s17, s18⟩
          go_simp
          with_reducible rfl
         rotate_left
         ·simp only [Act.put, List.setIfInBounds_toArray, List.set_cons_zero, List.set_cons_succ, i64_w, i32_w]
          rfl
         refine one_ (i := 15) (N := some 64) #[true, true, true, true, true, true, true, true, true, true, true, true, true, true, true, true, true, true, false, false, false, false, false, false, false, false, false, false, false, false, false, false, false, false] rfl rfl (one_of HT_.out (by kernel_rfl)) (by decide) (fun K hK => ?_)
         refine goes_ Try.func17 (by kernel_rfl) rfl #[.agg #[.string t917, .int .i64 t918, .float .f64 t919, .string t920, .int .i64 t921, .int .i64 t922, .float .f64 t923, .string t924], .int .i64 0] (by rfl) rfl rfl (by (try simp only [List.map_toArray, List.map_cons, List.map_nil]); first | done | rfl | (simp only [List.length_drop, List.length_take]; rfl)) ?_
         with_reducible refine (cell_See.calls t917 t918 t919 t920 t921 t922 t923 t924 0 t934 t935 t936 _ A68.out).mono ?_
         rintro e w95 ⟨rfl, hb⟩
         refine ⟨_, rfl, ?_⟩
         replace BK893 := bB BK893 hb
         replace BK894 := bB BK894 hb
         replace BK925 := bB BK925 hb
         replace HB := bW HB hb
         (try clear hb)
         (try clear hb2)
         (try clear hk)
         (try clear hi)
         refine hK.out _ _ (bn8 BK925 (bn3 BK894 (be8 BK893))) (fun hHeld => ?_)
         clear hK K
         refine norm_ (a' := ?_) ?_ ?_
         rotate_left
         ·show Act.put _ (some 64) _ = _
          simp only [Act.put, List.setIfInBounds_toArray, List.set_cons_zero, List.set_cons_succ, i64_w, i32_w]
          rfl
         refine one_ (i := 18) (N := some 67) #[true, true, true, true, true, true, true, true, true, true, true, true, true, true, true, true, true, true, true, false, false, false, false, false, false, false, false, false, false, false, false, false, false, false] rfl rfl (one_of HT_.out (by kernel_rfl)) (by decide) (fun K hK => ?_)
         refine goes_ Try.func16 (by kernel_rfl) rfl #[.agg #[.int .i64 t934, .float .f64 t935, .string t936], .agg #[.int .i64 t897, .float .f64 t898, .string t899]] (by rfl) rfl rfl (by (try simp only [List.map_toArray, List.map_cons, List.map_nil]); first | done | rfl | (simp only [List.length_drop, List.length_take]; rfl)) ?_
         with_reducible refine (engrossref1_EqVal.calls t934 t935 t936 t897 t898 t899 true _ A69.out).mono ?_
         rintro e w96 ⟨rfl, hb⟩
         refine ⟨_, rfl, ?_⟩
         replace BK893 := bB BK893 hb
         replace BK894 := bB BK894 hb
         replace BK925 := bB BK925 hb
         replace HB := bW HB hb
         (try clear hb)
         (try clear hb2)
         (try clear hk)
         (try clear hi)
         refine hK.out _ _ (bn8 BK925 (bn3 BK894 (be8 BK893))) (fun hHeld => ?_)
         clear hK K
         refine norm_ (a' := ?_) ?_ ?_
         rotate_left
         ·show Act.put _ (some 67) _ = _
          simp only [Act.put, List.setIfInBounds_toArray, List.set_cons_zero, List.set_cons_succ, i64_w, i32_w]
          rfl
         refine pure_ (i := 19) (N := some 68) (v := ?_) (a' := ?_) #[true, true, true, true, true, true, true, true, true, true, true, true, true, true, true, true, true, true, true, true, false, false, false, false, false, false, false, false, false, false, false, false, false, false] rfl rfl (any_of HT_.out (by kernel_rfl)) (fun _ _ _ h => h) (Or.inl ⟨by rfl, ?_⟩) ?_ ?_
         rotate_left
         ·intro w'
          go_simp
          with_reducible rfl
         rotate_left
         ·simp only [Act.put, List.setIfInBounds_toArray, List.set_cons_zero, List.set_cons_succ, i64_w, i32_w]
          rfl
         refine pure_ (i := 20) (N := some 69) (v := ?_) (a' := ?_) #[true, true, true, true, true, true, true, true, true, true, true, true, true, true, true, true, true, true, true, true, true, false, false, false, false, false, false, false, false, false, false, false, false, false] rfl rfl (any_of HT_.out (by kernel_rfl)) (fun _ _ _ h => h) (Or.inl ⟨by rfl, ?_⟩) ?_ ?_
         rotate_left
         ·intro w'
          go_simp
          with_reducible rfl
         rotate_left
         ·simp only [Act.put, List.setIfInBounds_toArray, List.set_cons_zero, List.set_cons_succ, i64_w, i32_w]
          rfl
         refine take_ (i := 21) (N := some 70) (v := ?_) (a' := ?_) #[true, true, true, true, true, true, true, true, true, true, true, true, true, true, true, true, true, true, true, true, true, true, false, false, false, false, false, false, false, false, false, false, false, false] rfl rfl (take_ofW HT_.out HW_.out (by kernel_rfl)) (fun _ _ _ h => h) (Or.inl ⟨by rfl, ?_⟩) hHeld ?_ ?_
         rotate_left
         ·rintro w' ⟨s0, s1, s2, s3, s4, s5, s6, s7, s8, s9, s10, s11, s12, s13, s14, s15, s16, s17, s18⟩
          go_simp
          with_reducible rfl
         rotate_left
         ·simp only [Act.put, List.setIfInBounds_toArray, List.set_cons_zero, List.set_cons_succ, i64_w, i32_w]
          rfl
         refine one_ (i := 22) (N := some 71) #[true, true, true, true, true, true, true, true, true, true, true, true, true, true, true, true, true, true, true, true, true, true, true, false, false, false, false, false, false, false, false, false, false, false] rfl rfl (one_of HT_.out (by kernel_rfl)) (by decide) (fun K hK => ?_)
         refine goes_ Try.func13 (by kernel_rfl) rfl #[.agg #[.string t917, .int .i64 t918, .float .f64 t919, .string t920, .int .i64 t921, .int .i64 t922, .float .f64 t923, .string t924]] (by rfl) rfl rfl (by (try simp only [List.map_toArray, List.map_cons, List.map_nil]); first | done | rfl | (simp only [List.length_drop, List.length_take]; rfl)) ?_
         with_reducible refine (cell_May.calls kj8 t917 t918 t919 t920 t921 t922 t923 t924 true _ A71.out).mono ?_
         rintro e w97 ⟨rfl, hb⟩
         refine ⟨_, rfl, ?_⟩
         replace BK893 := bB BK893 hb
         replace BK894 := bB BK894 hb
         replace BK925 := bB BK925 hb
         replace HB := bW HB hb
         (try clear hb)
         (try clear hb2)
         (try clear hk)
         (try clear hi)
         refine hK.out _ _ (bn8 BK925 (bn3 BK894 (be8 BK893))) (fun hHeld => ?_)
         clear hK K
         refine norm_ (a' := ?_) ?_ ?_
         rotate_left
         ·show Act.put _ (some 71) _ = _
          simp only [Act.put, List.setIfInBounds_toArray, List.set_cons_zero, List.set_cons_succ, i64_w, i32_w]
          rfl
         refine pure_ (i := 23) (N := some 72) (v := ?_) (a' := ?_) #[true, true, true, true, true, true, true, true, true, true, true, true, true, true, true, true, true, true, true, true, true, true, true, true, false, false, false, false, false, false, false, false, false, false] rfl rfl (any_of HT_.out (by kernel_rfl)) (fun _ _ _ h => h) (Or.inl ⟨by rfl, ?_⟩) ?_ ?_
         rotate_left
         ·intro w'
          go_simp
          with_reducible rfl
         rotate_left
         ·simp only [Act.put, List.setIfInBounds_toArray, List.set_cons_zero, List.set_cons_succ, i64_w, i32_w]
          rfl
         refine pure_ (i := 24) (N := some 73) (v := ?_) (a' := ?_) #[true, true, true, true, true, true, true, true, true, true, true, true, true, true, true, true, true, true, true, true, true, true, true, true, true, false, false, false, false, false, false, false, false, false] rfl rfl (any_of HT_.out (by kernel_rfl)) (fun _ _ _ h => h) (Or.inl ⟨by rfl, ?_⟩) ?_ ?_
         rotate_left
         ·intro w'
          go_simp
          with_reducible rfl
         rotate_left
         ·simp only [Act.put, List.setIfInBounds_toArray, List.set_cons_zero, List.set_cons_succ, i64_w, i32_w]
          rfl
         refine pure_ (i := 28) (N := some 77) (v := ?_) (a' := ?_) #[true, true, true, true, true, true, true, true, true, true, true, true, true, true, true, true, true, true, true, true, true, true, true, true, true, false, false, false, true, false, false, false, false, false] rfl rfl (any_of HT_.out (by kernel_rfl)) (fun _ _ _ h => h) (Or.inl ⟨by rfl, ?_⟩) ?_ ?_
         rotate_left
         ·intro w'
          go_simp
          with_reducible rfl
         rotate_left
         ·simp only [Act.put, List.setIfInBounds_toArray, List.set_cons_zero, List.set_cons_succ, i64_w, i32_w]
          rfl
         refine take_ (i := 25) (N := some 74) (v := ?_) (a' := ?_) #[true, true, true, true, true, true, true, true, true, true, true, true, true, true, true, true, true, true, true, true, true, true, true, true, true, true, false, false, true, false, false, false, false, false] rfl rfl (take_ofW HT_.out HW_.out (by kernel_rfl)) (fun _ _ _ h => h) (Or.inl ⟨by rfl, ?_⟩) hHeld ?_ ?_
         rotate_left
         ·rintro w' ⟨s0, s1, s2, s3, s4, s5, s6, s7, s8, s9, s10, s11, s12, s13, s14, s15, s16, s17, s18⟩
          go_simp
          with_reducible rfl
         rotate_left
         ·simp only [Act.put, List.setIfInBounds_toArray, List.set_cons_zero, List.set_cons_succ, i64_w, i32_w]
          rfl
         refine take_ (i := 26) (N := some 75) (v := ?_) (a' := ?_) #[true, true, true, true, true, true, true, true, true, true, true, true, true, true, true, true, true, true, true, true, true, true, true, true, true, true, true, false, true, false, false, false, false, false] rfl rfl (take_ofW HT_.out HW_.out (by kernel_rfl)) (fun _ _ _ h => h) (Or.inl ⟨by rfl, ?_⟩) hHeld ?_ ?_
         rotate_left
         ·rintro w' ⟨s0, s1, s2, s3, s4, s5, s6, s7, s8, s9, s10, s11, s12, s13, s14, s15, s16, s17, s18⟩
          go_simp
          with_reducible rfl
         rotate_left
         ·simp only [Act.put, List.setIfInBounds_toArray, List.set_cons_zero, List.set_cons_succ, i64_w, i32_w]
          rfl
         refine take_ (i := 29) (N := some 78) (v := ?_) (a' := ?_) #[true, true, true, true, true, true, true, true, true, true, true, true, true, true, true, true, true, true, true, true, true, true, true, true, true, true, true, false, true, true, false, false, false, false] rfl rfl (take_ofW HT_.out HW_.out (by kernel_rfl)) (fun _ _ _ h => h) (Or.inl ⟨by rfl, ?_⟩) hHeld ?_ ?_
         rotate_left
         ·rintro w' ⟨s0, s1, s2, s3, s4, s5, s6, s7, s8, s9, s10, s11, s12, s13, s14, s15, s16, s17, s18⟩
          go_simp
          with_reducible rfl
         rotate_left
         ·simp only [Act.put, List.setIfInBounds_toArray, List.set_cons_zero, List.set_cons_succ, i64_w, i32_w]
          rfl
         refine one_ (i := 27) (N := some 76) #[true, true, true, true, true, true, true, true, true, true, true, true, true, true, true, true, true, true, true, true, true, true, true, true, true, true, true, true, true, true, false, false, false, false] rfl rfl (one_of HT_.out (by kernel_rfl)) (by decide) (fun K hK => ?_)
         refine goes_ Try.func14 (by kernel_rfl) rfl #[.agg #[.string t896, .int .i64 t897, .float .f64 t898, .string t899, .int .i64 t900, .int .i64 t901, .float .f64 t902, .string t903]] (by rfl) rfl rfl (by (try simp only [List.map_toArray, List.map_cons, List.map_nil]); first | done | rfl | (simp only [List.length_drop, List.length_take]; rfl)) ?_
         with_reducible refine (engrosslaw10_Of.calls t896 t897 t898 t899 t900 t901 t902 t903 t909 t910 t911 t912 t913 t914 t915 t916 _ A73.out).mono ?_
         rintro e w98 ⟨rfl, hb⟩
         refine ⟨_, rfl, ?_⟩
         replace BK893 := bB BK893 hb
         replace BK894 := bB BK894 hb
         replace BK925 := bB BK925 hb
         replace HB := bW HB hb
         (try clear hb)
         (try clear hb2)
         (try clear hk)
         (try clear hi)
         refine hK.out _ _ (bn8 BK925 (bn3 BK894 (be8 BK893))) (fun hHeld => ?_)
         clear hK K
         refine norm_ (a' := ?_) ?_ ?_
         rotate_left
         ·show Act.put _ (some 76) _ = _
          simp only [Act.put, List.setIfInBounds_toArray, List.set_cons_zero, List.set_cons_succ, i64_w, i32_w]
          rfl
         refine one_ (i := 30) (N := some 79) #[true, true, true, true, true, true, true, true, true, true, true, true, true, true, true, true, true, true, true, true, true, true, true, true, true, true, true, true, true, true, true, false, false, false] rfl rfl (one_of HT_.out (by kernel_rfl)) (by decide) (fun K hK => ?_)
         refine goes_ Try.func27 (by kernel_rfl) rfl #[.agg #[.string t909, .int .i64 t910, .float .f64 t911, .string t912, .int .i64 t913, .int .i64 t914, .float .f64 t915, .string t916], .int .i64 a1, .agg #[.int .i64 t904, .float .f64 t905, .string t906]] (by rfl) rfl rfl (by (try simp only [List.map_toArray, List.map_cons, List.map_nil]); first | done | rfl | (simp only [List.length_drop, List.length_take]; rfl)) ?_
         with_reducible refine (cell_Write.calls t909 t910 t911 t912 t913 t914 t915 t916 a1 t904 t905 t906 t917 t918 t919 t920 t921 t922 t923 t924 _ A74.out).mono ?_
         rintro e w99 ⟨rfl, hb⟩
         refine ⟨_, rfl, ?_⟩
         replace BK893 := bB BK893 hb
         replace BK894 := bB BK894 hb
         replace BK925 := bB BK925 hb
         replace HB := bW HB hb
         (try clear hb)
         (try clear hb2)
         (try clear hk)
         (try clear hi)
         refine hK.out _ _ (bn8 BK925 (bn3 BK894 (be8 BK893))) (fun hHeld => ?_)
         clear hK K
         refine norm_ (a' := ?_) ?_ ?_
         rotate_left
         ·show Act.put _ (some 79) _ = _
          simp only [Act.put, List.setIfInBounds_toArray, List.set_cons_zero, List.set_cons_succ, i64_w, i32_w]
          rfl
         refine one_ (i := 31) (N := some 80) #[true, true, true, true, true, true, true, true, true, true, true, true, true, true, true, true, true, true, true, true, true, true, true, true, true, true, true, true, true, true, true, true, false, false] rfl rfl (one_of HT_.out (by kernel_rfl)) (by decide) (fun K hK => ?_)
         refine goes_ Try.func19 (by kernel_rfl) rfl #[.agg #[.string t917, .int .i64 t918, .float .f64 t919, .string t920, .int .i64 t921, .int .i64 t922, .float .f64 t923, .string t924], .agg #[.string t917, .int .i64 t918, .float .f64 t919, .string t920, .int .i64 t921, .int .i64 t922, .float .f64 t923, .string t924]] (by rfl) rfl rfl (by (try simp only [List.map_toArray, List.map_cons, List.map_nil]); first | done | rfl | (simp only [List.length_drop, List.length_take]; rfl)) ?_
         with_reducible refine (cell_Eq.calls t917 t918 t919 t920 t921 t922 t923 t924 t917 t918 t919 t920 t921 t922 t923 t924 t955 _ A75.out).mono ?_
         rintro e w100 ⟨rfl, hb⟩
         refine ⟨_, rfl, ?_⟩
         replace BK893 := bB BK893 hb
         replace BK894 := bB BK894 hb
         replace BK925 := bB BK925 hb
         replace HB := bW HB hb
         (try clear hb)
         (try clear hb2)
         (try clear hk)
         (try clear hi)
         refine hK.out _ _ (bn8 BK925 (bn3 BK894 (be8 BK893))) (fun hHeld => ?_)
         clear hK K
         refine norm_ (a' := ?_) ?_ ?_
         rotate_left
         ·show Act.put _ (some 80) _ = _
          simp only [Act.put, List.setIfInBounds_toArray, List.set_cons_zero, List.set_cons_succ, i64_w, i32_w]
          rfl
         refine pure_ (i := 32) (N := some 81) (v := ?_) (a' := ?_) #[true, true, true, true, true, true, true, true, true, true, true, true, true, true, true, true, true, true, true, true, true, true, true, true, true, true, true, true, true, true, true, true, true, false] rfl rfl (any_of HT_.out (by kernel_rfl)) (fun _ _ _ h => h) (Or.inl ⟨by rfl, ?_⟩) ?_ ?_
         rotate_left
         ·intro w'
          go_simp
          with_reducible rfl
         rotate_left
         ·simp only [Act.put, List.setIfInBounds_toArray, List.set_cons_zero, List.set_cons_succ, i64_w, i32_w]
          rfl
         refine pure_ (i := 33) (N := some 8) (v := ?_) (a' := ?_) #[true, true, true, true, true, true, true, true, true, true, true, true, true, true, true, true, true, true, true, true, true, true, true, true, true, true, true, true, true, true, true, true, true, true] rfl rfl (any_of HT_.out (by kernel_rfl)) (fun _ _ _ h => h) (Or.inl ⟨by rfl, ?_⟩) ?_ ?_
         rotate_left
         ·intro w'
          go_simp
          with_reducible rfl
         rotate_left
         ·simp only [Act.put, List.setIfInBounds_toArray, List.set_cons_zero, List.set_cons_succ, i64_w, i32_w]
          rfl
         refine done_ (done_of HT_.out (by kernel_rfl)) ?_
         try go_wp2
         go_ret
         exact ⟨by first | rfl | (simp [errW_none, errW_some] <;> rfl) | (simp [*, errW_none, errW_some] <;> rfl), by repeat (first | (with_reducible first | exact HB.out | apply below_alloc | apply pw_below_drewN | apply below_drew1 | refine below_set ?_ GE893.out | refine below_set ?_ GE894.out | refine below_set ?_ GE925.out) | exact HB.out)⟩
        ·replace c72 := Bool.eq_false_iff.mpr c72
         subst c72
         have H1 : (none) = some r := by rw [if_neg (show ¬ (false = true) by decide)] at H; exact H
         clear H
         have H := H1
         clear H1
         exact absurd H (by simp)
       ·replace c70 := Bool.eq_false_iff.mpr c70
        subst c70
        have H1 : (none) = some r := by rw [if_neg (show ¬ (false = true) by decide)] at H; exact H
        clear H
        have H := H1
        clear H1
        exact absurd H (by simp)
      ·replace c67 := Bool.eq_false_iff.mpr c67
       subst c67
       have H1 : (none) = some r := by rw [if_neg (show ¬ (false = true) by decide)] at H; exact H
       clear H
       have H := H1
       clear H1
       exact absurd H (by simp)
     ·replace c64 := Bool.eq_false_iff.mpr c64
      subst c64
      have H1 : (none) = some r := by rw [if_neg (show ¬ (false = true) by decide)] at H; exact H
      clear H
      have H := H1
      clear H1
      exact absurd H (by simp)
 ·replace c6 := Bool.eq_false_iff.mpr c6
  subst c6
  have H1 : (none) = some r := by rw [if_neg (show ¬ (false = true) by decide)] at H; exact H
  clear H
  have H := H1
  clear H1
  exact absurd H (by simp)

/-- THE ONE PURE STATEMENT of engrosslaw10_CellWho. -/
def engrosslaw10_CellWho.Pure : Prop := ∀ (x0 : S26) (a1 : Int) (a2 : Int) (x3 : S24), wf26 x0 → (Lit.int .i64 a1).wf = true → (Lit.int .i64 a2).wf = true → wf24 x3 → ∃ k, engrosslaw10_CellWho.f k x0.f0 x0.f1.f0 x0.f1.f1 x0.f1.f2 x0.f2 x0.f3.f0 x0.f3.f1 x0.f3.f2 a1 a2 x3.f0 x3.f1 x3.f2 = some true

end Go.Proofs.Ytjhbeaffcdkhcaa.P
