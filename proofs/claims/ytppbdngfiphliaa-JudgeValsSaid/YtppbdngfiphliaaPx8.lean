/- Functions of the program as Lean functions, and that each call answers as its function does. No condition. (Lines written by a generator of this session.) -/
import Derived.Test.YtppbdngfiphliaaPx0
import Derived.Test.YtppbdngfiphliaaPx3
import Derived.Test.YtppbdngfiphliaaPx4
import Derived.Test.YtppbdngfiphliaaPx7
namespace Go.Proofs.Ytppbdngfiphliaa.P
open Go.RowKit Go.Proofs.YtppbdngfiphliaaW.PrintWords Go.Proofs.YtppbdngfiphliaaW.PrintLast Go.Proofs.YtppbdngfiphliaaW.PrintMore
attribute [local go_sem] max2_int min2_int max_two min_two max_three min_three max_four min_four   -- for this text's walks alone
attribute [local go_sem] x_str_gtr x_str_leq x_str_geq ext_bits ext_frombits ext_neg x_store_float Instr.field asAgg
set_option linter.unusedVariables false
set_option linter.unusedSimpArgs false

/-! ### engrosslaw28_begun: function 7 -/
def engrosslaw28_begun.f (k : Nat)  : Option (Bool) := (some (([(⟨(⟨#[97]⟩ : ByteArray), (⟨1, 4607182418800017408, (⟨#[]⟩ : ByteArray)⟩ : S31)⟩ : S38), (⟨(⟨#[98]⟩ : ByteArray), (⟨1, 4607182418800017408, (⟨#[]⟩ : ByteArray)⟩ : S31)⟩ : S38)] : List (S38)) : List (S38))).bind fun y175 => ((judge_Over.f k y175 (([(⟨(⟨#[98]⟩ : ByteArray), (⟨0, 0, (⟨#[]⟩ : ByteArray)⟩ : S31)⟩ : S38), (⟨(⟨#[99]⟩ : ByteArray), (⟨1, 4607182418800017408, (⟨#[]⟩ : ByteArray)⟩ : S31)⟩ : S38)] : List (S38)))).bind fun t181 => ((judge_Val.f k y175 (⟨#[98]⟩ : ByteArray)).bind fun bt184 => ((judge_Sorted.f k y175).bind fun t189 => (if t189 = true then (if 1 < (y175.length : Int) then (if 0 < (y175.length : Int) then ((judge_Sorted.f k (([(⟨(rd_T38 y175 1).f0, (⟨(rd_T38 y175 1).f1.f0, (rd_T38 y175 1).f1.f1, (rd_T38 y175 1).f1.f2⟩ : S31)⟩ : S38), (⟨(rd_T38 y175 0).f0, (⟨(rd_T38 y175 0).f1.f0, (rd_T38 y175 0).f1.f1, (rd_T38 y175 0).f1.f2⟩ : S31)⟩ : S38)] : List (S38)))).bind fun t195 => (if t195 = true then (none) else ((judge_Same.f k y175 y175).bind fun t196 => (if t196 = true then ((judge_Same.f k y175 t181).bind fun t197 => (if t197 = true then (none) else (if (t181.length : Int) = 2 then (if 1 < (t181.length : Int) then (if ((rd_T38 t181 1).f0).toList = ([99] : List UInt8) then ((judge_Part.f k y175 (⟨#[98]⟩ : ByteArray) (⟨#[]⟩ : ByteArray)).bind fun t199 => (if (t199.length : Int) = 1 then (if bt184.2.2.2 = true then (some (FloatKind.f64.format.order bt184.2.1 4607182418800017408 == some .eq)) else (none)) else (none))) else (none)) else (none)) else (none)))) else (none))))) else (none)) else (none)) else (none)))))
theorem engrosslaw28_begun.mono : ∀ k, LeO (engrosslaw28_begun.f k ) (engrosslaw28_begun.f (k + 1) ) := by
 intro  k
 unfold engrosslaw28_begun.f
 repeat' first
   | (with_reducible exact judge_Over.mono _ _ _)
   | (with_reducible exact judge_Part.mono _ _ _ _)
   | (with_reducible exact judge_Same.mono _ _ _)
   | (with_reducible exact judge_Sorted.mono _ _)
   | (with_reducible exact judge_Val.mono _ _ _)
   | (with_reducible exact LeO.refl _)
   | (with_reducible exact LeO.none _)
   | (with_reducible refine LeO.ite ?_ ?_)
   | (with_reducible refine LeO.bind ?_ (fun _ => ?_))
   | exact judge_Over.mono _ _ _
   | exact judge_Part.mono _ _ _ _
   | exact judge_Same.mono _ _ _
   | exact judge_Sorted.mono _ _
   | exact judge_Val.mono _ _ _
   | exact LeO.none _
   | refine LeO.ite ?_ ?_
   | refine LeO.bind ?_ (fun _ => ?_)
def engrosslaw28_begun.T5 : Bool × List (List Nat × List Nat) := (true, [([], []), ([0], [0]), ([1, 1], [1]), ([2], [2]), ([3, 2], [2, 3]), ([4, 2], [2, 4]), ([2], [2]), ([6, 2], [2, 6]), ([7, 2], [2, 7]), ([5, 8, 2], [2, 5, 8]), ([9, 2, 2], [2, 9]), ([10, 2], [2, 10]), ([2, 11], [2, 11]), ([12, 10], [12]), ([13], [13]), ([13], [13]), ([14, 15, 13, 13], [13, 14, 15]), ([13, 16], [13, 16]), ([17, 16], [17]), ([18], [18]), ([18], [18]), ([19, 20, 18, 18], [18, 19, 20]), ([21, 18], [18, 21]), ([18, 22], [18, 22]), ([23, 21], [23]), ([24], [24]), ([25, 24], [24, 25]), ([26, 24], [24, 26]), ([24, 27], [24, 27]), ([28, 24], [28]), ([29], [29]), ([30, 29], [29, 30]), ([31, 29], [29, 31]), ([32, 29], [29, 32]), ([33, 29], [29, 33]), ([29, 34], [29, 34]), ([35, 29], [35]), ([36], [36]), ([37, 36, 36], [36, 37]), ([38, 36], [36, 38]), ([39, 36], [36, 39]), ([36, 40], [36, 40]), ([41, 38], [41]), ([42], [42]), ([42, 43], [42, 43]), ([44, 42], [44]), ([45], [45]), ([46, 45], [45, 46]), ([47, 45], [45, 47]), ([45, 48], [45, 48]), ([49, 45, 0, 1, 2, 3, 4, 5, 6, 7, 8, 9, 10, 11, 12, 13, 14, 15, 16, 17, 18, 19, 20, 21, 22, 23, 24, 25, 26, 27, 28, 29, 30, 31, 32, 33, 34, 35, 36, 37, 38, 39, 40, 41, 42, 43, 44, 45, 46, 47, 48, 49], [49])])
def engrosslaw28_begun.B5 : List Nat := [0, 1, 3, 7, 15, 31, 7, 71, 199, 511, 1023, 2047, 4095, 8191, 16383, 16383, 65535, 131071, 262143, 524287, 524287, 2097151, 4194303, 8388607, 16777215, 33554431, 67108863, 134217727, 268435455, 536870911, 1073741823, 2147483647, 4294967295, 8589934591, 17179869183, 34359738367, 68719476735, 137438953471, 274877906943, 549755813887, 1099511627775, 2199023255551, 4398046511103, 8796093022207, 17592186044415, 35184372088831, 70368744177663, 140737488355327, 281474976710655, 562949953421311, 1125899906842623]
theorem engrosslaw28_begun.tab5 : rtab .any (opsOf Try.f7 5) = engrosslaw28_begun.T5 := by kernel_rfl
theorem engrosslaw28_begun.bits5 : waitsOk engrosslaw28_begun.T5.2 engrosslaw28_begun.B5 = true := by kernel_rfl
set_option maxHeartbeats 8000000 in
set_option maxRecDepth 100000 in
theorem engrosslaw28_begun.calls (k : Nat)  (r : Bool) (w : World) (h : engrosslaw28_begun.f k  = some r) :
  Calls Try.prog 7 #[] w fun e w' => e = .returned (.bool r) ∧ Below w.heap.size w w' := by
 have hu31 := Try.underlying31
 have hu38 := Try.underlying38
 have HB := Aside0.mk (Below.refl w.heap.size w)
 have H : ((some (([(⟨(⟨#[97]⟩ : ByteArray), (⟨1, 4607182418800017408, (⟨#[]⟩ : ByteArray)⟩ : S31)⟩ : S38), (⟨(⟨#[98]⟩ : ByteArray), (⟨1, 4607182418800017408, (⟨#[]⟩ : ByteArray)⟩ : S31)⟩ : S38)] : List (S38)) : List (S38))).bind fun y175 => ((judge_Over.f k y175 (([(⟨(⟨#[98]⟩ : ByteArray), (⟨0, 0, (⟨#[]⟩ : ByteArray)⟩ : S31)⟩ : S38), (⟨(⟨#[99]⟩ : ByteArray), (⟨1, 4607182418800017408, (⟨#[]⟩ : ByteArray)⟩ : S31)⟩ : S38)] : List (S38)))).bind fun t181 => ((judge_Val.f k y175 (⟨#[98]⟩ : ByteArray)).bind fun bt184 => ((judge_Sorted.f k y175).bind fun t189 => (if t189 = true then (if 1 < (y175.length : Int) then (if 0 < (y175.length : Int) then ((judge_Sorted.f k (([(⟨(rd_T38 y175 1).f0, (⟨(rd_T38 y175 1).f1.f0, (rd_T38 y175 1).f1.f1, (rd_T38 y175 1).f1.f2⟩ : S31)⟩ : S38), (⟨(rd_T38 y175 0).f0, (⟨(rd_T38 y175 0).f1.f0, (rd_T38 y175 0).f1.f1, (rd_T38 y175 0).f1.f2⟩ : S31)⟩ : S38)] : List (S38)))).bind fun t195 => (if t195 = true then (none) else ((judge_Same.f k y175 y175).bind fun t196 => (if t196 = true then ((judge_Same.f k y175 t181).bind fun t197 => (if t197 = true then (none) else (if (t181.length : Int) = 2 then (if 1 < (t181.length : Int) then (if ((rd_T38 t181 1).f0).toList = ([99] : List UInt8) then ((judge_Part.f k y175 (⟨#[98]⟩ : ByteArray) (⟨#[]⟩ : ByteArray)).bind fun t199 => (if (t199.length : Int) = 1 then (if bt184.2.2.2 = true then (some (FloatKind.f64.format.order bt184.2.1 4607182418800017408 == some .eq)) else (none)) else (none))) else (none)) else (none)) else (none)))) else (none))))) else (none)) else (none)) else (none)))))) = some r := h
 clear h
 obtain ⟨y175, hy175⟩ : ∃ y_ : List (S38), y_ = (([(⟨(⟨#[97]⟩ : ByteArray), (⟨1, 4607182418800017408, (⟨#[]⟩ : ByteArray)⟩ : S31)⟩ : S38), (⟨(⟨#[98]⟩ : ByteArray), (⟨1, 4607182418800017408, (⟨#[]⟩ : ByteArray)⟩ : S31)⟩ : S38)] : List (S38))) := ⟨_, rfl⟩
 replace H : ((judge_Over.f k y175 (([(⟨(⟨#[98]⟩ : ByteArray), (⟨0, 0, (⟨#[]⟩ : ByteArray)⟩ : S31)⟩ : S38), (⟨(⟨#[99]⟩ : ByteArray), (⟨1, 4607182418800017408, (⟨#[]⟩ : ByteArray)⟩ : S31)⟩ : S38)] : List (S38)))).bind fun t181 => ((judge_Val.f k y175 (⟨#[98]⟩ : ByteArray)).bind fun bt184 => ((judge_Sorted.f k y175).bind fun t189 => (if t189 = true then (if 1 < (y175.length : Int) then (if 0 < (y175.length : Int) then ((judge_Sorted.f k (([(⟨(rd_T38 y175 1).f0, (⟨(rd_T38 y175 1).f1.f0, (rd_T38 y175 1).f1.f1, (rd_T38 y175 1).f1.f2⟩ : S31)⟩ : S38), (⟨(rd_T38 y175 0).f0, (⟨(rd_T38 y175 0).f1.f0, (rd_T38 y175 0).f1.f1, (rd_T38 y175 0).f1.f2⟩ : S31)⟩ : S38)] : List (S38)))).bind fun t195 => (if t195 = true then (none) else ((judge_Same.f k y175 y175).bind fun t196 => (if t196 = true then ((judge_Same.f k y175 t181).bind fun t197 => (if t197 = true then (none) else (if (t181.length : Int) = 2 then (if 1 < (t181.length : Int) then (if ((rd_T38 t181 1).f0).toList = ([99] : List UInt8) then ((judge_Part.f k y175 (⟨#[98]⟩ : ByteArray) (⟨#[]⟩ : ByteArray)).bind fun t199 => (if (t199.length : Int) = 1 then (if bt184.2.2.2 = true then (some (FloatKind.f64.format.order bt184.2.1 4607182418800017408 == some .eq)) else (none)) else (none))) else (none)) else (none)) else (none)))) else (none))))) else (none)) else (none)) else (none))))) = some r := by first | (rw [hy175]; with_reducible exact H) | (have H2_ := (Option.bind_some _ _).symm.trans H; rw [hy175]; with_reducible exact H2_) | (have H2_ := (Option.bind_some _ _).symm.trans H; with_reducible exact H2_) | with_reducible exact H | (rw [hy175]; exact H) | exact H
 have Ny175 := Aside0.mk hy175
 clear hy175
 obtain ⟨y178, hy178⟩ : ∃ y_ : List (S38), y_ = (([(⟨(⟨#[98]⟩ : ByteArray), (⟨0, 0, (⟨#[]⟩ : ByteArray)⟩ : S31)⟩ : S38), (⟨(⟨#[99]⟩ : ByteArray), (⟨1, 4607182418800017408, (⟨#[]⟩ : ByteArray)⟩ : S31)⟩ : S38)] : List (S38))) := ⟨_, rfl⟩
 replace H : ((judge_Over.f k y175 y178).bind fun t181 => ((judge_Val.f k y175 (⟨#[98]⟩ : ByteArray)).bind fun bt184 => ((judge_Sorted.f k y175).bind fun t189 => (if t189 = true then (if 1 < (y175.length : Int) then (if 0 < (y175.length : Int) then ((judge_Sorted.f k (([(⟨(rd_T38 y175 1).f0, (⟨(rd_T38 y175 1).f1.f0, (rd_T38 y175 1).f1.f1, (rd_T38 y175 1).f1.f2⟩ : S31)⟩ : S38), (⟨(rd_T38 y175 0).f0, (⟨(rd_T38 y175 0).f1.f0, (rd_T38 y175 0).f1.f1, (rd_T38 y175 0).f1.f2⟩ : S31)⟩ : S38)] : List (S38)))).bind fun t195 => (if t195 = true then (none) else ((judge_Same.f k y175 y175).bind fun t196 => (if t196 = true then ((judge_Same.f k y175 t181).bind fun t197 => (if t197 = true then (none) else (if (t181.length : Int) = 2 then (if 1 < (t181.length : Int) then (if ((rd_T38 t181 1).f0).toList = ([99] : List UInt8) then ((judge_Part.f k y175 (⟨#[98]⟩ : ByteArray) (⟨#[]⟩ : ByteArray)).bind fun t199 => (if (t199.length : Int) = 1 then (if bt184.2.2.2 = true then (some (FloatKind.f64.format.order bt184.2.1 4607182418800017408 == some .eq)) else (none)) else (none))) else (none)) else (none)) else (none)))) else (none))))) else (none)) else (none)) else (none))))) = some r := by first | (rw [hy178]; with_reducible exact H) | (have H2_ := (Option.bind_some _ _).symm.trans H; rw [hy178]; with_reducible exact H2_) | (have H2_ := (Option.bind_some _ _).symm.trans H; with_reducible exact H2_) | with_reducible exact H | (rw [hy178]; exact H) | exact H
 have Ny178 := Aside0.mk hy178
 clear hy178
 replace H := Option.bind_eq_some_iff.mp H
 obtain ⟨t181, A10, H⟩ := H
 replace H : ((judge_Val.f k y175 (⟨#[98]⟩ : ByteArray)).bind fun bt184 => ((judge_Sorted.f k y175).bind fun t189 => (if t189 = true then (if 1 < (y175.length : Int) then (if 0 < (y175.length : Int) then ((judge_Sorted.f k (([(⟨(rd_T38 y175 1).f0, (⟨(rd_T38 y175 1).f1.f0, (rd_T38 y175 1).f1.f1, (rd_T38 y175 1).f1.f2⟩ : S31)⟩ : S38), (⟨(rd_T38 y175 0).f0, (⟨(rd_T38 y175 0).f1.f0, (rd_T38 y175 0).f1.f1, (rd_T38 y175 0).f1.f2⟩ : S31)⟩ : S38)] : List (S38)))).bind fun t195 => (if t195 = true then (none) else ((judge_Same.f k y175 y175).bind fun t196 => (if t196 = true then ((judge_Same.f k y175 t181).bind fun t197 => (if t197 = true then (none) else (if (t181.length : Int) = 2 then (if 1 < (t181.length : Int) then (if ((rd_T38 t181 1).f0).toList = ([99] : List UInt8) then ((judge_Part.f k y175 (⟨#[98]⟩ : ByteArray) (⟨#[]⟩ : ByteArray)).bind fun t199 => (if (t199.length : Int) = 1 then (if bt184.2.2.2 = true then (some (FloatKind.f64.format.order bt184.2.1 4607182418800017408 == some .eq)) else (none)) else (none))) else (none)) else (none)) else (none)))) else (none))))) else (none)) else (none)) else (none)))) = some r := H
 have A1 := Aside0.mk A10
 clear A10
 replace H := Option.bind_eq_some_iff.mp H
 obtain ⟨⟨t184, t185, t186, t187⟩, A20, H⟩ := H
 replace H : ((judge_Sorted.f k y175).bind fun t189 => (if t189 = true then (if 1 < (y175.length : Int) then (if 0 < (y175.length : Int) then ((judge_Sorted.f k (([(⟨(rd_T38 y175 1).f0, (⟨(rd_T38 y175 1).f1.f0, (rd_T38 y175 1).f1.f1, (rd_T38 y175 1).f1.f2⟩ : S31)⟩ : S38), (⟨(rd_T38 y175 0).f0, (⟨(rd_T38 y175 0).f1.f0, (rd_T38 y175 0).f1.f1, (rd_T38 y175 0).f1.f2⟩ : S31)⟩ : S38)] : List (S38)))).bind fun t195 => (if t195 = true then (none) else ((judge_Same.f k y175 y175).bind fun t196 => (if t196 = true then ((judge_Same.f k y175 t181).bind fun t197 => (if t197 = true then (none) else (if (t181.length : Int) = 2 then (if 1 < (t181.length : Int) then (if ((rd_T38 t181 1).f0).toList = ([99] : List UInt8) then ((judge_Part.f k y175 (⟨#[98]⟩ : ByteArray) (⟨#[]⟩ : ByteArray)).bind fun t199 => (if (t199.length : Int) = 1 then (if t187 = true then (some (FloatKind.f64.format.order t185 4607182418800017408 == some .eq)) else (none)) else (none))) else (none)) else (none)) else (none)))) else (none))))) else (none)) else (none)) else (none))) = some r := H
 have A2 := Aside0.mk A20
 clear A20
 replace H := Option.bind_eq_some_iff.mp H
 obtain ⟨t189, A30, H⟩ := H
 replace H : (if t189 = true then (if 1 < (y175.length : Int) then (if 0 < (y175.length : Int) then ((judge_Sorted.f k (([(⟨(rd_T38 y175 1).f0, (⟨(rd_T38 y175 1).f1.f0, (rd_T38 y175 1).f1.f1, (rd_T38 y175 1).f1.f2⟩ : S31)⟩ : S38), (⟨(rd_T38 y175 0).f0, (⟨(rd_T38 y175 0).f1.f0, (rd_T38 y175 0).f1.f1, (rd_T38 y175 0).f1.f2⟩ : S31)⟩ : S38)] : List (S38)))).bind fun t195 => (if t195 = true then (none) else ((judge_Same.f k y175 y175).bind fun t196 => (if t196 = true then ((judge_Same.f k y175 t181).bind fun t197 => (if t197 = true then (none) else (if (t181.length : Int) = 2 then (if 1 < (t181.length : Int) then (if ((rd_T38 t181 1).f0).toList = ([99] : List UInt8) then ((judge_Part.f k y175 (⟨#[98]⟩ : ByteArray) (⟨#[]⟩ : ByteArray)).bind fun t199 => (if (t199.length : Int) = 1 then (if t187 = true then (some (FloatKind.f64.format.order t185 4607182418800017408 == some .eq)) else (none)) else (none))) else (none)) else (none)) else (none)))) else (none))))) else (none)) else (none)) else (none)) = some r := H
 have A3 := Aside0.mk A30
 clear A30
 by_cases c4 : t189 = true
 ·subst c4
  have H1 : (if 1 < (y175.length : Int) then (if 0 < (y175.length : Int) then ((judge_Sorted.f k (([(⟨(rd_T38 y175 1).f0, (⟨(rd_T38 y175 1).f1.f0, (rd_T38 y175 1).f1.f1, (rd_T38 y175 1).f1.f2⟩ : S31)⟩ : S38), (⟨(rd_T38 y175 0).f0, (⟨(rd_T38 y175 0).f1.f0, (rd_T38 y175 0).f1.f1, (rd_T38 y175 0).f1.f2⟩ : S31)⟩ : S38)] : List (S38)))).bind fun t195 => (if t195 = true then (none) else ((judge_Same.f k y175 y175).bind fun t196 => (if t196 = true then ((judge_Same.f k y175 t181).bind fun t197 => (if t197 = true then (none) else (if (t181.length : Int) = 2 then (if 1 < (t181.length : Int) then (if ((rd_T38 t181 1).f0).toList = ([99] : List UInt8) then ((judge_Part.f k y175 (⟨#[98]⟩ : ByteArray) (⟨#[]⟩ : ByteArray)).bind fun t199 => (if (t199.length : Int) = 1 then (if t187 = true then (some (FloatKind.f64.format.order t185 4607182418800017408 == some .eq)) else (none)) else (none))) else (none)) else (none)) else (none)))) else (none))))) else (none)) else (none)) = some r := by rw [if_pos rfl] at H; exact H
  clear H
  have H := H1
  clear H1
  by_cases c5 : 1 < (y175.length : Int)
  ·rw [if_pos c5] at H
   have c5b0 : decide (1 < (y175.length : Int)) = true := decide_eq_true c5
   have c5b1 : decide (1 < y175.length) = true := decide_eq_true (by omega)
   clear c5
   by_cases c6 : 0 < (y175.length : Int)
   ·rw [if_pos c6] at H
    have c6b0 : decide (0 < (y175.length : Int)) = true := decide_eq_true c6
    have c6b1 : decide (0 < y175.length) = true := decide_eq_true (by omega)
    clear c6
    obtain ⟨y192, hy192⟩ : ∃ y_ : List (S38), y_ = (([(⟨(rd_T38 y175 1).f0, (⟨(rd_T38 y175 1).f1.f0, (rd_T38 y175 1).f1.f1, (rd_T38 y175 1).f1.f2⟩ : S31)⟩ : S38), (⟨(rd_T38 y175 0).f0, (⟨(rd_T38 y175 0).f1.f0, (rd_T38 y175 0).f1.f1, (rd_T38 y175 0).f1.f2⟩ : S31)⟩ : S38)] : List (S38))) := ⟨_, rfl⟩
    replace H : ((judge_Sorted.f k y192).bind fun t195 => (if t195 = true then (none) else ((judge_Same.f k y175 y175).bind fun t196 => (if t196 = true then ((judge_Same.f k y175 t181).bind fun t197 => (if t197 = true then (none) else (if (t181.length : Int) = 2 then (if 1 < (t181.length : Int) then (if ((rd_T38 t181 1).f0).toList = ([99] : List UInt8) then ((judge_Part.f k y175 (⟨#[98]⟩ : ByteArray) (⟨#[]⟩ : ByteArray)).bind fun t199 => (if (t199.length : Int) = 1 then (if t187 = true then (some (FloatKind.f64.format.order t185 4607182418800017408 == some .eq)) else (none)) else (none))) else (none)) else (none)) else (none)))) else (none))))) = some r := by first | (rw [hy192]; with_reducible exact H) | (have H2_ := (Option.bind_some _ _).symm.trans H; rw [hy192]; with_reducible exact H2_) | (have H2_ := (Option.bind_some _ _).symm.trans H; with_reducible exact H2_) | with_reducible exact H | (rw [hy192]; exact H) | exact H
    have Ny192 := Aside0.mk hy192
    clear hy192
    replace H := Option.bind_eq_some_iff.mp H
    obtain ⟨t195, A70, H⟩ := H
    replace H : (if t195 = true then (none) else ((judge_Same.f k y175 y175).bind fun t196 => (if t196 = true then ((judge_Same.f k y175 t181).bind fun t197 => (if t197 = true then (none) else (if (t181.length : Int) = 2 then (if 1 < (t181.length : Int) then (if ((rd_T38 t181 1).f0).toList = ([99] : List UInt8) then ((judge_Part.f k y175 (⟨#[98]⟩ : ByteArray) (⟨#[]⟩ : ByteArray)).bind fun t199 => (if (t199.length : Int) = 1 then (if t187 = true then (some (FloatKind.f64.format.order t185 4607182418800017408 == some .eq)) else (none)) else (none))) else (none)) else (none)) else (none)))) else (none)))) = some r := H
    have A7 := Aside0.mk A70
    clear A70
    by_cases c8 : t195 = true
    ·subst c8
     have H1 : (none) = some r := by rw [if_pos rfl] at H; exact H
     clear H
     have H := H1
     clear H1
     exact absurd H (by simp)
    ·replace c8 := Bool.eq_false_iff.mpr c8
     subst c8
     have H1 : ((judge_Same.f k y175 y175).bind fun t196 => (if t196 = true then ((judge_Same.f k y175 t181).bind fun t197 => (if t197 = true then (none) else (if (t181.length : Int) = 2 then (if 1 < (t181.length : Int) then (if ((rd_T38 t181 1).f0).toList = ([99] : List UInt8) then ((judge_Part.f k y175 (⟨#[98]⟩ : ByteArray) (⟨#[]⟩ : ByteArray)).bind fun t199 => (if (t199.length : Int) = 1 then (if t187 = true then (some (FloatKind.f64.format.order t185 4607182418800017408 == some .eq)) else (none)) else (none))) else (none)) else (none)) else (none)))) else (none))) = some r := by rw [if_neg (show ¬ (false = true) by decide)] at H; exact H
     clear H
     have H := H1
     clear H1
     replace H := Option.bind_eq_some_iff.mp H
     obtain ⟨t196, A90, H⟩ := H
     replace H : (if t196 = true then ((judge_Same.f k y175 t181).bind fun t197 => (if t197 = true then (none) else (if (t181.length : Int) = 2 then (if 1 < (t181.length : Int) then (if ((rd_T38 t181 1).f0).toList = ([99] : List UInt8) then ((judge_Part.f k y175 (⟨#[98]⟩ : ByteArray) (⟨#[]⟩ : ByteArray)).bind fun t199 => (if (t199.length : Int) = 1 then (if t187 = true then (some (FloatKind.f64.format.order t185 4607182418800017408 == some .eq)) else (none)) else (none))) else (none)) else (none)) else (none)))) else (none)) = some r := H
     have A9 := Aside0.mk A90
     clear A90
     by_cases c10 : t196 = true
     ·subst c10
      have H1 : ((judge_Same.f k y175 t181).bind fun t197 => (if t197 = true then (none) else (if (t181.length : Int) = 2 then (if 1 < (t181.length : Int) then (if ((rd_T38 t181 1).f0).toList = ([99] : List UInt8) then ((judge_Part.f k y175 (⟨#[98]⟩ : ByteArray) (⟨#[]⟩ : ByteArray)).bind fun t199 => (if (t199.length : Int) = 1 then (if t187 = true then (some (FloatKind.f64.format.order t185 4607182418800017408 == some .eq)) else (none)) else (none))) else (none)) else (none)) else (none)))) = some r := by rw [if_pos rfl] at H; exact H
      clear H
      have H := H1
      clear H1
      replace H := Option.bind_eq_some_iff.mp H
      obtain ⟨t197, A110, H⟩ := H
      replace H : (if t197 = true then (none) else (if (t181.length : Int) = 2 then (if 1 < (t181.length : Int) then (if ((rd_T38 t181 1).f0).toList = ([99] : List UInt8) then ((judge_Part.f k y175 (⟨#[98]⟩ : ByteArray) (⟨#[]⟩ : ByteArray)).bind fun t199 => (if (t199.length : Int) = 1 then (if t187 = true then (some (FloatKind.f64.format.order t185 4607182418800017408 == some .eq)) else (none)) else (none))) else (none)) else (none)) else (none))) = some r := H
      have A11 := Aside0.mk A110
      clear A110
      by_cases c12 : t197 = true
      ·subst c12
       have H1 : (none) = some r := by rw [if_pos rfl] at H; exact H
       clear H
       have H := H1
       clear H1
       exact absurd H (by simp)
      ·replace c12 := Bool.eq_false_iff.mpr c12
       subst c12
       have H1 : (if (t181.length : Int) = 2 then (if 1 < (t181.length : Int) then (if ((rd_T38 t181 1).f0).toList = ([99] : List UInt8) then ((judge_Part.f k y175 (⟨#[98]⟩ : ByteArray) (⟨#[]⟩ : ByteArray)).bind fun t199 => (if (t199.length : Int) = 1 then (if t187 = true then (some (FloatKind.f64.format.order t185 4607182418800017408 == some .eq)) else (none)) else (none))) else (none)) else (none)) else (none)) = some r := by rw [if_neg (show ¬ (false = true) by decide)] at H; exact H
       clear H
       have H := H1
       clear H1
       by_cases c13 : (t181.length : Int) = 2
       ·rw [if_pos c13] at H
        have c13b0 : ((t181.length : Int) == 2) = true := beq_iff_eq.mpr c13
        have c13b1 : ((t181.length : Int) != 2) = false := bne_eq_false_iff_eq.mpr c13
        clear c13
        by_cases c14 : 1 < (t181.length : Int)
        ·rw [if_pos c14] at H
         have c14b0 : decide (1 < (t181.length : Int)) = true := decide_eq_true c14
         have c14b1 : decide (1 < t181.length) = true := decide_eq_true (by omega)
         clear c14
         by_cases c15 : ((rd_T38 t181 1).f0).toList = ([99] : List UInt8)
         ·rw [if_pos c15] at H
          have c15b0 : (((rd_T38 t181 1).f0).toList == ([99] : List UInt8)) = true := beq_iff_eq.mpr c15
          have c15b1 : (((rd_T38 t181 1).f0).toList != ([99] : List UInt8)) = false := bne_eq_false_iff_eq.mpr c15
          clear c15
          replace H := Option.bind_eq_some_iff.mp H
          obtain ⟨t199, A160, H⟩ := H
          replace H : (if (t199.length : Int) = 1 then (if t187 = true then (some (FloatKind.f64.format.order t185 4607182418800017408 == some .eq)) else (none)) else (none)) = some r := H
          have A16 := Aside0.mk A160
          clear A160
          by_cases c17 : (t199.length : Int) = 1
          ·rw [if_pos c17] at H
           have c17b0 : ((t199.length : Int) == 1) = true := beq_iff_eq.mpr c17
           have c17b1 : ((t199.length : Int) != 1) = false := bne_eq_false_iff_eq.mpr c17
           clear c17
           by_cases c18 : t187 = true
           ·subst c18
            have H1 : (some (FloatKind.f64.format.order t185 4607182418800017408 == some .eq)) = some r := by rw [if_pos rfl] at H; exact H
            clear H
            have H := H1
            clear H1
            obtain rfl := Option.some.inj H
            go_enter Try.func7, Try.ntmps7
            try go_wp2_with (first | ((with_reducible refine gate_dst (N := 1) rfl ?_); (try (refine gate_guard (by rfl) ?_; dsimp only)); refine box_event ?hg (N := 1) ?hd (cs := #[.int .i64 0, .float .f64 0, .string (⟨#[]⟩ : ByteArray)]) (t := 31) ?hr ?_; (case hd => rfl); (case hg => rfl); (case hr => first | (go_simp; done) | (go_simp; rfl)); intro gb174 hg w19 hbox hb; have BK174 := Aside0.mk (hbox); have GW174 := bZ HB hg; have GE174 := bZ HB hg; replace HB := bW HB hb; clear hb hbox hg; obtain ⟨hcz20_0, hcz20_1, hcz20_2, hfz20_0, hfz20_1, hfz20_2⟩ := bf3 (w := w19) BK174) | ((with_reducible refine gate_dst (N := 11) rfl ?_); (try (refine gate_guard (by rfl) ?_; dsimp only)); refine Kd.R_lit k38 _ 38 ?hg (N := 11) ?hd (xs := ([(⟨(⟨#[97]⟩ : ByteArray), (⟨1, 4607182418800017408, (⟨#[]⟩ : ByteArray)⟩ : S31)⟩ : S38), (⟨(⟨#[98]⟩ : ByteArray), (⟨1, 4607182418800017408, (⟨#[]⟩ : ByteArray)⟩ : S31)⟩ : S38)] : List (S38))) (inner := [.string (⟨#[97]⟩ : ByteArray), .int .i64 1, .float .f64 4607182418800017408, .string (⟨#[]⟩ : ByteArray), .string (⟨#[98]⟩ : ByteArray), .int .i64 1, .float .f64 4607182418800017408, .string (⟨#[]⟩ : ByteArray)]) (ok := fun _ => True) (okp := fun _ => True) ?hr ?hp (fun _ hk => hk) trivial (Below.refl _ _) (Nat.le_refl _) (by simp) ?_; (case hd => rfl); (case hg => rfl); (case hr => first | (go_simp; done) | (go_simp; rfl)); (case hp => exact (Reps.c4 (show Kd.M k38 _ _ _ (⟨(⟨#[97]⟩ : ByteArray), (⟨1, 4607182418800017408, (⟨#[]⟩ : ByteArray)⟩ : S31)⟩ : S38) [.string (⟨#[97]⟩ : ByteArray), .int .i64 1, .float .f64 4607182418800017408, .string (⟨#[]⟩ : ByteArray)] from (k38_mkM _ _ _ (⟨(⟨#[97]⟩ : ByteArray), (⟨1, 4607182418800017408, (⟨#[]⟩ : ByteArray)⟩ : S31)⟩ : S38) )) (Reps.c4 (show Kd.M k38 _ _ _ (⟨(⟨#[98]⟩ : ByteArray), (⟨1, 4607182418800017408, (⟨#[]⟩ : ByteArray)⟩ : S31)⟩ : S38) [.string (⟨#[98]⟩ : ByteArray), .int .i64 1, .float .f64 4607182418800017408, .string (⟨#[]⟩ : ByteArray)] from (k38_mkM _ _ _ (⟨(⟨#[98]⟩ : ByteArray), (⟨1, 4607182418800017408, (⟨#[]⟩ : ByteArray)⟩ : S31)⟩ : S38) )) (Reps.none _ _)))); intro v176 w21 ho22 hb hg_ hnew_; clear hg_ hnew_; (first | rw [← Ny175.out] at ho22 | (simp only [Int.reduceToNat] at ho22; rw [← Ny175.out] at ho22)); have HO177 := Aside0.mk (Kd.R_lower ho22 (below_size (bC HB))); replace BK174 := Aside0.mk (blk_below (g := gb174) (o := .cells #[.int .i64 1, .float .f64 4607182418800017408, .string (⟨#[]⟩ : ByteArray)] 31 (0, 0)) (bR BK174) hb); replace HB := bW HB hb; clear hb ho22; obtain ⟨hcz23_0, hcz23_1, hcz23_2, hfz23_0, hfz23_1, hfz23_2⟩ := bf3 (w := w21) BK174) | ((with_reducible refine gate_dst (N := 16) rfl ?_); (try (refine gate_guard (by rfl) ?_; dsimp only)); refine Kd.R_lit k38 _ 38 ?hg (N := 16) ?hd (xs := ([(⟨(⟨#[98]⟩ : ByteArray), (⟨0, 0, (⟨#[]⟩ : ByteArray)⟩ : S31)⟩ : S38), (⟨(⟨#[99]⟩ : ByteArray), (⟨1, 4607182418800017408, (⟨#[]⟩ : ByteArray)⟩ : S31)⟩ : S38)] : List (S38))) (inner := [.string (⟨#[98]⟩ : ByteArray), .int .i64 0, .float .f64 0, .string (⟨#[]⟩ : ByteArray), .string (⟨#[99]⟩ : ByteArray), .int .i64 1, .float .f64 4607182418800017408, .string (⟨#[]⟩ : ByteArray)]) (ok := fun _ => True) (okp := fun _ => True) ?hr ?hp (fun _ hk => hk) trivial (Below.refl _ _) (Nat.le_refl _) (by simp) ?_; (case hd => rfl); (case hg => rfl); (case hr => first | (go_simp; done) | (go_simp; rfl)); (case hp => exact (Reps.c4 (show Kd.M k38 _ _ _ (⟨(⟨#[98]⟩ : ByteArray), (⟨0, 0, (⟨#[]⟩ : ByteArray)⟩ : S31)⟩ : S38) [.string (⟨#[98]⟩ : ByteArray), .int .i64 0, .float .f64 0, .string (⟨#[]⟩ : ByteArray)] from (k38_mkM _ _ _ (⟨(⟨#[98]⟩ : ByteArray), (⟨0, 0, (⟨#[]⟩ : ByteArray)⟩ : S31)⟩ : S38) )) (Reps.c4 (show Kd.M k38 _ _ _ (⟨(⟨#[99]⟩ : ByteArray), (⟨1, 4607182418800017408, (⟨#[]⟩ : ByteArray)⟩ : S31)⟩ : S38) [.string (⟨#[99]⟩ : ByteArray), .int .i64 1, .float .f64 4607182418800017408, .string (⟨#[]⟩ : ByteArray)] from (k38_mkM _ _ _ (⟨(⟨#[99]⟩ : ByteArray), (⟨1, 4607182418800017408, (⟨#[]⟩ : ByteArray)⟩ : S31)⟩ : S38) )) (Reps.none _ _)))); intro v179 w24 ho25 hb hg_ hnew_; clear hg_ hnew_; (first | rw [← Ny178.out] at ho25 | (simp only [Int.reduceToNat] at ho25; rw [← Ny178.out] at ho25)); have HO180 := Aside0.mk (Kd.R_lower (Kd.R_new' ho25 (Kd.R_lt (by (with_reducible repeat (first | apply Kd.R_alloc | apply Kd.R_drewN | apply Kd.R_drew)); exact HO177.out))) (below_size (bC HB))); replace HO177 := Aside0.mk (Kd.R_elder' (by (with_reducible repeat (first | apply Kd.R_alloc | apply Kd.R_drewN | apply Kd.R_drew)); exact HO177.out) (Kd.R_base ho25) hb); replace BK174 := bB BK174 hb; replace HB := bW HB hb; clear hb ho25; obtain ⟨Ao26, co26, eo26⟩ := Kd.R_slice HO177.out; subst eo26; obtain ⟨Ao27, co27, eo27⟩ := Kd.R_slice HO180.out; subst eo27) | ((with_reducible refine gate_callee (f := 19) rfl ?_); refine goesL_ (some 17) rfl rfl Try.func19 (by kernel_rfl) rfl #[.slice Ao26 y175.length co26, .slice Ao27 y178.length co27] rfl (by (try simp only [List.map_toArray, List.map_cons, List.map_nil]); first | done | rfl | (simp only [List.length_drop, List.length_take]; rfl)) ?_; (with_reducible refine (judge_Over.calls k _ _ y175 _ _ y178 t181 _ ?side1 ?side2 ?side3 ?side4 A1.out).mono ?_); (case side1 => repeat (first | exact (Kd.R_reads' HO177.out).2.2 | (with_reducible refine Kd.C_alloc ?_ _) | (with_reducible refine Kd.C_drewN ?_ _) | (with_reducible refine Kd.C_drew ?_))); (case side2 => exact (Kd.R_reads' HO177.out).2.1); (case side3 => repeat (first | exact (Kd.R_reads' HO180.out).2.2 | (with_reducible refine Kd.C_alloc ?_ _) | (with_reducible refine Kd.C_drewN ?_ _) | (with_reducible refine Kd.C_drew ?_))); (case side4 => exact (Kd.R_reads' HO180.out).2.1); rintro e w28 ⟨v182, rfl, ho0, hb⟩; refine ⟨_, rfl, ?_⟩; have HO183 := Aside0.mk (Kd.R_lower (Kd.R_new' (Kd.R_new' ho0 (Kd.R_lt (by (with_reducible repeat (first | apply Kd.R_alloc | apply Kd.R_drewN | apply Kd.R_drew)); exact HO177.out))) (Kd.R_lt (by (with_reducible repeat (first | apply Kd.R_alloc | apply Kd.R_drewN | apply Kd.R_drew)); exact HO180.out))) (below_size (bC HB))); replace HO177 := Aside0.mk (Kd.R_elder' (by (with_reducible repeat (first | apply Kd.R_alloc | apply Kd.R_drewN | apply Kd.R_drew)); exact HO177.out) (Kd.R_base ho0) hb); replace HO180 := Aside0.mk (Kd.R_elder' (by (with_reducible repeat (first | apply Kd.R_alloc | apply Kd.R_drewN | apply Kd.R_drew)); exact HO180.out) (Kd.R_base ho0) hb); replace BK174 := bB BK174 hb; replace HB := bW HB hb; (try clear hb); (try clear hb2); (try clear hk); (try clear hi); (try clear ho0)) | ((with_reducible refine gate_callee (f := 16) rfl ?_); refine goesL_ (some 20) rfl rfl Try.func16 (by kernel_rfl) rfl #[.slice Ao26 y175.length co26, .string (⟨#[98]⟩ : ByteArray)] rfl (by (try simp only [List.map_toArray, List.map_cons, List.map_nil]); first | done | rfl | (simp only [List.length_drop, List.length_take]; rfl)) ?_; (with_reducible refine (judge_Val.calls k _ _ y175 (⟨#[98]⟩ : ByteArray) t184 t185 t186 true _ ?side1 ?side2 A2.out).mono ?_); (case side1 => repeat (first | exact (Kd.R_reads' HO177.out).2.2 | (with_reducible refine Kd.C_alloc ?_ _) | (with_reducible refine Kd.C_drewN ?_ _) | (with_reducible refine Kd.C_drew ?_))); (case side2 => exact (Kd.R_reads' HO177.out).2.1); rintro e w29 ⟨rfl, hb⟩; refine ⟨_, rfl, ?_⟩; replace HO177 := Aside0.mk (Kd.R_below (by (with_reducible repeat (first | apply Kd.R_alloc | apply Kd.R_drewN | apply Kd.R_drew)); exact HO177.out) hb); replace HO180 := Aside0.mk (Kd.R_below (by (with_reducible repeat (first | apply Kd.R_alloc | apply Kd.R_drewN | apply Kd.R_drew)); exact HO180.out) hb); replace HO183 := Aside0.mk (Kd.R_below (by (with_reducible repeat (first | apply Kd.R_alloc | apply Kd.R_drewN | apply Kd.R_drew)); exact HO183.out) hb); replace BK174 := bB BK174 hb; replace HB := bW HB hb; (try clear hb); (try clear hb2); (try clear hk); (try clear hi)) | ((with_reducible refine gate_dst (N := 4) rfl ?_); (try (refine gate_guard (by rfl) ?_; dsimp only)); refine box_event ?hg (N := 4) ?hd (cs := #[.int .i64 0, .float .f64 0, .string (⟨#[]⟩ : ByteArray)]) (t := 31) ?hr ?_; (case hd => rfl); (case hg => rfl); (case hr => first | (go_simp; done) | (go_simp; rfl)); intro gb188 hg w30 hbox hb; have BK188 := Aside0.mk (hbox); have GW188 := bZ HB hg; have GE188 := bZ HB hg; have NB174_188 := bL BK174 hg; have NB188_174 := bG BK174 hg; replace HO177 := Aside0.mk (Kd.R_below (by (with_reducible repeat (first | apply Kd.R_alloc | apply Kd.R_drewN | apply Kd.R_drew)); exact HO177.out) hb); replace HO180 := Aside0.mk (Kd.R_below (by (with_reducible repeat (first | apply Kd.R_alloc | apply Kd.R_drewN | apply Kd.R_drew)); exact HO180.out) hb); replace HO183 := Aside0.mk (Kd.R_below (by (with_reducible repeat (first | apply Kd.R_alloc | apply Kd.R_drewN | apply Kd.R_drew)); exact HO183.out) hb); replace BK174 := bB BK174 hb; replace HB := bW HB hb; clear hb hbox hg; have hnb31 := NB188_174.out; have hnc31 := NB174_188.out; obtain ⟨hcz32_0, hcz32_1, hcz32_2, hfz32_0, hfz32_1, hfz32_2⟩ := bf3 (w := w30) BK188))
            have n0_ : Aside0 (Kd.R k38 38 (((w30.setCell ⟨gb188, 0, none⟩ (.int .i64 t184)).setCell ⟨gb188, 1, none⟩ (.float .f64 t185)).setCell ⟨gb188, 2, none⟩ (.string t186)) w.heap.size (fun k_ => some k_ ≠ (.slice Ao27 y178.length co27 : Value).ownBlock ∧ some k_ ≠ (v182 : Value).ownBlock) (.slice Ao26 y175.length co26) y175) := ⟨by (with_reducible repeat (first | apply Kd.R_alloc | apply Kd.R_drewN | apply Kd.R_drew)); exact Kd.R_mono (Kd.R_far (p := ⟨gb188, 2, none⟩) (Kd.R_far (p := ⟨gb188, 1, none⟩) (Kd.R_far (p := ⟨gb188, 0, none⟩) (Kd.R_types HO177.out BK188.out (by decide)) (fun _ hk => hk.2) (.int .i64 t184)) (fun _ hk => hk.2) (.float .f64 t185)) (fun _ hk => hk.2) (.string t186)) (fun _ hk => ⟨hk.1.1.2, hk.1.2⟩)⟩
            have n1_ : Aside0 (Kd.R k38 38 (((w30.setCell ⟨gb188, 0, none⟩ (.int .i64 t184)).setCell ⟨gb188, 1, none⟩ (.float .f64 t185)).setCell ⟨gb188, 2, none⟩ (.string t186)) w.heap.size (fun k_ => some k_ ≠ (.slice Ao26 y175.length co26 : Value).ownBlock ∧ some k_ ≠ (v182 : Value).ownBlock) (.slice Ao27 y178.length co27) y178) := ⟨by (with_reducible repeat (first | apply Kd.R_alloc | apply Kd.R_drewN | apply Kd.R_drew)); exact Kd.R_mono (Kd.R_far (p := ⟨gb188, 2, none⟩) (Kd.R_far (p := ⟨gb188, 1, none⟩) (Kd.R_far (p := ⟨gb188, 0, none⟩) (Kd.R_types HO180.out BK188.out (by decide)) (fun _ hk => hk.2) (.int .i64 t184)) (fun _ hk => hk.2) (.float .f64 t185)) (fun _ hk => hk.2) (.string t186)) (fun _ hk => ⟨hk.1.1.2, hk.1.2⟩)⟩
            have n2_ : Aside0 (Kd.R k38 38 (((w30.setCell ⟨gb188, 0, none⟩ (.int .i64 t184)).setCell ⟨gb188, 1, none⟩ (.float .f64 t185)).setCell ⟨gb188, 2, none⟩ (.string t186)) w.heap.size (fun k_ => some k_ ≠ (.slice Ao26 y175.length co26 : Value).ownBlock ∧ some k_ ≠ (.slice Ao27 y178.length co27 : Value).ownBlock) v182 t181) := ⟨by (with_reducible repeat (first | apply Kd.R_alloc | apply Kd.R_drewN | apply Kd.R_drew)); exact Kd.R_mono (Kd.R_far (p := ⟨gb188, 2, none⟩) (Kd.R_far (p := ⟨gb188, 1, none⟩) (Kd.R_far (p := ⟨gb188, 0, none⟩) (Kd.R_types HO183.out BK188.out (by decide)) (fun _ hk => hk.2) (.int .i64 t184)) (fun _ hk => hk.2) (.float .f64 t185)) (fun _ hk => hk.2) (.string t186)) (fun _ hk => ⟨hk.1.1.2, hk.1.2⟩)⟩
            have n3_ : Aside0 ((((w30.setCell ⟨gb188, 0, none⟩ (.int .i64 t184)).setCell ⟨gb188, 1, none⟩ (.float .f64 t185)).setCell ⟨gb188, 2, none⟩ (.string t186)).heap[gb174]? = some (.cells #[.int .i64 1, .float .f64 4607182418800017408, .string (⟨#[]⟩ : ByteArray)] 31 (0, 0))) := bS BK174
            have n4_ : Aside0 ((((w30.setCell ⟨gb188, 0, none⟩ (.int .i64 t184)).setCell ⟨gb188, 1, none⟩ (.float .f64 t185)).setCell ⟨gb188, 2, none⟩ (.string t186)).heap[gb188]? = some (.cells #[.int .i64 t184, .float .f64 t185, .string t186] 31 (0, 0))) := ⟨by (with_reducible repeat (first | refine blk_drewN ?_ _ | refine blk_drew ?_ | refine blk_alloc ?_ _)); refine blk_put (cs := #[.int .i64 t184, .float .f64 t185, .string (⟨#[]⟩ : ByteArray)]) ?_ 2 _ rfl; (with_reducible repeat (first | refine blk_drewN ?_ _ | refine blk_drew ?_ | refine blk_alloc ?_ _)); refine blk_put (cs := #[.int .i64 t184, .float .f64 0, .string (⟨#[]⟩ : ByteArray)]) ?_ 1 _ rfl; (with_reducible repeat (first | refine blk_drewN ?_ _ | refine blk_drew ?_ | refine blk_alloc ?_ _)); refine blk_put (cs := #[.int .i64 0, .float .f64 0, .string (⟨#[]⟩ : ByteArray)]) ?_ 0 _ rfl; (with_reducible repeat (first | refine blk_drewN ?_ _ | refine blk_drew ?_ | refine blk_alloc ?_ _)); exact BK188.out⟩
            have n5_ : Aside0 (Below w.heap.size w (((w30.setCell ⟨gb188, 0, none⟩ (.int .i64 t184)).setCell ⟨gb188, 1, none⟩ (.float .f64 t185)).setCell ⟨gb188, 2, none⟩ (.string t186))) := ⟨by repeat (first | (with_reducible first | exact HB.out | apply below_alloc | apply pw_below_drewN | apply below_drew1 | refine below_set ?_ GE174.out | refine below_set ?_ GE188.out) | exact HB.out)⟩
            (try clear HO177)
            (try clear HO180)
            (try clear HO183)
            (try clear BK174)
            (try clear BK188)
            (try clear HB)
            generalize (((w30.setCell ⟨gb188, 0, none⟩ (.int .i64 t184)).setCell ⟨gb188, 1, none⟩ (.float .f64 t185)).setCell ⟨gb188, 2, none⟩ (.string t186)) = w33 at n0_ n1_ n2_ n3_ n4_ n5_ ⊢
            have HO177 := n0_
            have HO180 := n1_
            have HO183 := n2_
            have BK174 := n3_
            have BK188 := n4_
            have HB := n5_
            clear n0_ n1_ n2_ n3_ n4_ n5_
            replace HO177 := Aside0.mk (Kd.R_drew HO177.out)
            replace HO180 := Aside0.mk (Kd.R_drew HO180.out)
            replace HO183 := Aside0.mk (Kd.R_drew HO183.out)
            replace BK174 := Aside0.mk (blk_drew BK174.out)
            replace BK188 := Aside0.mk (blk_drew BK188.out)
            replace HB := Aside0.mk (below_drew1 HB.out)
            have p190 : 0 ≤ (1 : Int) := (by omega)
            have q190 : 1 < (y175.length : Int) := of_decide_eq_true (by first | (with_reducible assumption) | assumption)
            obtain ⟨ad190, e190, hx190_0, hx190_1, hx190_2, hx190_3⟩ := at_T38 (Kd.R_reads' HO177.out).2.2 1 p190 q190
            cases e190
            (try simp only [show (1 : Int).toNat = 1 from rfl, Nat.reduceMul, Nat.reduceEqDiff, Go.Addr.add, ↓reduceIte] at hx190_0)
            (try simp only [show (1 : Int).toNat = 1 from rfl, Nat.reduceMul, Nat.reduceEqDiff, Go.Addr.add, ↓reduceIte] at hx190_1)
            (try simp only [show (1 : Int).toNat = 1 from rfl, Nat.reduceMul, Nat.reduceEqDiff, Go.Addr.add, ↓reduceIte] at hx190_2)
            (try simp only [show (1 : Int).toNat = 1 from rfl, Nat.reduceMul, Nat.reduceEqDiff, Go.Addr.add, ↓reduceIte] at hx190_3)
            have qi190 : (1 < y175.length) = True := eq_true (by omega)
            (try rw [show ((1 : Int)).toNat = 1 from rfl] at hx190_0)
            (try rw [show 1 * 4 = 4 from rfl] at hx190_0)
            (try rw [show ((1 : Int)).toNat = 1 from rfl] at hx190_1)
            (try rw [show 1 * 4 = 4 from rfl] at hx190_1)
            (try rw [show ((1 : Int)).toNat = 1 from rfl] at hx190_2)
            (try rw [show 1 * 4 = 4 from rfl] at hx190_2)
            (try rw [show ((1 : Int)).toNat = 1 from rfl] at hx190_3)
            (try rw [show 1 * 4 = 4 from rfl] at hx190_3)
            replace p190 := eq_true p190
            replace q190 := eq_true q190
            have p191 : 0 ≤ (0 : Int) := (by omega)
            have q191 : 0 < (y175.length : Int) := of_decide_eq_true (by first | (with_reducible assumption) | assumption)
            obtain ⟨ad191, e191, hx191_0, hx191_1, hx191_2, hx191_3⟩ := at_T38 (Kd.R_reads' HO177.out).2.2 0 p191 q191
            obtain rfl : ad190 = ad191 := (by injection e191)
            have qi191 : (0 < y175.length) = True := eq_true (by omega)
            (try rw [show ((0 : Int)).toNat = 0 from rfl] at hx191_0)
            (try rw [show 0 * 4 = 0 from rfl] at hx191_0)
            (try rw [Addr.add_zero'] at hx191_0)
            (try rw [show ((0 : Int)).toNat = 0 from rfl] at hx191_1)
            (try rw [show 0 * 4 = 0 from rfl] at hx191_1)
            (try rw [Addr.add_zero'] at hx191_1)
            (try rw [show ((0 : Int)).toNat = 0 from rfl] at hx191_2)
            (try rw [show 0 * 4 = 0 from rfl] at hx191_2)
            (try rw [Addr.add_zero'] at hx191_2)
            (try rw [show ((0 : Int)).toNat = 0 from rfl] at hx191_3)
            (try rw [show 0 * 4 = 0 from rfl] at hx191_3)
            (try rw [Addr.add_zero'] at hx191_3)
            replace p191 := eq_true p191
            replace q191 := eq_true q191
            have p198 : 0 ≤ (1 : Int) := (by omega)
            have q198 : 1 < (t181.length : Int) := of_decide_eq_true (by first | (with_reducible assumption) | assumption)
            obtain ⟨aoZ198, coZ198, eoZ198⟩ := Kd.R_slice HO183.out
            have hZ198 := HO183.out
            rw [eoZ198] at hZ198
            obtain ⟨ad198, e198, hx198_0, hx198_1, hx198_2, hx198_3⟩ := at_T38 (Kd.R_reads' hZ198).2.2 1 p198 q198
            cases e198
            replace eoZ198 := Aside0.mk eoZ198
            (try simp only [show (1 : Int).toNat = 1 from rfl, Nat.reduceMul, Nat.reduceEqDiff, Go.Addr.add, ↓reduceIte] at hx198_0)
            (try simp only [show (1 : Int).toNat = 1 from rfl, Nat.reduceMul, Nat.reduceEqDiff, Go.Addr.add, ↓reduceIte] at hx198_1)
            (try simp only [show (1 : Int).toNat = 1 from rfl, Nat.reduceMul, Nat.reduceEqDiff, Go.Addr.add, ↓reduceIte] at hx198_2)
            (try simp only [show (1 : Int).toNat = 1 from rfl, Nat.reduceMul, Nat.reduceEqDiff, Go.Addr.add, ↓reduceIte] at hx198_3)
            have qi198 : (1 < t181.length) = True := eq_true (by omega)
            (try rw [show ((1 : Int)).toNat = 1 from rfl] at hx198_0)
            (try rw [show 1 * 4 = 4 from rfl] at hx198_0)
            (try rw [show ((1 : Int)).toNat = 1 from rfl] at hx198_1)
            (try rw [show 1 * 4 = 4 from rfl] at hx198_1)
            (try rw [show ((1 : Int)).toNat = 1 from rfl] at hx198_2)
            (try rw [show 1 * 4 = 4 from rfl] at hx198_2)
            (try rw [show ((1 : Int)).toNat = 1 from rfl] at hx198_3)
            (try rw [show 1 * 4 = 4 from rfl] at hx198_3)
            replace p198 := eq_true p198
            replace q198 := eq_true q198
            refine start_ (n := 51) (S := fun w' => w'.cell? ⟨gb188, 0, none⟩ = some (.int .i64 t184) ∧ w'.cell? ⟨gb188, 1, none⟩ = some (.float .f64 t185) ∧ w'.cell? ⟨gb188, 2, none⟩ = some (.string t186) ∧ w'.cell? ⟨ad190.block, ad190.off + 4, none⟩ = some (.string ((rd_T38 y175 1).f0)) ∧ w'.cell? ⟨ad190.block, ad190.off + 4 + 1, none⟩ = some (.int .i64 ((rd_T38 y175 1).f1.f0)) ∧ w'.cell? ⟨ad190.block, ad190.off + 4 + 2, none⟩ = some (.float .f64 ((rd_T38 y175 1).f1.f1)) ∧ w'.cell? ⟨ad190.block, ad190.off + 4 + 3, none⟩ = some (.string ((rd_T38 y175 1).f1.f2)) ∧ w'.cell? ad190 = some (.string ((rd_T38 y175 0).f0)) ∧ w'.cell? ⟨ad190.block, ad190.off + 1, none⟩ = some (.int .i64 ((rd_T38 y175 0).f1.f0)) ∧ w'.cell? ⟨ad190.block, ad190.off + 2, none⟩ = some (.float .f64 ((rd_T38 y175 0).f1.f1)) ∧ w'.cell? ⟨ad190.block, ad190.off + 3, none⟩ = some (.string ((rd_T38 y175 0).f1.f2)) ∧ w'.cell? ⟨ad198.block, ad198.off + 4, none⟩ = some (.string ((rd_T38 t181 1).f0)) ∧ w'.cell? ⟨ad198.block, ad198.off + 4 + 1, none⟩ = some (.int .i64 ((rd_T38 t181 1).f1.f0)) ∧ w'.cell? ⟨ad198.block, ad198.off + 4 + 2, none⟩ = some (.float .f64 ((rd_T38 t181 1).f1.f1)) ∧ w'.cell? ⟨ad198.block, ad198.off + 4 + 3, none⟩ = some (.string ((rd_T38 t181 1).f1.f2))) (ds := []) #[false, false, false, false, false, false, false, false, false, false, false, false, false, false, false, false, false, false, false, false, false, false, false, false, false, false, false, false, false, false, false, false, false, false, false, false, false, false, false, false, false, false, false, false, false, false, false, false, false, false, false] (by kernel_rfl) rfl rfl (bn3 BK188 ⟨hx190_0, hx190_1, hx190_2, hx190_3, hx191_0, hx191_1, hx191_2, hx191_3, hx198_0, hx198_1, hx198_2, hx198_3⟩) (fun hHeld => ?_); refine with_tabW engrosslaw28_begun.tab5 engrosslaw28_begun.bits5 (fun HT_ HW_ => ?_)
            generalize w33.drew = w34 at HO177 HO180 HO183 BK174 BK188 HB hx190_0 hx190_1 hx190_2 hx190_3 hx191_0 hx191_1 hx191_2 hx191_3 hx198_0 hx198_1 hx198_2 hx198_3 hHeld ⊢
            refine pure_ (i := 0) (N := some 23) (v := ?_) (a' := ?_) #[true, false, false, false, false, false, false, false, false, false, false, false, false, false, false, false, false, false, false, false, false, false, false, false, false, false, false, false, false, false, false, false, false, false, false, false, false, false, false, false, false, false, false, false, false, false, false, false, false, false, false] rfl rfl (any_of HT_.out (by kernel_rfl)) (fun _ _ _ h => h) (Or.inl ⟨by rfl, ?_⟩) ?_ ?_
            rotate_left
            ·intro w'
             go_simp
             with_reducible rfl
            rotate_left
            ·simp only [Act.put, List.setIfInBounds_toArray, List.set_cons_zero, List.set_cons_succ, i64_w, i32_w]
             rfl
            refine one_ (i := 1) (N := some 24) #[true, true, false, false, false, false, false, false, false, false, false, false, false, false, false, false, false, false, false, false, false, false, false, false, false, false, false, false, false, false, false, false, false, false, false, false, false, false, false, false, false, false, false, false, false, false, false, false, false, false, false] rfl rfl (one_of HT_.out (by kernel_rfl)) (by decide) (fun K hK => ?_)
            refine goes_ Try.func10 (by kernel_rfl) rfl #[.slice (some ad190) y175.length co26] (by rfl) rfl rfl (by (try simp only [List.map_toArray, List.map_cons, List.map_nil]); first | done | rfl | (simp only [List.length_drop, List.length_take]; rfl)) ?_
            with_reducible refine (judge_Sorted.calls k _ _ y175 true _ ?side1 ?side2 A3.out).mono ?_
            (case side1 => repeat (first | exact (Kd.R_reads' HO177.out).2.2 | (with_reducible refine Kd.C_alloc ?_ _) | (with_reducible refine Kd.C_drewN ?_ _) | (with_reducible refine Kd.C_drew ?_)))
            (case side2 => exact (Kd.R_reads' HO177.out).2.1)
            rintro e w35 ⟨rfl, hb⟩
            have HS3_ := (hb.cell (World.block_lt_of_cell? _ _ (hHeld.2.2.2.1))).trans (hHeld.2.2.2.1)
            have HS4_ := (hb.cell (World.block_lt_of_cell? _ _ (hHeld.2.2.2.2.1))).trans (hHeld.2.2.2.2.1)
            have HS5_ := (hb.cell (World.block_lt_of_cell? _ _ (hHeld.2.2.2.2.2.1))).trans (hHeld.2.2.2.2.2.1)
            have HS6_ := (hb.cell (World.block_lt_of_cell? _ _ (hHeld.2.2.2.2.2.2.1))).trans (hHeld.2.2.2.2.2.2.1)
            have HS7_ := (hb.cell (World.block_lt_of_cell? _ _ (hHeld.2.2.2.2.2.2.2.1))).trans (hHeld.2.2.2.2.2.2.2.1)
            have HS8_ := (hb.cell (World.block_lt_of_cell? _ _ (hHeld.2.2.2.2.2.2.2.2.1))).trans (hHeld.2.2.2.2.2.2.2.2.1)
            have HS9_ := (hb.cell (World.block_lt_of_cell? _ _ (hHeld.2.2.2.2.2.2.2.2.2.1))).trans (hHeld.2.2.2.2.2.2.2.2.2.1)
            have HS10_ := (hb.cell (World.block_lt_of_cell? _ _ (hHeld.2.2.2.2.2.2.2.2.2.2.1))).trans (hHeld.2.2.2.2.2.2.2.2.2.2.1)
            have HS11_ := (hb.cell (World.block_lt_of_cell? _ _ (hHeld.2.2.2.2.2.2.2.2.2.2.2.1))).trans (hHeld.2.2.2.2.2.2.2.2.2.2.2.1)
            have HS12_ := (hb.cell (World.block_lt_of_cell? _ _ (hHeld.2.2.2.2.2.2.2.2.2.2.2.2.1))).trans (hHeld.2.2.2.2.2.2.2.2.2.2.2.2.1)
            have HS13_ := (hb.cell (World.block_lt_of_cell? _ _ (hHeld.2.2.2.2.2.2.2.2.2.2.2.2.2.1))).trans (hHeld.2.2.2.2.2.2.2.2.2.2.2.2.2.1)
            have HS14_ := (hb.cell (World.block_lt_of_cell? _ _ (hHeld.2.2.2.2.2.2.2.2.2.2.2.2.2.2))).trans (hHeld.2.2.2.2.2.2.2.2.2.2.2.2.2.2)
            refine ⟨_, rfl, ?_⟩
            replace HO177 := Aside0.mk (Kd.R_below (by (with_reducible repeat (first | apply Kd.R_alloc | apply Kd.R_drewN | apply Kd.R_drew)); exact HO177.out) hb)
            replace HO180 := Aside0.mk (Kd.R_below (by (with_reducible repeat (first | apply Kd.R_alloc | apply Kd.R_drewN | apply Kd.R_drew)); exact HO180.out) hb)
            replace HO183 := Aside0.mk (Kd.R_below (by (with_reducible repeat (first | apply Kd.R_alloc | apply Kd.R_drewN | apply Kd.R_drew)); exact HO183.out) hb)
            replace BK174 := bB BK174 hb
            replace BK188 := bB BK188 hb
            replace HB := bW HB hb
            (try clear hb)
            (try clear hb2)
            (try clear hk)
            (try clear hi)
            refine hK.out _ _ (bn3 BK188 ⟨HS3_, HS4_, HS5_, HS6_, HS7_, HS8_, HS9_, HS10_, HS11_, HS12_, HS13_, HS14_⟩) (fun hHeld => ?_)
            clear hK K
            refine norm_ (a' := ?_) ?_ ?_
            rotate_left
            ·show Act.put _ (some 24) _ = _
             simp only [Act.put, List.setIfInBounds_toArray, List.set_cons_zero, List.set_cons_succ, i64_w, i32_w]
             rfl
            refine pure_ (i := 2) (N := some 25) (v := ?_) (a' := ?_) #[true, true, true, false, false, false, false, false, false, false, false, false, false, false, false, false, false, false, false, false, false, false, false, false, false, false, false, false, false, false, false, false, false, false, false, false, false, false, false, false, false, false, false, false, false, false, false, false, false, false, false] rfl rfl (any_of HT_.out (by kernel_rfl)) (fun _ _ _ h => h) (Or.inl ⟨by rfl, ?_⟩) ?_ ?_
            rotate_left
            ·intro w'
             go_simp
             with_reducible rfl
            rotate_left
            ·simp only [Act.put, List.setIfInBounds_toArray, List.set_cons_zero, List.set_cons_succ, i64_w, i32_w]
             rfl
            refine pure_ (i := 3) (N := some 26) (v := ?_) (a' := ?_) #[true, true, true, true, false, false, false, false, false, false, false, false, false, false, false, false, false, false, false, false, false, false, false, false, false, false, false, false, false, false, false, false, false, false, false, false, false, false, false, false, false, false, false, false, false, false, false, false, false, false, false] rfl rfl (any_of HT_.out (by kernel_rfl)) (fun _ _ _ h => h) (Or.inl ⟨by rfl, ?_⟩) ?_ ?_
            rotate_left
            ·intro w'
             go_simp
             with_reducible rfl
            rotate_left
            ·simp only [Act.put, List.setIfInBounds_toArray, List.set_cons_zero, List.set_cons_succ, i64_w, i32_w]
             rfl
            refine pure_ (i := 4) (N := some 27) (v := ?_) (a' := ?_) #[true, true, true, true, true, false, false, false, false, false, false, false, false, false, false, false, false, false, false, false, false, false, false, false, false, false, false, false, false, false, false, false, false, false, false, false, false, false, false, false, false, false, false, false, false, false, false, false, false, false, false] rfl rfl (any_of HT_.out (by kernel_rfl)) (fun _ _ _ h => h) (Or.inl ⟨by rfl, ?_⟩) ?_ ?_
            rotate_left
            ·intro w'
             go_simp
             with_reducible rfl
            rotate_left
            ·simp only [Act.put, List.setIfInBounds_toArray, List.set_cons_zero, List.set_cons_succ, i64_w, i32_w]
             rfl
            refine pure_ (i := 6) (N := some 29) (v := ?_) (a' := ?_) #[true, true, true, true, true, false, true, false, false, false, false, false, false, false, false, false, false, false, false, false, false, false, false, false, false, false, false, false, false, false, false, false, false, false, false, false, false, false, false, false, false, false, false, false, false, false, false, false, false, false, false] rfl rfl (any_of HT_.out (by kernel_rfl)) (fun _ _ _ h => h) (Or.inl ⟨by rfl, ?_⟩) ?_ ?_
            rotate_left
            ·intro w'
             go_simp
             with_reducible rfl
            rotate_left
            ·simp only [Act.put, List.setIfInBounds_toArray, List.set_cons_zero, List.set_cons_succ, i64_w, i32_w]
             rfl
            refine pure_ (i := 7) (N := some 30) (v := ?_) (a' := ?_) #[true, true, true, true, true, false, true, true, false, false, false, false, false, false, false, false, false, false, false, false, false, false, false, false, false, false, false, false, false, false, false, false, false, false, false, false, false, false, false, false, false, false, false, false, false, false, false, false, false, false, false] rfl rfl (any_of HT_.out (by kernel_rfl)) (fun _ _ _ h => h) (Or.inl ⟨by rfl, ?_⟩) ?_ ?_
            rotate_left
            ·intro w'
             go_simp
             with_reducible rfl
            rotate_left
            ·simp only [Act.put, List.setIfInBounds_toArray, List.set_cons_zero, List.set_cons_succ, i64_w, i32_w]
             rfl
            refine take_ (i := 5) (N := some 28) (v := ?_) (a' := ?_) #[true, true, true, true, true, true, true, true, false, false, false, false, false, false, false, false, false, false, false, false, false, false, false, false, false, false, false, false, false, false, false, false, false, false, false, false, false, false, false, false, false, false, false, false, false, false, false, false, false, false, false] rfl rfl (take_ofW HT_.out HW_.out (by kernel_rfl)) (fun _ _ _ h => h) (Or.inl ⟨by rfl, ?_⟩) hHeld ?_ ?_
            rotate_left
            ·rintro w' ⟨s0, s1, s2, s3, s4, s5, s6, s7, s8, s9, s10, s11, s12, s13, s14⟩
             go_simp
             with_reducible rfl
            rotate_left
            ·simp only [Act.put, List.setIfInBounds_toArray, List.set_cons_zero, List.set_cons_succ, i64_w, i32_w]
             rfl
            refine take_ (i := 8) (N := some 31) (v := ?_) (a' := ?_) #[true, true, true, true, true, true, true, true, true, false, false, false, false, false, false, false, false, false, false, false, false, false, false, false, false, false, false, false, false, false, false, false, false, false, false, false, false, false, false, false, false, false, false, false, false, false, false, false, false, false, false] rfl rfl (take_ofW HT_.out HW_.out (by kernel_rfl)) (fun _ _ _ h => h) (Or.inl ⟨by rfl, ?_⟩) hHeld ?_ ?_
            rotate_left
            ·rintro w' ⟨s0, s1, s2, s3, s4, s5, s6, s7, s8, s9, s10, s11, s12, s13, s14⟩
             go_simp
             with_reducible rfl
            rotate_left
            ·simp only [Act.put, List.setIfInBounds_toArray, List.set_cons_zero, List.set_cons_succ, i64_w, i32_w]
             rfl
            refine one_ (i := 9) (N := some 32) #[true, true, true, true, true, true, true, true, true, true, false, false, false, false, false, false, false, false, false, false, false, false, false, false, false, false, false, false, false, false, false, false, false, false, false, false, false, false, false, false, false, false, false, false, false, false, false, false, false, false, false] rfl rfl (one_of HT_.out (by kernel_rfl)) (by decide) (fun K hK => ?_)
            refine Kd.R_lit_step k38 _ 38 ?hg (N := 32) ?hd (xs := ([(⟨(rd_T38 y175 1).f0, (⟨(rd_T38 y175 1).f1.f0, (rd_T38 y175 1).f1.f1, (rd_T38 y175 1).f1.f2⟩ : S31)⟩ : S38), (⟨(rd_T38 y175 0).f0, (⟨(rd_T38 y175 0).f1.f0, (rd_T38 y175 0).f1.f1, (rd_T38 y175 0).f1.f2⟩ : S31)⟩ : S38)] : List (S38))) (inner := [.string ((rd_T38 y175 1).f0), .int .i64 ((rd_T38 y175 1).f1.f0), .float .f64 ((rd_T38 y175 1).f1.f1), .string ((rd_T38 y175 1).f1.f2), .string ((rd_T38 y175 0).f0), .int .i64 ((rd_T38 y175 0).f1.f0), .float .f64 ((rd_T38 y175 0).f1.f1), .string ((rd_T38 y175 0).f1.f2)]) (ok := fun _ => True) (okp := fun _ => True) ?hr ?hp (fun _ hk => hk) trivial (Below.refl _ _) (Nat.le_refl _) (by simp) ?_; (case hd => rfl); (case hg => rfl); (case hr => first | (go_simp; done) | (go_simp; rfl)); (case hp => exact (Reps.c4 (show Kd.M k38 _ _ _ (⟨(rd_T38 y175 1).f0, (⟨(rd_T38 y175 1).f1.f0, (rd_T38 y175 1).f1.f1, (rd_T38 y175 1).f1.f2⟩ : S31)⟩ : S38) [.string ((rd_T38 y175 1).f0), .int .i64 ((rd_T38 y175 1).f1.f0), .float .f64 ((rd_T38 y175 1).f1.f1), .string ((rd_T38 y175 1).f1.f2)] from (k38_mkM _ _ _ (⟨(rd_T38 y175 1).f0, (⟨(rd_T38 y175 1).f1.f0, (rd_T38 y175 1).f1.f1, (rd_T38 y175 1).f1.f2⟩ : S31)⟩ : S38) )) (Reps.c4 (show Kd.M k38 _ _ _ (⟨(rd_T38 y175 0).f0, (⟨(rd_T38 y175 0).f1.f0, (rd_T38 y175 0).f1.f1, (rd_T38 y175 0).f1.f2⟩ : S31)⟩ : S38) [.string ((rd_T38 y175 0).f0), .int .i64 ((rd_T38 y175 0).f1.f0), .float .f64 ((rd_T38 y175 0).f1.f1), .string ((rd_T38 y175 0).f1.f2)] from (k38_mkM _ _ _ (⟨(rd_T38 y175 0).f0, (⟨(rd_T38 y175 0).f1.f0, (rd_T38 y175 0).f1.f1, (rd_T38 y175 0).f1.f2⟩ : S31)⟩ : S38) )) (Reps.none _ _))))
            intro v193 w36 ho37 hb hg_ hnew_
            have HS3_ := (hb.cell (World.block_lt_of_cell? _ _ (hHeld.2.2.2.1))).trans (hHeld.2.2.2.1)
            have HS4_ := (hb.cell (World.block_lt_of_cell? _ _ (hHeld.2.2.2.2.1))).trans (hHeld.2.2.2.2.1)
            have HS5_ := (hb.cell (World.block_lt_of_cell? _ _ (hHeld.2.2.2.2.2.1))).trans (hHeld.2.2.2.2.2.1)
            have HS6_ := (hb.cell (World.block_lt_of_cell? _ _ (hHeld.2.2.2.2.2.2.1))).trans (hHeld.2.2.2.2.2.2.1)
            have HS7_ := (hb.cell (World.block_lt_of_cell? _ _ (hHeld.2.2.2.2.2.2.2.1))).trans (hHeld.2.2.2.2.2.2.2.1)
            have HS8_ := (hb.cell (World.block_lt_of_cell? _ _ (hHeld.2.2.2.2.2.2.2.2.1))).trans (hHeld.2.2.2.2.2.2.2.2.1)
            have HS9_ := (hb.cell (World.block_lt_of_cell? _ _ (hHeld.2.2.2.2.2.2.2.2.2.1))).trans (hHeld.2.2.2.2.2.2.2.2.2.1)
            have HS10_ := (hb.cell (World.block_lt_of_cell? _ _ (hHeld.2.2.2.2.2.2.2.2.2.2.1))).trans (hHeld.2.2.2.2.2.2.2.2.2.2.1)
            have HS11_ := (hb.cell (World.block_lt_of_cell? _ _ (hHeld.2.2.2.2.2.2.2.2.2.2.2.1))).trans (hHeld.2.2.2.2.2.2.2.2.2.2.2.1)
            have HS12_ := (hb.cell (World.block_lt_of_cell? _ _ (hHeld.2.2.2.2.2.2.2.2.2.2.2.2.1))).trans (hHeld.2.2.2.2.2.2.2.2.2.2.2.2.1)
            have HS13_ := (hb.cell (World.block_lt_of_cell? _ _ (hHeld.2.2.2.2.2.2.2.2.2.2.2.2.2.1))).trans (hHeld.2.2.2.2.2.2.2.2.2.2.2.2.2.1)
            have HS14_ := (hb.cell (World.block_lt_of_cell? _ _ (hHeld.2.2.2.2.2.2.2.2.2.2.2.2.2.2))).trans (hHeld.2.2.2.2.2.2.2.2.2.2.2.2.2.2)
            clear hg_ hnew_
            (first | rw [← Ny192.out] at ho37 | (simp only [Int.reduceToNat] at ho37; rw [← Ny192.out] at ho37))
            have HO194 := Aside0.mk (Kd.R_lower (Kd.R_new' (Kd.R_new' (Kd.R_new' ho37 (Kd.R_lt (by (with_reducible repeat (first | apply Kd.R_alloc | apply Kd.R_drewN | apply Kd.R_drew)); exact HO177.out))) (Kd.R_lt (by (with_reducible repeat (first | apply Kd.R_alloc | apply Kd.R_drewN | apply Kd.R_drew)); exact HO180.out))) (Kd.R_lt (by (with_reducible repeat (first | apply Kd.R_alloc | apply Kd.R_drewN | apply Kd.R_drew)); exact HO183.out))) (below_size (bC HB)))
            replace HO177 := Aside0.mk (Kd.R_elder' (by (with_reducible repeat (first | apply Kd.R_alloc | apply Kd.R_drewN | apply Kd.R_drew)); exact HO177.out) (Kd.R_base ho37) hb)
            replace HO180 := Aside0.mk (Kd.R_elder' (by (with_reducible repeat (first | apply Kd.R_alloc | apply Kd.R_drewN | apply Kd.R_drew)); exact HO180.out) (Kd.R_base ho37) hb)
            replace HO183 := Aside0.mk (Kd.R_elder' (by (with_reducible repeat (first | apply Kd.R_alloc | apply Kd.R_drewN | apply Kd.R_drew)); exact HO183.out) (Kd.R_base ho37) hb)
            replace BK174 := bB BK174 hb
            replace BK188 := bB BK188 hb
            replace HB := bW HB hb
            clear hb ho37
            obtain ⟨Ao38, co38, eo38⟩ := Kd.R_slice HO194.out
            (first | subst eo38 | (injection eo38 with f1_ f2_ f3_; have f4_ := f1_.symm; have f5_ := f3_.symm; clear f1_ f2_ f3_; subst f4_; subst f5_))
            refine hK.out _ _ (bn3 BK188 ⟨HS3_, HS4_, HS5_, HS6_, HS7_, HS8_, HS9_, HS10_, HS11_, HS12_, HS13_, HS14_⟩) (fun hHeld => ?_)
            clear hK K
            refine norm_ (a' := ?_) ?_ ?_
            rotate_left
            ·show Act.put _ (some 32) _ = _
             simp only [Act.put, List.setIfInBounds_toArray, List.set_cons_zero, List.set_cons_succ, i64_w, i32_w]
             rfl
            refine one_ (i := 10) (N := some 33) #[true, true, true, true, true, true, true, true, true, true, true, false, false, false, false, false, false, false, false, false, false, false, false, false, false, false, false, false, false, false, false, false, false, false, false, false, false, false, false, false, false, false, false, false, false, false, false, false, false, false, false] rfl rfl (one_of HT_.out (by kernel_rfl)) (by decide) (fun K hK => ?_)
            refine goes_ Try.func10 (by kernel_rfl) rfl #[.slice Ao38 y192.length co38] (by rfl) rfl rfl (by (try simp only [List.map_toArray, List.map_cons, List.map_nil]); first | done | rfl | (simp only [List.length_drop, List.length_take]; rfl)) ?_
            with_reducible refine (judge_Sorted.calls k _ _ y192 false _ ?side1 ?side2 A7.out).mono ?_
            (case side1 => repeat (first | exact (Kd.R_reads' HO194.out).2.2 | (with_reducible refine Kd.C_alloc ?_ _) | (with_reducible refine Kd.C_drewN ?_ _) | (with_reducible refine Kd.C_drew ?_)))
            (case side2 => exact (Kd.R_reads' HO194.out).2.1)
            rintro e w39 ⟨rfl, hb⟩
            have HS3_ := (hb.cell (World.block_lt_of_cell? _ _ (hHeld.2.2.2.1))).trans (hHeld.2.2.2.1)
            have HS4_ := (hb.cell (World.block_lt_of_cell? _ _ (hHeld.2.2.2.2.1))).trans (hHeld.2.2.2.2.1)
            have HS5_ := (hb.cell (World.block_lt_of_cell? _ _ (hHeld.2.2.2.2.2.1))).trans (hHeld.2.2.2.2.2.1)
            have HS6_ := (hb.cell (World.block_lt_of_cell? _ _ (hHeld.2.2.2.2.2.2.1))).trans (hHeld.2.2.2.2.2.2.1)
            have HS7_ := (hb.cell (World.block_lt_of_cell? _ _ (hHeld.2.2.2.2.2.2.2.1))).trans (hHeld.2.2.2.2.2.2.2.1)
            have HS8_ := (hb.cell (World.block_lt_of_cell? _ _ (hHeld.2.2.2.2.2.2.2.2.1))).trans (hHeld.2.2.2.2.2.2.2.2.1)
            have HS9_ := (hb.cell (World.block_lt_of_cell? _ _ (hHeld.2.2.2.2.2.2.2.2.2.1))).trans (hHeld.2.2.2.2.2.2.2.2.2.1)
            have HS10_ := (hb.cell (World.block_lt_of_cell? _ _ (hHeld.2.2.2.2.2.2.2.2.2.2.1))).trans (hHeld.2.2.2.2.2.2.2.2.2.2.1)
            have HS11_ := (hb.cell (World.block_lt_of_cell? _ _ (hHeld.2.2.2.2.2.2.2.2.2.2.2.1))).trans (hHeld.2.2.2.2.2.2.2.2.2.2.2.1)
            have HS12_ := (hb.cell (World.block_lt_of_cell? _ _ (hHeld.2.2.2.2.2.2.2.2.2.2.2.2.1))).trans (hHeld.2.2.2.2.2.2.2.2.2.2.2.2.1)
            have HS13_ := (hb.cell (World.block_lt_of_cell? _ _ (hHeld.2.2.2.2.2.2.2.2.2.2.2.2.2.1))).trans (hHeld.2.2.2.2.2.2.2.2.2.2.2.2.2.1)
            have HS14_ := (hb.cell (World.block_lt_of_cell? _ _ (hHeld.2.2.2.2.2.2.2.2.2.2.2.2.2.2))).trans (hHeld.2.2.2.2.2.2.2.2.2.2.2.2.2.2)
            refine ⟨_, rfl, ?_⟩
            replace HO177 := Aside0.mk (Kd.R_below (by (with_reducible repeat (first | apply Kd.R_alloc | apply Kd.R_drewN | apply Kd.R_drew)); exact HO177.out) hb)
            replace HO180 := Aside0.mk (Kd.R_below (by (with_reducible repeat (first | apply Kd.R_alloc | apply Kd.R_drewN | apply Kd.R_drew)); exact HO180.out) hb)
            replace HO183 := Aside0.mk (Kd.R_below (by (with_reducible repeat (first | apply Kd.R_alloc | apply Kd.R_drewN | apply Kd.R_drew)); exact HO183.out) hb)
            replace HO194 := Aside0.mk (Kd.R_below (by (with_reducible repeat (first | apply Kd.R_alloc | apply Kd.R_drewN | apply Kd.R_drew)); exact HO194.out) hb)
            replace BK174 := bB BK174 hb
            replace BK188 := bB BK188 hb
            replace HB := bW HB hb
            (try clear hb)
            (try clear hb2)
            (try clear hk)
            (try clear hi)
            refine hK.out _ _ (bn3 BK188 ⟨HS3_, HS4_, HS5_, HS6_, HS7_, HS8_, HS9_, HS10_, HS11_, HS12_, HS13_, HS14_⟩) (fun hHeld => ?_)
            clear hK K
            refine norm_ (a' := ?_) ?_ ?_
            rotate_left
            ·show Act.put _ (some 33) _ = _
             simp only [Act.put, List.setIfInBounds_toArray, List.set_cons_zero, List.set_cons_succ, i64_w, i32_w]
             rfl
            refine pure_ (i := 11) (N := some 34) (v := ?_) (a' := ?_) #[true, true, true, true, true, true, true, true, true, true, true, true, false, false, false, false, false, false, false, false, false, false, false, false, false, false, false, false, false, false, false, false, false, false, false, false, false, false, false, false, false, false, false, false, false, false, false, false, false, false, false] rfl rfl (any_of HT_.out (by kernel_rfl)) (fun _ _ _ h => h) (Or.inl ⟨by rfl, ?_⟩) ?_ ?_
            rotate_left
            ·intro w'
             go_simp
             with_reducible rfl
            rotate_left
            ·simp only [Act.put, List.setIfInBounds_toArray, List.set_cons_zero, List.set_cons_succ, i64_w, i32_w]
             rfl
            refine pure_ (i := 12) (N := some 35) (v := ?_) (a' := ?_) #[true, true, true, true, true, true, true, true, true, true, true, true, true, false, false, false, false, false, false, false, false, false, false, false, false, false, false, false, false, false, false, false, false, false, false, false, false, false, false, false, false, false, false, false, false, false, false, false, false, false, false] rfl rfl (any_of HT_.out (by kernel_rfl)) (fun _ _ _ h => h) (Or.inl ⟨by rfl, ?_⟩) ?_ ?_
            rotate_left
            ·intro w'
             go_simp
             with_reducible rfl
            rotate_left
            ·simp only [Act.put, List.setIfInBounds_toArray, List.set_cons_zero, List.set_cons_succ, i64_w, i32_w]
             rfl
            refine pure_ (i := 13) (N := some 36) (v := ?_) (a' := ?_) #[true, true, true, true, true, true, true, true, true, true, true, true, true, true, false, false, false, false, false, false, false, false, false, false, false, false, false, false, false, false, false, false, false, false, false, false, false, false, false, false, false, false, false, false, false, false, false, false, false, false, false] rfl rfl (any_of HT_.out (by kernel_rfl)) (fun _ _ _ h => h) (Or.inl ⟨by rfl, ?_⟩) ?_ ?_
            rotate_left
            ·intro w'
             go_simp
             with_reducible rfl
            rotate_left
            ·simp only [Act.put, List.setIfInBounds_toArray, List.set_cons_zero, List.set_cons_succ, i64_w, i32_w]
             rfl
            refine pure_ (i := 14) (N := some 37) (v := ?_) (a' := ?_) #[true, true, true, true, true, true, true, true, true, true, true, true, true, true, true, false, false, false, false, false, false, false, false, false, false, false, false, false, false, false, false, false, false, false, false, false, false, false, false, false, false, false, false, false, false, false, false, false, false, false, false] rfl rfl (any_of HT_.out (by kernel_rfl)) (fun _ _ _ h => h) (Or.inl ⟨by rfl, ?_⟩) ?_ ?_
            rotate_left
            ·intro w'
             go_simp
             with_reducible rfl
            rotate_left
            ·simp only [Act.put, List.setIfInBounds_toArray, List.set_cons_zero, List.set_cons_succ, i64_w, i32_w]
             rfl
            refine pure_ (i := 15) (N := some 38) (v := ?_) (a' := ?_) #[true, true, true, true, true, true, true, true, true, true, true, true, true, true, true, true, false, false, false, false, false, false, false, false, false, false, false, false, false, false, false, false, false, false, false, false, false, false, false, false, false, false, false, false, false, false, false, false, false, false, false] rfl rfl (any_of HT_.out (by kernel_rfl)) (fun _ _ _ h => h) (Or.inl ⟨by rfl, ?_⟩) ?_ ?_
            rotate_left
            ·intro w'
             go_simp
             with_reducible rfl
            rotate_left
            ·simp only [Act.put, List.setIfInBounds_toArray, List.set_cons_zero, List.set_cons_succ, i64_w, i32_w]
             rfl
            refine one_ (i := 16) (N := some 39) #[true, true, true, true, true, true, true, true, true, true, true, true, true, true, true, true, true, false, false, false, false, false, false, false, false, false, false, false, false, false, false, false, false, false, false, false, false, false, false, false, false, false, false, false, false, false, false, false, false, false, false] rfl rfl (one_of HT_.out (by kernel_rfl)) (by decide) (fun K hK => ?_)
            refine goes_ Try.func12 (by kernel_rfl) rfl #[.slice (some ad190) y175.length co26, .slice (some ad190) y175.length co26] (by rfl) rfl rfl (by (try simp only [List.map_toArray, List.map_cons, List.map_nil]); first | done | rfl | (simp only [List.length_drop, List.length_take]; rfl)) ?_
            with_reducible refine (judge_Same.calls k _ _ y175 _ _ y175 true _ ?side1 ?side2 ?side3 ?side4 A9.out).mono ?_
            (case side1 => repeat (first | exact (Kd.R_reads' HO177.out).2.2 | (with_reducible refine Kd.C_alloc ?_ _) | (with_reducible refine Kd.C_drewN ?_ _) | (with_reducible refine Kd.C_drew ?_)))
            (case side2 => exact (Kd.R_reads' HO177.out).2.1)
            (case side3 => repeat (first | exact (Kd.R_reads' HO177.out).2.2 | (with_reducible refine Kd.C_alloc ?_ _) | (with_reducible refine Kd.C_drewN ?_ _) | (with_reducible refine Kd.C_drew ?_)))
            (case side4 => exact (Kd.R_reads' HO177.out).2.1)
            rintro e w40 ⟨rfl, hb⟩
            have HS3_ := (hb.cell (World.block_lt_of_cell? _ _ (hHeld.2.2.2.1))).trans (hHeld.2.2.2.1)
            have HS4_ := (hb.cell (World.block_lt_of_cell? _ _ (hHeld.2.2.2.2.1))).trans (hHeld.2.2.2.2.1)
            have HS5_ := (hb.cell (World.block_lt_of_cell? _ _ (hHeld.2.2.2.2.2.1))).trans (hHeld.2.2.2.2.2.1)
            have HS6_ := (hb.cell (World.block_lt_of_cell? _ _ (hHeld.2.2.2.2.2.2.1))).trans (hHeld.2.2.2.2.2.2.1)
            have HS7_ := (hb.cell (World.block_lt_of_cell? _ _ (hHeld.2.2.2.2.2.2.2.1))).trans (hHeld.2.2.2.2.2.2.2.1)
            have HS8_ := (hb.cell (World.block_lt_of_cell? _ _ (hHeld.2.2.2.2.2.2.2.2.1))).trans (hHeld.2.2.2.2.2.2.2.2.1)
            have HS9_ := (hb.cell (World.block_lt_of_cell? _ _ (hHeld.2.2.2.2.2.2.2.2.2.1))).trans (hHeld.2.2.2.2.2.2.2.2.2.1)
            have HS10_ := (hb.cell (World.block_lt_of_cell? _ _ (hHeld.2.2.2.2.2.2.2.2.2.2.1))).trans (hHeld.2.2.2.2.2.2.2.2.2.2.1)
            have HS11_ := (hb.cell (World.block_lt_of_cell? _ _ (hHeld.2.2.2.2.2.2.2.2.2.2.2.1))).trans (hHeld.2.2.2.2.2.2.2.2.2.2.2.1)
            have HS12_ := (hb.cell (World.block_lt_of_cell? _ _ (hHeld.2.2.2.2.2.2.2.2.2.2.2.2.1))).trans (hHeld.2.2.2.2.2.2.2.2.2.2.2.2.1)
            have HS13_ := (hb.cell (World.block_lt_of_cell? _ _ (hHeld.2.2.2.2.2.2.2.2.2.2.2.2.2.1))).trans (hHeld.2.2.2.2.2.2.2.2.2.2.2.2.2.1)
            have HS14_ := (hb.cell (World.block_lt_of_cell? _ _ (hHeld.2.2.2.2.2.2.2.2.2.2.2.2.2.2))).trans (hHeld.2.2.2.2.2.2.2.2.2.2.2.2.2.2)
            refine ⟨_, rfl, ?_⟩
            replace HO177 := Aside0.mk (Kd.R_below (by (with_reducible repeat (first | apply Kd.R_alloc | apply Kd.R_drewN | apply Kd.R_drew)); exact HO177.out) hb)
            replace HO180 := Aside0.mk (Kd.R_below (by (with_reducible repeat (first | apply Kd.R_alloc | apply Kd.R_drewN | apply Kd.R_drew)); exact HO180.out) hb)
            replace HO183 := Aside0.mk (Kd.R_below (by (with_reducible repeat (first | apply Kd.R_alloc | apply Kd.R_drewN | apply Kd.R_drew)); exact HO183.out) hb)
            replace HO194 := Aside0.mk (Kd.R_below (by (with_reducible repeat (first | apply Kd.R_alloc | apply Kd.R_drewN | apply Kd.R_drew)); exact HO194.out) hb)
            replace BK174 := bB BK174 hb
            replace BK188 := bB BK188 hb
            replace HB := bW HB hb
            (try clear hb)
            (try clear hb2)
            (try clear hk)
            (try clear hi)
            obtain ⟨Ao41, co41, eo41⟩ := Kd.R_slice HO183.out
            (first | subst eo41 | (injection eo41 with f1_ f2_ f3_; have f4_ := f1_.symm; have f5_ := f3_.symm; clear f1_ f2_ f3_; subst f4_; subst f5_))
            refine hK.out _ _ (bn3 BK188 ⟨HS3_, HS4_, HS5_, HS6_, HS7_, HS8_, HS9_, HS10_, HS11_, HS12_, HS13_, HS14_⟩) (fun hHeld => ?_)
            clear hK K
            refine norm_ (a' := ?_) ?_ ?_
            rotate_left
            ·show Act.put _ (some 39) _ = _
             simp only [Act.put, List.setIfInBounds_toArray, List.set_cons_zero, List.set_cons_succ, i64_w, i32_w]
             rfl
            refine pure_ (i := 17) (N := some 40) (v := ?_) (a' := ?_) #[true, true, true, true, true, true, true, true, true, true, true, true, true, true, true, true, true, true, false, false, false, false, false, false, false, false, false, false, false, false, false, false, false, false, false, false, false, false, false, false, false, false, false, false, false, false, false, false, false, false, false] rfl rfl (any_of HT_.out (by kernel_rfl)) (fun _ _ _ h => h) (Or.inl ⟨by rfl, ?_⟩) ?_ ?_
            rotate_left
            ·intro w'
             go_simp
             with_reducible rfl
            rotate_left
            ·simp only [Act.put, List.setIfInBounds_toArray, List.set_cons_zero, List.set_cons_succ, i64_w, i32_w]
             rfl
            refine pure_ (i := 18) (N := some 41) (v := ?_) (a' := ?_) #[true, true, true, true, true, true, true, true, true, true, true, true, true, true, true, true, true, true, true, false, false, false, false, false, false, false, false, false, false, false, false, false, false, false, false, false, false, false, false, false, false, false, false, false, false, false, false, false, false, false, false] rfl rfl (any_of HT_.out (by kernel_rfl)) (fun _ _ _ h => h) (Or.inl ⟨by rfl, ?_⟩) ?_ ?_
            rotate_left
            ·intro w'
             go_simp
             with_reducible rfl
            rotate_left
            ·simp only [Act.put, List.setIfInBounds_toArray, List.set_cons_zero, List.set_cons_succ, i64_w, i32_w]
             rfl
            refine pure_ (i := 19) (N := some 42) (v := ?_) (a' := ?_) #[true, true, true, true, true, true, true, true, true, true, true, true, true, true, true, true, true, true, true, true, false, false, false, false, false, false, false, false, false, false, false, false, false, false, false, false, false, false, false, false, false, false, false, false, false, false, false, false, false, false, false] rfl rfl (any_of HT_.out (by kernel_rfl)) (fun _ _ _ h => h) (Or.inl ⟨by rfl, ?_⟩) ?_ ?_
            rotate_left
            ·intro w'
             go_simp
             with_reducible rfl
            rotate_left
            ·simp only [Act.put, List.setIfInBounds_toArray, List.set_cons_zero, List.set_cons_succ, i64_w, i32_w]
             rfl
            refine pure_ (i := 20) (N := some 43) (v := ?_) (a' := ?_) #[true, true, true, true, true, true, true, true, true, true, true, true, true, true, true, true, true, true, true, true, true, false, false, false, false, false, false, false, false, false, false, false, false, false, false, false, false, false, false, false, false, false, false, false, false, false, false, false, false, false, false] rfl rfl (any_of HT_.out (by kernel_rfl)) (fun _ _ _ h => h) (Or.inl ⟨by rfl, ?_⟩) ?_ ?_
            rotate_left
            ·intro w'
             go_simp
             with_reducible rfl
            rotate_left
            ·simp only [Act.put, List.setIfInBounds_toArray, List.set_cons_zero, List.set_cons_succ, i64_w, i32_w]
             rfl
            refine one_ (i := 21) (N := some 44) #[true, true, true, true, true, true, true, true, true, true, true, true, true, true, true, true, true, true, true, true, true, true, false, false, false, false, false, false, false, false, false, false, false, false, false, false, false, false, false, false, false, false, false, false, false, false, false, false, false, false, false] rfl rfl (one_of HT_.out (by kernel_rfl)) (by decide) (fun K hK => ?_)
            refine goes_ Try.func12 (by kernel_rfl) rfl #[.slice (some ad190) y175.length co26, .slice Ao41 t181.length co41] (by rfl) rfl rfl (by (try simp only [List.map_toArray, List.map_cons, List.map_nil]); first | done | rfl | (simp only [List.length_drop, List.length_take]; rfl)) ?_
            with_reducible refine (judge_Same.calls k _ _ y175 _ _ t181 false _ ?side1 ?side2 ?side3 ?side4 A11.out).mono ?_
            (case side1 => repeat (first | exact (Kd.R_reads' HO177.out).2.2 | (with_reducible refine Kd.C_alloc ?_ _) | (with_reducible refine Kd.C_drewN ?_ _) | (with_reducible refine Kd.C_drew ?_)))
            (case side2 => exact (Kd.R_reads' HO177.out).2.1)
            (case side3 => repeat (first | exact (Kd.R_reads' HO183.out).2.2 | (with_reducible refine Kd.C_alloc ?_ _) | (with_reducible refine Kd.C_drewN ?_ _) | (with_reducible refine Kd.C_drew ?_)))
            (case side4 => exact (Kd.R_reads' HO183.out).2.1)
            rintro e w42 ⟨rfl, hb⟩
            have HS3_ := (hb.cell (World.block_lt_of_cell? _ _ (hHeld.2.2.2.1))).trans (hHeld.2.2.2.1)
            have HS4_ := (hb.cell (World.block_lt_of_cell? _ _ (hHeld.2.2.2.2.1))).trans (hHeld.2.2.2.2.1)
            have HS5_ := (hb.cell (World.block_lt_of_cell? _ _ (hHeld.2.2.2.2.2.1))).trans (hHeld.2.2.2.2.2.1)
            have HS6_ := (hb.cell (World.block_lt_of_cell? _ _ (hHeld.2.2.2.2.2.2.1))).trans (hHeld.2.2.2.2.2.2.1)
            have HS7_ := (hb.cell (World.block_lt_of_cell? _ _ (hHeld.2.2.2.2.2.2.2.1))).trans (hHeld.2.2.2.2.2.2.2.1)
            have HS8_ := (hb.cell (World.block_lt_of_cell? _ _ (hHeld.2.2.2.2.2.2.2.2.1))).trans (hHeld.2.2.2.2.2.2.2.2.1)
            have HS9_ := (hb.cell (World.block_lt_of_cell? _ _ (hHeld.2.2.2.2.2.2.2.2.2.1))).trans (hHeld.2.2.2.2.2.2.2.2.2.1)
            have HS10_ := (hb.cell (World.block_lt_of_cell? _ _ (hHeld.2.2.2.2.2.2.2.2.2.2.1))).trans (hHeld.2.2.2.2.2.2.2.2.2.2.1)
            have HS11_ := (hb.cell (World.block_lt_of_cell? _ _ (hHeld.2.2.2.2.2.2.2.2.2.2.2.1))).trans (hHeld.2.2.2.2.2.2.2.2.2.2.2.1)
            have HS12_ := (hb.cell (World.block_lt_of_cell? _ _ (hHeld.2.2.2.2.2.2.2.2.2.2.2.2.1))).trans (hHeld.2.2.2.2.2.2.2.2.2.2.2.2.1)
            have HS13_ := (hb.cell (World.block_lt_of_cell? _ _ (hHeld.2.2.2.2.2.2.2.2.2.2.2.2.2.1))).trans (hHeld.2.2.2.2.2.2.2.2.2.2.2.2.2.1)
            have HS14_ := (hb.cell (World.block_lt_of_cell? _ _ (hHeld.2.2.2.2.2.2.2.2.2.2.2.2.2.2))).trans (hHeld.2.2.2.2.2.2.2.2.2.2.2.2.2.2)
            refine ⟨_, rfl, ?_⟩
            replace HO177 := Aside0.mk (Kd.R_below (by (with_reducible repeat (first | apply Kd.R_alloc | apply Kd.R_drewN | apply Kd.R_drew)); exact HO177.out) hb)
            replace HO180 := Aside0.mk (Kd.R_below (by (with_reducible repeat (first | apply Kd.R_alloc | apply Kd.R_drewN | apply Kd.R_drew)); exact HO180.out) hb)
            replace HO183 := Aside0.mk (Kd.R_below (by (with_reducible repeat (first | apply Kd.R_alloc | apply Kd.R_drewN | apply Kd.R_drew)); exact HO183.out) hb)
            replace HO194 := Aside0.mk (Kd.R_below (by (with_reducible repeat (first | apply Kd.R_alloc | apply Kd.R_drewN | apply Kd.R_drew)); exact HO194.out) hb)
            replace BK174 := bB BK174 hb
            replace BK188 := bB BK188 hb
            replace HB := bW HB hb
            (try clear hb)
            (try clear hb2)
            (try clear hk)
            (try clear hi)
            refine hK.out _ _ (bn3 BK188 ⟨HS3_, HS4_, HS5_, HS6_, HS7_, HS8_, HS9_, HS10_, HS11_, HS12_, HS13_, HS14_⟩) (fun hHeld => ?_)
            clear hK K
            replace eoZ198 := eoZ198.out
            injection eoZ198 with eA198 eN198 eC198
            refine norm_ (a' := ?_) ?_ ?_
            rotate_left
            ·show Act.put _ (some 44) _ = _
             simp only [Act.put, List.setIfInBounds_toArray, List.set_cons_zero, List.set_cons_succ, i64_w, i32_w]
             rfl
            refine pure_ (i := 22) (N := some 45) (v := ?_) (a' := ?_) #[true, true, true, true, true, true, true, true, true, true, true, true, true, true, true, true, true, true, true, true, true, true, true, false, false, false, false, false, false, false, false, false, false, false, false, false, false, false, false, false, false, false, false, false, false, false, false, false, false, false, false] rfl rfl (any_of HT_.out (by kernel_rfl)) (fun _ _ _ h => h) (Or.inl ⟨by rfl, ?_⟩) ?_ ?_
            rotate_left
            ·intro w'
             go_simp
             with_reducible rfl
            rotate_left
            ·simp only [Act.put, List.setIfInBounds_toArray, List.set_cons_zero, List.set_cons_succ, i64_w, i32_w]
             rfl
            refine pure_ (i := 23) (N := some 46) (v := ?_) (a' := ?_) #[true, true, true, true, true, true, true, true, true, true, true, true, true, true, true, true, true, true, true, true, true, true, true, true, false, false, false, false, false, false, false, false, false, false, false, false, false, false, false, false, false, false, false, false, false, false, false, false, false, false, false] rfl rfl (any_of HT_.out (by kernel_rfl)) (fun _ _ _ h => h) (Or.inl ⟨by rfl, ?_⟩) ?_ ?_
            rotate_left
            ·intro w'
             go_simp
             with_reducible rfl
            rotate_left
            ·simp only [Act.put, List.setIfInBounds_toArray, List.set_cons_zero, List.set_cons_succ, i64_w, i32_w]
             rfl
            refine pure_ (i := 24) (N := some 47) (v := ?_) (a' := ?_) #[true, true, true, true, true, true, true, true, true, true, true, true, true, true, true, true, true, true, true, true, true, true, true, true, true, false, false, false, false, false, false, false, false, false, false, false, false, false, false, false, false, false, false, false, false, false, false, false, false, false, false] rfl rfl (any_of HT_.out (by kernel_rfl)) (fun _ _ _ h => h) (Or.inl ⟨by rfl, ?_⟩) ?_ ?_
            rotate_left
            ·intro w'
             go_simp
             with_reducible rfl
            rotate_left
            ·simp only [Act.put, List.setIfInBounds_toArray, List.set_cons_zero, List.set_cons_succ, i64_w, i32_w]
             rfl
            refine pure_ (i := 25) (N := some 48) (v := ?_) (a' := ?_) #[true, true, true, true, true, true, true, true, true, true, true, true, true, true, true, true, true, true, true, true, true, true, true, true, true, true, false, false, false, false, false, false, false, false, false, false, false, false, false, false, false, false, false, false, false, false, false, false, false, false, false] rfl rfl (any_of HT_.out (by kernel_rfl)) (fun _ _ _ h => h) (Or.inl ⟨by rfl, ?_⟩) ?_ ?_
            rotate_left
            ·intro w'
             go_simp
             with_reducible rfl
            rotate_left
            ·simp only [Act.put, List.setIfInBounds_toArray, List.set_cons_zero, List.set_cons_succ, i64_w, i32_w]
             rfl
            refine pure_ (i := 26) (N := some 49) (v := ?_) (a' := ?_) #[true, true, true, true, true, true, true, true, true, true, true, true, true, true, true, true, true, true, true, true, true, true, true, true, true, true, true, false, false, false, false, false, false, false, false, false, false, false, false, false, false, false, false, false, false, false, false, false, false, false, false] rfl rfl (any_of HT_.out (by kernel_rfl)) (fun _ _ _ h => h) (Or.inl ⟨by rfl, ?_⟩) ?_ ?_
            rotate_left
            ·intro w'
             go_simp
             with_reducible rfl
            rotate_left
            ·simp only [Act.put, List.setIfInBounds_toArray, List.set_cons_zero, List.set_cons_succ, i64_w, i32_w]
             rfl
            refine pure_ (i := 27) (N := some 50) (v := ?_) (a' := ?_) #[true, true, true, true, true, true, true, true, true, true, true, true, true, true, true, true, true, true, true, true, true, true, true, true, true, true, true, true, false, false, false, false, false, false, false, false, false, false, false, false, false, false, false, false, false, false, false, false, false, false, false] rfl rfl (any_of HT_.out (by kernel_rfl)) (fun _ _ _ h => h) (Or.inl ⟨by rfl, ?_⟩) ?_ ?_
            rotate_left
            ·intro w'
             go_simp
             with_reducible rfl
            rotate_left
            ·simp only [Act.put, List.setIfInBounds_toArray, List.set_cons_zero, List.set_cons_succ, i64_w, i32_w]
             rfl
            refine pure_ (i := 28) (N := some 51) (v := ?_) (a' := ?_) #[true, true, true, true, true, true, true, true, true, true, true, true, true, true, true, true, true, true, true, true, true, true, true, true, true, true, true, true, true, false, false, false, false, false, false, false, false, false, false, false, false, false, false, false, false, false, false, false, false, false, false] rfl rfl (any_of HT_.out (by kernel_rfl)) (fun _ _ _ h => h) (Or.inl ⟨by rfl, ?_⟩) ?_ ?_
            rotate_left
            ·intro w'
             go_simp
             with_reducible rfl
            rotate_left
            ·simp only [Act.put, List.setIfInBounds_toArray, List.set_cons_zero, List.set_cons_succ, i64_w, i32_w]
             rfl
            refine pure_ (i := 29) (N := some 52) (v := ?_) (a' := ?_) #[true, true, true, true, true, true, true, true, true, true, true, true, true, true, true, true, true, true, true, true, true, true, true, true, true, true, true, true, true, true, false, false, false, false, false, false, false, false, false, false, false, false, false, false, false, false, false, false, false, false, false] rfl rfl (any_of HT_.out (by kernel_rfl)) (fun _ _ _ h => h) (Or.inl ⟨by rfl, ?_⟩) ?_ ?_
            rotate_left
            ·intro w'
             go_simp
             with_reducible rfl
            rotate_left
            ·simp only [Act.put, List.setIfInBounds_toArray, List.set_cons_zero, List.set_cons_succ, i64_w, i32_w]
             rfl
            refine pure_ (i := 30) (N := some 53) (v := ?_) (a' := ?_) #[true, true, true, true, true, true, true, true, true, true, true, true, true, true, true, true, true, true, true, true, true, true, true, true, true, true, true, true, true, true, true, false, false, false, false, false, false, false, false, false, false, false, false, false, false, false, false, false, false, false, false] rfl rfl (any_of HT_.out (by kernel_rfl)) (fun _ _ _ h => h) (Or.inl ⟨by rfl, ?_⟩) ?_ ?_
            rotate_left
            ·intro w'
             go_simp
             with_reducible rfl
            rotate_left
            ·simp only [Act.put, List.setIfInBounds_toArray, List.set_cons_zero, List.set_cons_succ, i64_w, i32_w]
             rfl
            refine pure_ (i := 31) (N := some 54) (v := ?_) (a' := ?_) #[true, true, true, true, true, true, true, true, true, true, true, true, true, true, true, true, true, true, true, true, true, true, true, true, true, true, true, true, true, true, true, true, false, false, false, false, false, false, false, false, false, false, false, false, false, false, false, false, false, false, false] rfl rfl (any_of HT_.out (by kernel_rfl)) (fun _ _ _ h => h) (Or.inl ⟨by rfl, ?_⟩) ?_ ?_
            rotate_left
            ·intro w'
             go_simp
             with_reducible rfl
            rotate_left
            ·simp only [Act.put, List.setIfInBounds_toArray, List.set_cons_zero, List.set_cons_succ, i64_w, i32_w]
             rfl
            refine pure_ (i := 32) (N := some 55) (v := ?_) (a' := ?_) #[true, true, true, true, true, true, true, true, true, true, true, true, true, true, true, true, true, true, true, true, true, true, true, true, true, true, true, true, true, true, true, true, true, false, false, false, false, false, false, false, false, false, false, false, false, false, false, false, false, false, false] rfl rfl (any_of HT_.out (by kernel_rfl)) (fun _ _ _ h => h) (Or.inl ⟨by rfl, ?_⟩) ?_ ?_
            rotate_left
            ·intro w'
             go_simp
             with_reducible rfl
            rotate_left
            ·simp only [Act.put, List.setIfInBounds_toArray, List.set_cons_zero, List.set_cons_succ, i64_w, i32_w]
             rfl
            refine take_ (i := 33) (N := some 56) (v := ?_) (a' := ?_) #[true, true, true, true, true, true, true, true, true, true, true, true, true, true, true, true, true, true, true, true, true, true, true, true, true, true, true, true, true, true, true, true, true, true, false, false, false, false, false, false, false, false, false, false, false, false, false, false, false, false, false] rfl rfl (take_ofW HT_.out HW_.out (by kernel_rfl)) (fun _ _ _ h => h) (Or.inl ⟨by rfl, ?_⟩) hHeld ?_ ?_
            rotate_left
            ·rintro w' ⟨s0, s1, s2, s3, s4, s5, s6, s7, s8, s9, s10, s11, s12, s13, s14⟩
             go_simp
             with_reducible rfl
            rotate_left
            ·simp only [Act.put, List.setIfInBounds_toArray, List.set_cons_zero, List.set_cons_succ, i64_w, i32_w]
             rfl
            refine pure_ (i := 34) (N := some 57) (v := ?_) (a' := ?_) #[true, true, true, true, true, true, true, true, true, true, true, true, true, true, true, true, true, true, true, true, true, true, true, true, true, true, true, true, true, true, true, true, true, true, true, false, false, false, false, false, false, false, false, false, false, false, false, false, false, false, false] rfl rfl (any_of HT_.out (by kernel_rfl)) (fun _ _ _ h => h) (Or.inl ⟨by rfl, ?_⟩) ?_ ?_
            rotate_left
            ·intro w'
             go_simp
             with_reducible rfl
            rotate_left
            ·simp only [Act.put, List.setIfInBounds_toArray, List.set_cons_zero, List.set_cons_succ, i64_w, i32_w]
             rfl
            refine pure_ (i := 35) (N := some 58) (v := ?_) (a' := ?_) #[true, true, true, true, true, true, true, true, true, true, true, true, true, true, true, true, true, true, true, true, true, true, true, true, true, true, true, true, true, true, true, true, true, true, true, true, false, false, false, false, false, false, false, false, false, false, false, false, false, false, false] rfl rfl (any_of HT_.out (by kernel_rfl)) (fun _ _ _ h => h) (Or.inl ⟨by rfl, ?_⟩) ?_ ?_
            rotate_left
            ·intro w'
             go_simp
             with_reducible rfl
            rotate_left
            ·simp only [Act.put, List.setIfInBounds_toArray, List.set_cons_zero, List.set_cons_succ, i64_w, i32_w]
             rfl
            refine pure_ (i := 36) (N := some 59) (v := ?_) (a' := ?_) #[true, true, true, true, true, true, true, true, true, true, true, true, true, true, true, true, true, true, true, true, true, true, true, true, true, true, true, true, true, true, true, true, true, true, true, true, true, false, false, false, false, false, false, false, false, false, false, false, false, false, false] rfl rfl (any_of HT_.out (by kernel_rfl)) (fun _ _ _ h => h) (Or.inl ⟨by rfl, ?_⟩) ?_ ?_
            rotate_left
            ·intro w'
             go_simp
             with_reducible rfl
            rotate_left
            ·simp only [Act.put, List.setIfInBounds_toArray, List.set_cons_zero, List.set_cons_succ, i64_w, i32_w]
             rfl
            refine pure_ (i := 37) (N := some 60) (v := ?_) (a' := ?_) #[true, true, true, true, true, true, true, true, true, true, true, true, true, true, true, true, true, true, true, true, true, true, true, true, true, true, true, true, true, true, true, true, true, true, true, true, true, true, false, false, false, false, false, false, false, false, false, false, false, false, false] rfl rfl (any_of HT_.out (by kernel_rfl)) (fun _ _ _ h => h) (Or.inl ⟨by rfl, ?_⟩) ?_ ?_
            rotate_left
            ·intro w'
             go_simp
             with_reducible rfl
            rotate_left
            ·simp only [Act.put, List.setIfInBounds_toArray, List.set_cons_zero, List.set_cons_succ, i64_w, i32_w]
             rfl
            refine one_ (i := 38) (N := some 61) #[true, true, true, true, true, true, true, true, true, true, true, true, true, true, true, true, true, true, true, true, true, true, true, true, true, true, true, true, true, true, true, true, true, true, true, true, true, true, true, false, false, false, false, false, false, false, false, false, false, false, false] rfl rfl (one_of HT_.out (by kernel_rfl)) (by decide) (fun K hK => ?_)
            refine goes_ Try.func14 (by kernel_rfl) rfl #[.slice (some ad190) y175.length co26, .string (⟨#[98]⟩ : ByteArray), .string (⟨#[]⟩ : ByteArray)] (by rfl) rfl rfl (by (try simp only [List.map_toArray, List.map_cons, List.map_nil]); first | done | rfl | (simp only [List.length_drop, List.length_take]; rfl)) ?_
            with_reducible refine (judge_Part.calls k _ _ y175 (⟨#[98]⟩ : ByteArray) (⟨#[]⟩ : ByteArray) t199 _ ?side1 ?side2 A16.out).mono ?_
            (case side1 => repeat (first | exact (Kd.R_reads' HO177.out).2.2 | (with_reducible refine Kd.C_alloc ?_ _) | (with_reducible refine Kd.C_drewN ?_ _) | (with_reducible refine Kd.C_drew ?_)))
            (case side2 => exact (Kd.R_reads' HO177.out).2.1)
            rintro e w43 ⟨v200, rfl, ho0, hb⟩
            have HS3_ := (hb.cell (World.block_lt_of_cell? _ _ (hHeld.2.2.2.1))).trans (hHeld.2.2.2.1)
            have HS4_ := (hb.cell (World.block_lt_of_cell? _ _ (hHeld.2.2.2.2.1))).trans (hHeld.2.2.2.2.1)
            have HS5_ := (hb.cell (World.block_lt_of_cell? _ _ (hHeld.2.2.2.2.2.1))).trans (hHeld.2.2.2.2.2.1)
            have HS6_ := (hb.cell (World.block_lt_of_cell? _ _ (hHeld.2.2.2.2.2.2.1))).trans (hHeld.2.2.2.2.2.2.1)
            have HS7_ := (hb.cell (World.block_lt_of_cell? _ _ (hHeld.2.2.2.2.2.2.2.1))).trans (hHeld.2.2.2.2.2.2.2.1)
            have HS8_ := (hb.cell (World.block_lt_of_cell? _ _ (hHeld.2.2.2.2.2.2.2.2.1))).trans (hHeld.2.2.2.2.2.2.2.2.1)
            have HS9_ := (hb.cell (World.block_lt_of_cell? _ _ (hHeld.2.2.2.2.2.2.2.2.2.1))).trans (hHeld.2.2.2.2.2.2.2.2.2.1)
            have HS10_ := (hb.cell (World.block_lt_of_cell? _ _ (hHeld.2.2.2.2.2.2.2.2.2.2.1))).trans (hHeld.2.2.2.2.2.2.2.2.2.2.1)
            have HS11_ := (hb.cell (World.block_lt_of_cell? _ _ (hHeld.2.2.2.2.2.2.2.2.2.2.2.1))).trans (hHeld.2.2.2.2.2.2.2.2.2.2.2.1)
            have HS12_ := (hb.cell (World.block_lt_of_cell? _ _ (hHeld.2.2.2.2.2.2.2.2.2.2.2.2.1))).trans (hHeld.2.2.2.2.2.2.2.2.2.2.2.2.1)
            have HS13_ := (hb.cell (World.block_lt_of_cell? _ _ (hHeld.2.2.2.2.2.2.2.2.2.2.2.2.2.1))).trans (hHeld.2.2.2.2.2.2.2.2.2.2.2.2.2.1)
            have HS14_ := (hb.cell (World.block_lt_of_cell? _ _ (hHeld.2.2.2.2.2.2.2.2.2.2.2.2.2.2))).trans (hHeld.2.2.2.2.2.2.2.2.2.2.2.2.2.2)
            refine ⟨_, rfl, ?_⟩
            have HO201 := Aside0.mk (Kd.R_lower (Kd.R_new' (Kd.R_new' (Kd.R_new' (Kd.R_new' ho0 (Kd.R_lt (by (with_reducible repeat (first | apply Kd.R_alloc | apply Kd.R_drewN | apply Kd.R_drew)); exact HO177.out))) (Kd.R_lt (by (with_reducible repeat (first | apply Kd.R_alloc | apply Kd.R_drewN | apply Kd.R_drew)); exact HO180.out))) (Kd.R_lt (by (with_reducible repeat (first | apply Kd.R_alloc | apply Kd.R_drewN | apply Kd.R_drew)); exact HO183.out))) (Kd.R_lt (by (with_reducible repeat (first | apply Kd.R_alloc | apply Kd.R_drewN | apply Kd.R_drew)); exact HO194.out))) (below_size (bC HB)))
            replace HO177 := Aside0.mk (Kd.R_elder' (by (with_reducible repeat (first | apply Kd.R_alloc | apply Kd.R_drewN | apply Kd.R_drew)); exact HO177.out) (Kd.R_base ho0) hb)
            replace HO180 := Aside0.mk (Kd.R_elder' (by (with_reducible repeat (first | apply Kd.R_alloc | apply Kd.R_drewN | apply Kd.R_drew)); exact HO180.out) (Kd.R_base ho0) hb)
            replace HO183 := Aside0.mk (Kd.R_elder' (by (with_reducible repeat (first | apply Kd.R_alloc | apply Kd.R_drewN | apply Kd.R_drew)); exact HO183.out) (Kd.R_base ho0) hb)
            replace HO194 := Aside0.mk (Kd.R_elder' (by (with_reducible repeat (first | apply Kd.R_alloc | apply Kd.R_drewN | apply Kd.R_drew)); exact HO194.out) (Kd.R_base ho0) hb)
            replace BK174 := bB BK174 hb
            replace BK188 := bB BK188 hb
            replace HB := bW HB hb
            (try clear hb)
            (try clear hb2)
            (try clear hk)
            (try clear hi)
            (try clear ho0)
            obtain ⟨Ao44, co44, eo44⟩ := Kd.R_slice HO201.out
            (first | subst eo44 | (injection eo44 with f1_ f2_ f3_; have f4_ := f1_.symm; have f5_ := f3_.symm; clear f1_ f2_ f3_; subst f4_; subst f5_))
            refine hK.out _ _ (bn3 BK188 ⟨HS3_, HS4_, HS5_, HS6_, HS7_, HS8_, HS9_, HS10_, HS11_, HS12_, HS13_, HS14_⟩) (fun hHeld => ?_)
            clear hK K
            refine norm_ (a' := ?_) ?_ ?_
            rotate_left
            ·show Act.put _ (some 61) _ = _
             simp only [Act.put, List.setIfInBounds_toArray, List.set_cons_zero, List.set_cons_succ, i64_w, i32_w]
             rfl
            refine pure_ (i := 39) (N := some 62) (v := ?_) (a' := ?_) #[true, true, true, true, true, true, true, true, true, true, true, true, true, true, true, true, true, true, true, true, true, true, true, true, true, true, true, true, true, true, true, true, true, true, true, true, true, true, true, true, false, false, false, false, false, false, false, false, false, false, false] rfl rfl (any_of HT_.out (by kernel_rfl)) (fun _ _ _ h => h) (Or.inl ⟨by rfl, ?_⟩) ?_ ?_
            rotate_left
            ·intro w'
             go_simp
             with_reducible rfl
            rotate_left
            ·simp only [Act.put, List.setIfInBounds_toArray, List.set_cons_zero, List.set_cons_succ, i64_w, i32_w]
             rfl
            refine pure_ (i := 40) (N := some 63) (v := ?_) (a' := ?_) #[true, true, true, true, true, true, true, true, true, true, true, true, true, true, true, true, true, true, true, true, true, true, true, true, true, true, true, true, true, true, true, true, true, true, true, true, true, true, true, true, true, false, false, false, false, false, false, false, false, false, false] rfl rfl (any_of HT_.out (by kernel_rfl)) (fun _ _ _ h => h) (Or.inl ⟨by rfl, ?_⟩) ?_ ?_
            rotate_left
            ·intro w'
             go_simp
             with_reducible rfl
            rotate_left
            ·simp only [Act.put, List.setIfInBounds_toArray, List.set_cons_zero, List.set_cons_succ, i64_w, i32_w]
             rfl
            refine pure_ (i := 41) (N := some 64) (v := ?_) (a' := ?_) #[true, true, true, true, true, true, true, true, true, true, true, true, true, true, true, true, true, true, true, true, true, true, true, true, true, true, true, true, true, true, true, true, true, true, true, true, true, true, true, true, true, true, false, false, false, false, false, false, false, false, false] rfl rfl (any_of HT_.out (by kernel_rfl)) (fun _ _ _ h => h) (Or.inl ⟨by rfl, ?_⟩) ?_ ?_
            rotate_left
            ·intro w'
             go_simp
             with_reducible rfl
            rotate_left
            ·simp only [Act.put, List.setIfInBounds_toArray, List.set_cons_zero, List.set_cons_succ, i64_w, i32_w]
             rfl
            refine pure_ (i := 42) (N := some 65) (v := ?_) (a' := ?_) #[true, true, true, true, true, true, true, true, true, true, true, true, true, true, true, true, true, true, true, true, true, true, true, true, true, true, true, true, true, true, true, true, true, true, true, true, true, true, true, true, true, true, true, false, false, false, false, false, false, false, false] rfl rfl (any_of HT_.out (by kernel_rfl)) (fun _ _ _ h => h) (Or.inl ⟨by rfl, ?_⟩) ?_ ?_
            rotate_left
            ·intro w'
             go_simp
             with_reducible rfl
            rotate_left
            ·simp only [Act.put, List.setIfInBounds_toArray, List.set_cons_zero, List.set_cons_succ, i64_w, i32_w]
             rfl
            refine pure_ (i := 43) (N := some 66) (v := ?_) (a' := ?_) #[true, true, true, true, true, true, true, true, true, true, true, true, true, true, true, true, true, true, true, true, true, true, true, true, true, true, true, true, true, true, true, true, true, true, true, true, true, true, true, true, true, true, true, true, false, false, false, false, false, false, false] rfl rfl (any_of HT_.out (by kernel_rfl)) (fun _ _ _ h => h) (Or.inl ⟨by rfl, ?_⟩) ?_ ?_
            rotate_left
            ·intro w'
             go_simp
             with_reducible rfl
            rotate_left
            ·simp only [Act.put, List.setIfInBounds_toArray, List.set_cons_zero, List.set_cons_succ, i64_w, i32_w]
             rfl
            refine pure_ (i := 44) (N := some 67) (v := ?_) (a' := ?_) #[true, true, true, true, true, true, true, true, true, true, true, true, true, true, true, true, true, true, true, true, true, true, true, true, true, true, true, true, true, true, true, true, true, true, true, true, true, true, true, true, true, true, true, true, true, false, false, false, false, false, false] rfl rfl (any_of HT_.out (by kernel_rfl)) (fun _ _ _ h => h) (Or.inl ⟨by rfl, ?_⟩) ?_ ?_
            rotate_left
            ·intro w'
             go_simp
             with_reducible rfl
            rotate_left
            ·simp only [Act.put, List.setIfInBounds_toArray, List.set_cons_zero, List.set_cons_succ, i64_w, i32_w]
             rfl
            refine pure_ (i := 45) (N := some 68) (v := ?_) (a' := ?_) #[true, true, true, true, true, true, true, true, true, true, true, true, true, true, true, true, true, true, true, true, true, true, true, true, true, true, true, true, true, true, true, true, true, true, true, true, true, true, true, true, true, true, true, true, true, true, false, false, false, false, false] rfl rfl (any_of HT_.out (by kernel_rfl)) (fun _ _ _ h => h) (Or.inl ⟨by rfl, ?_⟩) ?_ ?_
            rotate_left
            ·intro w'
             go_simp
             with_reducible rfl
            rotate_left
            ·simp only [Act.put, List.setIfInBounds_toArray, List.set_cons_zero, List.set_cons_succ, i64_w, i32_w]
             rfl
            refine pure_ (i := 46) (N := some 69) (v := ?_) (a' := ?_) #[true, true, true, true, true, true, true, true, true, true, true, true, true, true, true, true, true, true, true, true, true, true, true, true, true, true, true, true, true, true, true, true, true, true, true, true, true, true, true, true, true, true, true, true, true, true, true, false, false, false, false] rfl rfl (any_of HT_.out (by kernel_rfl)) (fun _ _ _ h => h) (Or.inl ⟨by rfl, ?_⟩) ?_ ?_
            rotate_left
            ·intro w'
             go_simp
             with_reducible rfl
            rotate_left
            ·simp only [Act.put, List.setIfInBounds_toArray, List.set_cons_zero, List.set_cons_succ, i64_w, i32_w]
             rfl
            refine take_ (i := 47) (N := some 70) (v := ?_) (a' := ?_) #[true, true, true, true, true, true, true, true, true, true, true, true, true, true, true, true, true, true, true, true, true, true, true, true, true, true, true, true, true, true, true, true, true, true, true, true, true, true, true, true, true, true, true, true, true, true, true, true, false, false, false] rfl rfl (take_ofW HT_.out HW_.out (by kernel_rfl)) (fun _ _ _ h => h) (Or.inl ⟨by rfl, ?_⟩) hHeld ?_ ?_
            rotate_left
            ·rintro w' ⟨s0, s1, s2, s3, s4, s5, s6, s7, s8, s9, s10, s11, s12, s13, s14⟩
             go_simp
             with_reducible rfl
            rotate_left
            ·simp only [Act.put, List.setIfInBounds_toArray, List.set_cons_zero, List.set_cons_succ, i64_w, i32_w]
             rfl
            refine pure_ (i := 48) (N := some 71) (v := ?_) (a' := ?_) #[true, true, true, true, true, true, true, true, true, true, true, true, true, true, true, true, true, true, true, true, true, true, true, true, true, true, true, true, true, true, true, true, true, true, true, true, true, true, true, true, true, true, true, true, true, true, true, true, true, false, false] rfl rfl (any_of HT_.out (by kernel_rfl)) (fun _ _ _ h => h) (Or.inl ⟨by rfl, ?_⟩) ?_ ?_
            rotate_left
            ·intro w'
             go_simp
             with_reducible rfl
            rotate_left
            ·simp only [Act.put, List.setIfInBounds_toArray, List.set_cons_zero, List.set_cons_succ, i64_w, i32_w]
             rfl
            refine pure_ (i := 49) (N := some 72) (v := ?_) (a' := ?_) #[true, true, true, true, true, true, true, true, true, true, true, true, true, true, true, true, true, true, true, true, true, true, true, true, true, true, true, true, true, true, true, true, true, true, true, true, true, true, true, true, true, true, true, true, true, true, true, true, true, true, false] rfl rfl (any_of HT_.out (by kernel_rfl)) (fun _ _ _ h => h) (Or.inl ⟨by rfl, ?_⟩) ?_ ?_
            rotate_left
            ·intro w'
             go_simp
             with_reducible rfl
            rotate_left
            ·simp only [Act.put, List.setIfInBounds_toArray, List.set_cons_zero, List.set_cons_succ, i64_w, i32_w]
             rfl
            refine pure_ (i := 50) (N := some 0) (v := ?_) (a' := ?_) #[true, true, true, true, true, true, true, true, true, true, true, true, true, true, true, true, true, true, true, true, true, true, true, true, true, true, true, true, true, true, true, true, true, true, true, true, true, true, true, true, true, true, true, true, true, true, true, true, true, true, true] rfl rfl (any_of HT_.out (by kernel_rfl)) (fun _ _ _ h => h) (Or.inl ⟨by rfl, ?_⟩) ?_ ?_
            rotate_left
            ·intro w'
             go_simp
             with_reducible rfl
            rotate_left
            ·simp only [Act.put, List.setIfInBounds_toArray, List.set_cons_zero, List.set_cons_succ, i64_w, i32_w]
             rfl
            refine done_ (done_of HT_.out (by kernel_rfl)) ?_
            try go_wp2
            go_ret
            exact ⟨by first | rfl | (simp [errW_none, errW_some] <;> rfl) | (simp [*, errW_none, errW_some] <;> rfl), by repeat (first | (with_reducible first | exact HB.out | apply below_alloc | apply pw_below_drewN | apply below_drew1 | refine below_set ?_ GE174.out | refine below_set ?_ GE188.out) | exact HB.out)⟩
           ·replace c18 := Bool.eq_false_iff.mpr c18
            subst c18
            have H1 : (none) = some r := by rw [if_neg (show ¬ (false = true) by decide)] at H; exact H
            clear H
            have H := H1
            clear H1
            exact absurd H (by simp)
          ·rw [if_neg c17] at H
           have c17b0 : ((t199.length : Int) == 1) = false := beq_eq_false_iff_ne.mpr c17
           have c17b1 : ((t199.length : Int) != 1) = true := bne_iff_ne.mpr c17
           exact absurd H (by simp)
         ·rw [if_neg c15] at H
          have c15b0 : (((rd_T38 t181 1).f0).toList == ([99] : List UInt8)) = false := beq_eq_false_iff_ne.mpr c15
          have c15b1 : (((rd_T38 t181 1).f0).toList != ([99] : List UInt8)) = true := bne_iff_ne.mpr c15
          exact absurd H (by simp)
        ·rw [if_neg c14] at H
         exact absurd H (by simp)
       ·rw [if_neg c13] at H
        have c13b0 : ((t181.length : Int) == 2) = false := beq_eq_false_iff_ne.mpr c13
        have c13b1 : ((t181.length : Int) != 2) = true := bne_iff_ne.mpr c13
        exact absurd H (by simp)
     ·replace c10 := Bool.eq_false_iff.mpr c10
      subst c10
      have H1 : (none) = some r := by rw [if_neg (show ¬ (false = true) by decide)] at H; exact H
      clear H
      have H := H1
      clear H1
      exact absurd H (by simp)
   ·rw [if_neg c6] at H
    exact absurd H (by simp)
  ·rw [if_neg c5] at H
   exact absurd H (by simp)
 ·replace c4 := Bool.eq_false_iff.mpr c4
  subst c4
  have H1 : (none) = some r := by rw [if_neg (show ¬ (false = true) by decide)] at H; exact H
  clear H
  have H := H1
  clear H1
  exact absurd H (by simp)

end Go.Proofs.Ytppbdngfiphliaa.P
