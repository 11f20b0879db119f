/- Functions of the program as Lean functions, and that each call answers as its function does. No condition. (Lines written by a generator of this session.) -/
import Derived.Test.YtaphfjfalbeojaaPx0
import Derived.Test.YtaphfjfalbeojaaPx1
import Derived.Test.YtaphfjfalbeojaaXF
namespace Go.Proofs.Ytaphfjfalbeojaa.P
open Go.RowKit Go.Proofs.YtaphfjfalbeojaaW.PrintWords Go.Proofs.YtaphfjfalbeojaaW.PrintLast Go.Proofs.YtaphfjfalbeojaaW.PrintMore
attribute [local go_sem] max2_int min2_int max_two min_two max_three min_three max_four min_four   -- for this text's walks alone
attribute [local go_sem] x_str_gtr x_str_leq x_str_geq ext_bits ext_frombits ext_neg Instr.field asAgg
set_option linter.unusedVariables false
set_option linter.unusedSimpArgs false

-- BY HAND: function 29 (float_Sum)

/-! ### engrosslaw3_begun: function 15 -/
def engrosslaw3_begun.f (k : Nat)  : Option (Bool) := (float_Bytes.f k 9223372036854775808).bind fun t118 => ((float_Of.f k t118).bind fun bt121 => ((float_Less.f 18444492273895866369 (Op.negFloat .f64 9218868437227405312)).bind fun t123 => (if t123 = true then ((float_Less.f (Op.negFloat .f64 9218868437227405312) 13830554455654793216).bind fun t124 => (if t124 = true then ((float_Less.f 9223372036854775808 0).bind fun t125 => (if t125 = true then ((float_Less.f 0 9223372036854775808).bind fun t126 => (if t126 = true then (none) else ((float_Less.f 4607182418800017408 9218868437227405312).bind fun t127 => (if t127 = true then ((float_Clean.f 18444492273895866369).bind fun t128 => ((float_Same.f 18444492273895866369 t128).bind fun t129 => (if t129 = true then ((float_Same.f 9223372036854775808 0).bind fun t130 => (if t130 = true then (none) else (if bt121.2 = true then ((engrossref1_Bits.f bt121.1 9223372036854775808).bind fun t131 => (if t131 = true then ((float_Bytes.f k 4607182418800017408).bind fun t132 => (if (t132.length : Int) = 8 then ((float_Sum.f (([9223372036854775808] : List Nat))).bind fun t138 => ((engrossref1_Bits.f t138 0).bind fun t139 => (some t139))) else (none))) else (none))) else (none)))) else (none)))) else (none))))) else (none))) else (none))) else (none))))
theorem engrosslaw3_begun.mono : ∀ k, LeO (engrosslaw3_begun.f k ) (engrosslaw3_begun.f (k + 1) ) := by
 intro  k
 unfold engrosslaw3_begun.f
 repeat' first
   | (with_reducible exact float_Bytes.mono _ _)
   | (with_reducible exact float_Of.mono _ _)
   | (with_reducible exact LeO.refl _)
   | (with_reducible exact LeO.none _)
   | (with_reducible refine LeO.ite ?_ ?_)
   | (with_reducible refine LeO.bind ?_ (fun _ => ?_))
   | exact float_Bytes.mono _ _
   | exact float_Of.mono _ _
   | exact LeO.none _
   | refine LeO.ite ?_ ?_
   | refine LeO.bind ?_ (fun _ => ?_)
set_option maxHeartbeats 8000000 in
set_option maxRecDepth 100000 in
theorem engrosslaw3_begun.calls (k : Nat)  (r : Bool) (w : World) (h : engrosslaw3_begun.f k  = some r) :
  Calls Try.prog 15 #[] w fun e w' => e = .returned (.bool r) ∧ Below w.heap.size w w' := by
 have HB := Aside0.mk (Below.refl w.heap.size w)
 have H : ((float_Bytes.f k 9223372036854775808).bind fun t118 => ((float_Of.f k t118).bind fun bt121 => ((float_Less.f 18444492273895866369 (Op.negFloat .f64 9218868437227405312)).bind fun t123 => (if t123 = true then ((float_Less.f (Op.negFloat .f64 9218868437227405312) 13830554455654793216).bind fun t124 => (if t124 = true then ((float_Less.f 9223372036854775808 0).bind fun t125 => (if t125 = true then ((float_Less.f 0 9223372036854775808).bind fun t126 => (if t126 = true then (none) else ((float_Less.f 4607182418800017408 9218868437227405312).bind fun t127 => (if t127 = true then ((float_Clean.f 18444492273895866369).bind fun t128 => ((float_Same.f 18444492273895866369 t128).bind fun t129 => (if t129 = true then ((float_Same.f 9223372036854775808 0).bind fun t130 => (if t130 = true then (none) else (if bt121.2 = true then ((engrossref1_Bits.f bt121.1 9223372036854775808).bind fun t131 => (if t131 = true then ((float_Bytes.f k 4607182418800017408).bind fun t132 => (if (t132.length : Int) = 8 then ((float_Sum.f (([9223372036854775808] : List Nat))).bind fun t138 => ((engrossref1_Bits.f t138 0).bind fun t139 => (some t139))) else (none))) else (none))) else (none)))) else (none)))) else (none))))) else (none))) else (none))) else (none))))) = some r := h
 clear h
 replace H := Option.bind_eq_some_iff.mp H
 obtain ⟨t118, A10, H⟩ := H
 replace H : ((float_Of.f k t118).bind fun bt121 => ((float_Less.f 18444492273895866369 (Op.negFloat .f64 9218868437227405312)).bind fun t123 => (if t123 = true then ((float_Less.f (Op.negFloat .f64 9218868437227405312) 13830554455654793216).bind fun t124 => (if t124 = true then ((float_Less.f 9223372036854775808 0).bind fun t125 => (if t125 = true then ((float_Less.f 0 9223372036854775808).bind fun t126 => (if t126 = true then (none) else ((float_Less.f 4607182418800017408 9218868437227405312).bind fun t127 => (if t127 = true then ((float_Clean.f 18444492273895866369).bind fun t128 => ((float_Same.f 18444492273895866369 t128).bind fun t129 => (if t129 = true then ((float_Same.f 9223372036854775808 0).bind fun t130 => (if t130 = true then (none) else (if bt121.2 = true then ((engrossref1_Bits.f bt121.1 9223372036854775808).bind fun t131 => (if t131 = true then ((float_Bytes.f k 4607182418800017408).bind fun t132 => (if (t132.length : Int) = 8 then ((float_Sum.f (([9223372036854775808] : List Nat))).bind fun t138 => ((engrossref1_Bits.f t138 0).bind fun t139 => (some t139))) else (none))) else (none))) else (none)))) else (none)))) else (none))))) else (none))) else (none))) else (none)))) = some r := H
 have A1 := Aside0.mk A10
 clear A10
 replace H := Option.bind_eq_some_iff.mp H
 obtain ⟨⟨t121, t122⟩, A20, H⟩ := H
 replace H : ((float_Less.f 18444492273895866369 (Op.negFloat .f64 9218868437227405312)).bind fun t123 => (if t123 = true then ((float_Less.f (Op.negFloat .f64 9218868437227405312) 13830554455654793216).bind fun t124 => (if t124 = true then ((float_Less.f 9223372036854775808 0).bind fun t125 => (if t125 = true then ((float_Less.f 0 9223372036854775808).bind fun t126 => (if t126 = true then (none) else ((float_Less.f 4607182418800017408 9218868437227405312).bind fun t127 => (if t127 = true then ((float_Clean.f 18444492273895866369).bind fun t128 => ((float_Same.f 18444492273895866369 t128).bind fun t129 => (if t129 = true then ((float_Same.f 9223372036854775808 0).bind fun t130 => (if t130 = true then (none) else (if t122 = true then ((engrossref1_Bits.f t121 9223372036854775808).bind fun t131 => (if t131 = true then ((float_Bytes.f k 4607182418800017408).bind fun t132 => (if (t132.length : Int) = 8 then ((float_Sum.f (([9223372036854775808] : List Nat))).bind fun t138 => ((engrossref1_Bits.f t138 0).bind fun t139 => (some t139))) else (none))) else (none))) else (none)))) else (none)))) else (none))))) else (none))) else (none))) else (none))) = some r := H
 have A2 := Aside0.mk A20
 clear A20
 replace H := Option.bind_eq_some_iff.mp H
 obtain ⟨t123, A30, H⟩ := H
 replace H : (if t123 = true then ((float_Less.f (Op.negFloat .f64 9218868437227405312) 13830554455654793216).bind fun t124 => (if t124 = true then ((float_Less.f 9223372036854775808 0).bind fun t125 => (if t125 = true then ((float_Less.f 0 9223372036854775808).bind fun t126 => (if t126 = true then (none) else ((float_Less.f 4607182418800017408 9218868437227405312).bind fun t127 => (if t127 = true then ((float_Clean.f 18444492273895866369).bind fun t128 => ((float_Same.f 18444492273895866369 t128).bind fun t129 => (if t129 = true then ((float_Same.f 9223372036854775808 0).bind fun t130 => (if t130 = true then (none) else (if t122 = true then ((engrossref1_Bits.f t121 9223372036854775808).bind fun t131 => (if t131 = true then ((float_Bytes.f k 4607182418800017408).bind fun t132 => (if (t132.length : Int) = 8 then ((float_Sum.f (([9223372036854775808] : List Nat))).bind fun t138 => ((engrossref1_Bits.f t138 0).bind fun t139 => (some t139))) else (none))) else (none))) else (none)))) else (none)))) else (none))))) else (none))) else (none))) else (none)) = some r := H
 have A3 := Aside0.mk A30
 clear A30
 by_cases c4 : t123 = true
 ·subst c4
  have H1 : ((float_Less.f (Op.negFloat .f64 9218868437227405312) 13830554455654793216).bind fun t124 => (if t124 = true then ((float_Less.f 9223372036854775808 0).bind fun t125 => (if t125 = true then ((float_Less.f 0 9223372036854775808).bind fun t126 => (if t126 = true then (none) else ((float_Less.f 4607182418800017408 9218868437227405312).bind fun t127 => (if t127 = true then ((float_Clean.f 18444492273895866369).bind fun t128 => ((float_Same.f 18444492273895866369 t128).bind fun t129 => (if t129 = true then ((float_Same.f 9223372036854775808 0).bind fun t130 => (if t130 = true then (none) else (if t122 = true then ((engrossref1_Bits.f t121 9223372036854775808).bind fun t131 => (if t131 = true then ((float_Bytes.f k 4607182418800017408).bind fun t132 => (if (t132.length : Int) = 8 then ((float_Sum.f (([9223372036854775808] : List Nat))).bind fun t138 => ((engrossref1_Bits.f t138 0).bind fun t139 => (some t139))) else (none))) else (none))) else (none)))) else (none)))) else (none))))) else (none))) else (none))) = some r := by rw [if_pos rfl] at H; exact H
  clear H
  have H := H1
  clear H1
  replace H := Option.bind_eq_some_iff.mp H
  obtain ⟨t124, A50, H⟩ := H
  replace H : (if t124 = true then ((float_Less.f 9223372036854775808 0).bind fun t125 => (if t125 = true then ((float_Less.f 0 9223372036854775808).bind fun t126 => (if t126 = true then (none) else ((float_Less.f 4607182418800017408 9218868437227405312).bind fun t127 => (if t127 = true then ((float_Clean.f 18444492273895866369).bind fun t128 => ((float_Same.f 18444492273895866369 t128).bind fun t129 => (if t129 = true then ((float_Same.f 9223372036854775808 0).bind fun t130 => (if t130 = true then (none) else (if t122 = true then ((engrossref1_Bits.f t121 9223372036854775808).bind fun t131 => (if t131 = true then ((float_Bytes.f k 4607182418800017408).bind fun t132 => (if (t132.length : Int) = 8 then ((float_Sum.f (([9223372036854775808] : List Nat))).bind fun t138 => ((engrossref1_Bits.f t138 0).bind fun t139 => (some t139))) else (none))) else (none))) else (none)))) else (none)))) else (none))))) else (none))) else (none)) = some r := H
  have A5 := Aside0.mk A50
  clear A50
  by_cases c6 : t124 = true
  ·subst c6
   have H1 : ((float_Less.f 9223372036854775808 0).bind fun t125 => (if t125 = true then ((float_Less.f 0 9223372036854775808).bind fun t126 => (if t126 = true then (none) else ((float_Less.f 4607182418800017408 9218868437227405312).bind fun t127 => (if t127 = true then ((float_Clean.f 18444492273895866369).bind fun t128 => ((float_Same.f 18444492273895866369 t128).bind fun t129 => (if t129 = true then ((float_Same.f 9223372036854775808 0).bind fun t130 => (if t130 = true then (none) else (if t122 = true then ((engrossref1_Bits.f t121 9223372036854775808).bind fun t131 => (if t131 = true then ((float_Bytes.f k 4607182418800017408).bind fun t132 => (if (t132.length : Int) = 8 then ((float_Sum.f (([9223372036854775808] : List Nat))).bind fun t138 => ((engrossref1_Bits.f t138 0).bind fun t139 => (some t139))) else (none))) else (none))) else (none)))) else (none)))) else (none))))) else (none))) = some r := by rw [if_pos rfl] at H; exact H
   clear H
   have H := H1
   clear H1
   replace H := Option.bind_eq_some_iff.mp H
   obtain ⟨t125, A70, H⟩ := H
   replace H : (if t125 = true then ((float_Less.f 0 9223372036854775808).bind fun t126 => (if t126 = true then (none) else ((float_Less.f 4607182418800017408 9218868437227405312).bind fun t127 => (if t127 = true then ((float_Clean.f 18444492273895866369).bind fun t128 => ((float_Same.f 18444492273895866369 t128).bind fun t129 => (if t129 = true then ((float_Same.f 9223372036854775808 0).bind fun t130 => (if t130 = true then (none) else (if t122 = true then ((engrossref1_Bits.f t121 9223372036854775808).bind fun t131 => (if t131 = true then ((float_Bytes.f k 4607182418800017408).bind fun t132 => (if (t132.length : Int) = 8 then ((float_Sum.f (([9223372036854775808] : List Nat))).bind fun t138 => ((engrossref1_Bits.f t138 0).bind fun t139 => (some t139))) else (none))) else (none))) else (none)))) else (none)))) else (none))))) else (none)) = some r := H
   have A7 := Aside0.mk A70
   clear A70
   by_cases c8 : t125 = true
   ·subst c8
    have H1 : ((float_Less.f 0 9223372036854775808).bind fun t126 => (if t126 = true then (none) else ((float_Less.f 4607182418800017408 9218868437227405312).bind fun t127 => (if t127 = true then ((float_Clean.f 18444492273895866369).bind fun t128 => ((float_Same.f 18444492273895866369 t128).bind fun t129 => (if t129 = true then ((float_Same.f 9223372036854775808 0).bind fun t130 => (if t130 = true then (none) else (if t122 = true then ((engrossref1_Bits.f t121 9223372036854775808).bind fun t131 => (if t131 = true then ((float_Bytes.f k 4607182418800017408).bind fun t132 => (if (t132.length : Int) = 8 then ((float_Sum.f (([9223372036854775808] : List Nat))).bind fun t138 => ((engrossref1_Bits.f t138 0).bind fun t139 => (some t139))) else (none))) else (none))) else (none)))) else (none)))) else (none))))) = some r := by rw [if_pos rfl] at H; exact H
    clear H
    have H := H1
    clear H1
    replace H := Option.bind_eq_some_iff.mp H
    obtain ⟨t126, A90, H⟩ := H
    replace H : (if t126 = true then (none) else ((float_Less.f 4607182418800017408 9218868437227405312).bind fun t127 => (if t127 = true then ((float_Clean.f 18444492273895866369).bind fun t128 => ((float_Same.f 18444492273895866369 t128).bind fun t129 => (if t129 = true then ((float_Same.f 9223372036854775808 0).bind fun t130 => (if t130 = true then (none) else (if t122 = true then ((engrossref1_Bits.f t121 9223372036854775808).bind fun t131 => (if t131 = true then ((float_Bytes.f k 4607182418800017408).bind fun t132 => (if (t132.length : Int) = 8 then ((float_Sum.f (([9223372036854775808] : List Nat))).bind fun t138 => ((engrossref1_Bits.f t138 0).bind fun t139 => (some t139))) else (none))) else (none))) else (none)))) else (none)))) else (none)))) = some r := H
    have A9 := Aside0.mk A90
    clear A90
    by_cases c10 : t126 = true
    ·subst c10
     have H1 : (none) = some r := by rw [if_pos rfl] at H; exact H
     clear H
     have H := H1
     clear H1
     exact absurd H (by simp)
    ·replace c10 := Bool.eq_false_iff.mpr c10
     subst c10
     have H1 : ((float_Less.f 4607182418800017408 9218868437227405312).bind fun t127 => (if t127 = true then ((float_Clean.f 18444492273895866369).bind fun t128 => ((float_Same.f 18444492273895866369 t128).bind fun t129 => (if t129 = true then ((float_Same.f 9223372036854775808 0).bind fun t130 => (if t130 = true then (none) else (if t122 = true then ((engrossref1_Bits.f t121 9223372036854775808).bind fun t131 => (if t131 = true then ((float_Bytes.f k 4607182418800017408).bind fun t132 => (if (t132.length : Int) = 8 then ((float_Sum.f (([9223372036854775808] : List Nat))).bind fun t138 => ((engrossref1_Bits.f t138 0).bind fun t139 => (some t139))) else (none))) else (none))) else (none)))) else (none)))) else (none))) = some r := by rw [if_neg (show ¬ (false = true) by decide)] at H; exact H
     clear H
     have H := H1
     clear H1
     replace H := Option.bind_eq_some_iff.mp H
     obtain ⟨t127, A110, H⟩ := H
     replace H : (if t127 = true then ((float_Clean.f 18444492273895866369).bind fun t128 => ((float_Same.f 18444492273895866369 t128).bind fun t129 => (if t129 = true then ((float_Same.f 9223372036854775808 0).bind fun t130 => (if t130 = true then (none) else (if t122 = true then ((engrossref1_Bits.f t121 9223372036854775808).bind fun t131 => (if t131 = true then ((float_Bytes.f k 4607182418800017408).bind fun t132 => (if (t132.length : Int) = 8 then ((float_Sum.f (([9223372036854775808] : List Nat))).bind fun t138 => ((engrossref1_Bits.f t138 0).bind fun t139 => (some t139))) else (none))) else (none))) else (none)))) else (none)))) else (none)) = some r := H
     have A11 := Aside0.mk A110
     clear A110
     by_cases c12 : t127 = true
     ·subst c12
      have H1 : ((float_Clean.f 18444492273895866369).bind fun t128 => ((float_Same.f 18444492273895866369 t128).bind fun t129 => (if t129 = true then ((float_Same.f 9223372036854775808 0).bind fun t130 => (if t130 = true then (none) else (if t122 = true then ((engrossref1_Bits.f t121 9223372036854775808).bind fun t131 => (if t131 = true then ((float_Bytes.f k 4607182418800017408).bind fun t132 => (if (t132.length : Int) = 8 then ((float_Sum.f (([9223372036854775808] : List Nat))).bind fun t138 => ((engrossref1_Bits.f t138 0).bind fun t139 => (some t139))) else (none))) else (none))) else (none)))) else (none)))) = some r := by rw [if_pos rfl] at H; exact H
      clear H
      have H := H1
      clear H1
      replace H := Option.bind_eq_some_iff.mp H
      obtain ⟨t128, A130, H⟩ := H
      replace H : ((float_Same.f 18444492273895866369 t128).bind fun t129 => (if t129 = true then ((float_Same.f 9223372036854775808 0).bind fun t130 => (if t130 = true then (none) else (if t122 = true then ((engrossref1_Bits.f t121 9223372036854775808).bind fun t131 => (if t131 = true then ((float_Bytes.f k 4607182418800017408).bind fun t132 => (if (t132.length : Int) = 8 then ((float_Sum.f (([9223372036854775808] : List Nat))).bind fun t138 => ((engrossref1_Bits.f t138 0).bind fun t139 => (some t139))) else (none))) else (none))) else (none)))) else (none))) = some r := H
      have A13 := Aside0.mk A130
      clear A130
      replace H := Option.bind_eq_some_iff.mp H
      obtain ⟨t129, A140, H⟩ := H
      replace H : (if t129 = true then ((float_Same.f 9223372036854775808 0).bind fun t130 => (if t130 = true then (none) else (if t122 = true then ((engrossref1_Bits.f t121 9223372036854775808).bind fun t131 => (if t131 = true then ((float_Bytes.f k 4607182418800017408).bind fun t132 => (if (t132.length : Int) = 8 then ((float_Sum.f (([9223372036854775808] : List Nat))).bind fun t138 => ((engrossref1_Bits.f t138 0).bind fun t139 => (some t139))) else (none))) else (none))) else (none)))) else (none)) = some r := H
      have A14 := Aside0.mk A140
      clear A140
      by_cases c15 : t129 = true
      ·subst c15
       have H1 : ((float_Same.f 9223372036854775808 0).bind fun t130 => (if t130 = true then (none) else (if t122 = true then ((engrossref1_Bits.f t121 9223372036854775808).bind fun t131 => (if t131 = true then ((float_Bytes.f k 4607182418800017408).bind fun t132 => (if (t132.length : Int) = 8 then ((float_Sum.f (([9223372036854775808] : List Nat))).bind fun t138 => ((engrossref1_Bits.f t138 0).bind fun t139 => (some t139))) else (none))) else (none))) else (none)))) = some r := by rw [if_pos rfl] at H; exact H
       clear H
       have H := H1
       clear H1
       replace H := Option.bind_eq_some_iff.mp H
       obtain ⟨t130, A160, H⟩ := H
       replace H : (if t130 = true then (none) else (if t122 = true then ((engrossref1_Bits.f t121 9223372036854775808).bind fun t131 => (if t131 = true then ((float_Bytes.f k 4607182418800017408).bind fun t132 => (if (t132.length : Int) = 8 then ((float_Sum.f (([9223372036854775808] : List Nat))).bind fun t138 => ((engrossref1_Bits.f t138 0).bind fun t139 => (some t139))) else (none))) else (none))) else (none))) = some r := H
       have A16 := Aside0.mk A160
       clear A160
       by_cases c17 : t130 = true
       ·subst c17
        have H1 : (none) = some r := by rw [if_pos rfl] at H; exact H
        clear H
        have H := H1
        clear H1
        exact absurd H (by simp)
       ·replace c17 := Bool.eq_false_iff.mpr c17
        subst c17
        have H1 : (if t122 = true then ((engrossref1_Bits.f t121 9223372036854775808).bind fun t131 => (if t131 = true then ((float_Bytes.f k 4607182418800017408).bind fun t132 => (if (t132.length : Int) = 8 then ((float_Sum.f (([9223372036854775808] : List Nat))).bind fun t138 => ((engrossref1_Bits.f t138 0).bind fun t139 => (some t139))) else (none))) else (none))) else (none)) = some r := by rw [if_neg (show ¬ (false = true) by decide)] at H; exact H
        clear H
        have H := H1
        clear H1
        by_cases c18 : t122 = true
        ·subst c18
         have H1 : ((engrossref1_Bits.f t121 9223372036854775808).bind fun t131 => (if t131 = true then ((float_Bytes.f k 4607182418800017408).bind fun t132 => (if (t132.length : Int) = 8 then ((float_Sum.f (([9223372036854775808] : List Nat))).bind fun t138 => ((engrossref1_Bits.f t138 0).bind fun t139 => (some t139))) else (none))) else (none))) = some r := by rw [if_pos rfl] at H; exact H
         clear H
         have H := H1
         clear H1
         replace H := Option.bind_eq_some_iff.mp H
         obtain ⟨t131, A190, H⟩ := H
         replace H : (if t131 = true then ((float_Bytes.f k 4607182418800017408).bind fun t132 => (if (t132.length : Int) = 8 then ((float_Sum.f (([9223372036854775808] : List Nat))).bind fun t138 => ((engrossref1_Bits.f t138 0).bind fun t139 => (some t139))) else (none))) else (none)) = some r := H
         have A19 := Aside0.mk A190
         clear A190
         by_cases c20 : t131 = true
         ·subst c20
          have H1 : ((float_Bytes.f k 4607182418800017408).bind fun t132 => (if (t132.length : Int) = 8 then ((float_Sum.f (([9223372036854775808] : List Nat))).bind fun t138 => ((engrossref1_Bits.f t138 0).bind fun t139 => (some t139))) else (none))) = some r := by rw [if_pos rfl] at H; exact H
          clear H
          have H := H1
          clear H1
          replace H := Option.bind_eq_some_iff.mp H
          obtain ⟨t132, A210, H⟩ := H
          replace H : (if (t132.length : Int) = 8 then ((float_Sum.f (([9223372036854775808] : List Nat))).bind fun t138 => ((engrossref1_Bits.f t138 0).bind fun t139 => (some t139))) else (none)) = some r := H
          have A21 := Aside0.mk A210
          clear A210
          by_cases c22 : (t132.length : Int) = 8
          ·rw [if_pos c22] at H
           have c22b0 : ((t132.length : Int) == 8) = true := beq_iff_eq.mpr c22
           have c22b1 : ((t132.length : Int) != 8) = false := bne_eq_false_iff_eq.mpr c22
           clear c22
           obtain ⟨y135, hy135⟩ : ∃ y_ : List Nat, y_ = (([9223372036854775808] : List Nat)) := ⟨_, rfl⟩
           replace H : ((float_Sum.f y135).bind fun t138 => ((engrossref1_Bits.f t138 0).bind fun t139 => (some t139))) = some r := by first | (rw [hy135]; with_reducible exact H) | (have H2_ := (Option.bind_some _ _).symm.trans H; rw [hy135]; with_reducible exact H2_) | (have H2_ := (Option.bind_some _ _).symm.trans H; with_reducible exact H2_) | with_reducible exact H | (rw [hy135]; exact H) | exact H
           have Ny135 := Aside0.mk hy135
           clear hy135
           replace H := Option.bind_eq_some_iff.mp H
           obtain ⟨t138, A230, H⟩ := H
           replace H : ((engrossref1_Bits.f t138 0).bind fun t139 => (some t139)) = some r := H
           have A23 := Aside0.mk A230
           clear A230
           replace H := Option.bind_eq_some_iff.mp H
           obtain ⟨t139, A240, H⟩ := H
           replace H : (some t139) = some r := H
           have A24 := Aside0.mk A240
           clear A240
           obtain rfl := Option.some.inj H
           go_enter Try.func15, Try.ntmps15
           go_wp2_with (first | ((with_reducible refine gate_callee (f := 18) rfl ?_); refine goesL_ (some 11) rfl rfl Try.func18 (by kernel_rfl) rfl #[.float .f64 9223372036854775808] rfl (by (try simp only [List.map_toArray, List.map_cons, List.map_nil]); first | done | rfl | (simp only [List.length_drop, List.length_take]; rfl)) ?_; (with_reducible refine (float_Bytes.calls k 9223372036854775808 t118 _ A1.out).mono ?_); rintro e w25 ⟨v119, rfl, ho0, hb⟩; refine ⟨_, rfl, ?_⟩; have HO120 := Aside0.mk (Kd.R_lower ho0 (below_size (bC HB))); replace HB := bW HB hb; (try clear hb); (try clear hb2); (try clear hk); (try clear hi); (try clear ho0); obtain ⟨Ao26, co26, eo26⟩ := Kd.R_slice HO120.out; subst eo26) | ((with_reducible refine gate_callee (f := 21) rfl ?_); refine goesL_ (some 12) rfl rfl Try.func21 (by kernel_rfl) rfl #[.slice Ao26 t118.length co26] rfl (by (try simp only [List.map_toArray, List.map_cons, List.map_nil]); first | done | rfl | (simp only [List.length_drop, List.length_take]; rfl)) ?_; (with_reducible refine (float_Of.calls k _ _ t118 t121 true _ ?side1 ?side2 A2.out).mono ?_); (case side1 => repeat (first | exact (Kd.R_reads' HO120.out).2.2 | (with_reducible refine Kd.C_alloc ?_ _) | (with_reducible refine Kd.C_drewN ?_ _) | (with_reducible refine Kd.C_drew ?_))); (case side2 => exact (Kd.R_reads' HO120.out).2.1); rintro e w' ⟨rfl, ⟨nd, rfl⟩⟩; refine ⟨_, rfl, ?_⟩) | ((with_reducible refine gate_callee (f := 19) rfl ?_); refine goesL_ (some 18) rfl rfl Try.func19 (by kernel_rfl) rfl #[.float .f64 18444492273895866369, .float .f64 (Op.negFloat .f64 9218868437227405312)] rfl (by (try simp only [List.map_toArray, List.map_cons, List.map_nil]); first | done | rfl | (simp only [List.length_drop, List.length_take]; rfl)) ?_; (with_reducible refine (float_Less.calls 18444492273895866369 (Op.negFloat .f64 9218868437227405312) true _ A3.out).mono ?_); rintro e w' ⟨rfl, ⟨nd, rfl⟩⟩; refine ⟨_, rfl, ?_⟩) | (go_at_call 19; (with_reducible refine (float_Less.calls (Op.negFloat .f64 9218868437227405312) 13830554455654793216 true _ A5.out).mono ?_); rintro e w' ⟨rfl, ⟨nd, rfl⟩⟩) | (go_at_call 19; (with_reducible refine (float_Less.calls 9223372036854775808 0 true _ A7.out).mono ?_); rintro e w' ⟨rfl, ⟨nd, rfl⟩⟩) | (go_at_call 19; (with_reducible refine (float_Less.calls 0 9223372036854775808 false _ A9.out).mono ?_); rintro e w' ⟨rfl, ⟨nd, rfl⟩⟩) | (go_at_call 19; (with_reducible refine (float_Less.calls 4607182418800017408 9218868437227405312 true _ A11.out).mono ?_); rintro e w' ⟨rfl, ⟨nd, rfl⟩⟩) | (go_at_call 25; (with_reducible refine (float_Clean.calls 18444492273895866369 t128 _ A13.out).mono ?_); rintro e w' ⟨rfl, ⟨nd, rfl⟩⟩) | (go_at_call 20; (with_reducible refine (float_Same.calls 18444492273895866369 t128 true _ A14.out).mono ?_); rintro e w' ⟨rfl, ⟨nd, rfl⟩⟩) | (go_at_call 20; (with_reducible refine (float_Same.calls 9223372036854775808 0 false _ A16.out).mono ?_); rintro e w' ⟨rfl, ⟨nd, rfl⟩⟩) | (go_at_call 23; (with_reducible refine (engrossref1_Bits.calls t121 9223372036854775808 true _ A19.out).mono ?_); rintro e w' ⟨rfl, ⟨nd, rfl⟩⟩) | (go_at_call 18; (with_reducible refine (float_Bytes.calls k 4607182418800017408 t132 _ A21.out).mono ?_); rintro e w27 ⟨v133, rfl, ho0, hb⟩; have HO134 := Aside0.mk (Kd.R_lower (Kd.R_new' ho0 (Kd.R_lt (by (with_reducible repeat (first | apply Kd.R_alloc | apply Kd.R_drewN | apply Kd.R_drew)); exact HO120.out))) (below_size (bC HB))); replace HO120 := Aside0.mk (Kd.R_elder' (by (with_reducible repeat (first | apply Kd.R_alloc | apply Kd.R_drewN | apply Kd.R_drew)); exact HO120.out) (Kd.R_base ho0) hb); replace HB := bW HB hb; (try clear hb); (try clear hb2); (try clear hk); (try clear hi); (try clear ho0); obtain ⟨Ao28, co28, eo28⟩ := Kd.R_slice HO134.out; subst eo28) | ((with_reducible refine gate_dst (N := 63) rfl ?_); (try (refine gate_guard (by rfl) ?_; dsimp only)); refine Kd.R_lit Kd.float _ 24 ?hg (N := 63) ?hd (xs := ([9223372036854775808] : List Nat)) (inner := [.float .f64 9223372036854775808]) (ok := fun _ => True) (okp := fun _ => True) ?hr ?hp (fun _ hk => hk) trivial (Below.refl _ _) (Nat.le_refl _) (by simp) ?_; (case hd => rfl); (case hg => rfl); (case hr => first | (go_simp; done) | (go_simp; rfl)); (case hp => exact (Reps.one (show Kd.M Kd.float _ _ _ 9223372036854775808 [.float .f64 9223372036854775808] from rfl) (Reps.none _ _))); intro v136 w29 ho30 hb hg_ hnew_; clear hg_ hnew_; (first | rw [← Ny135.out] at ho30 | (simp only [Int.reduceToNat] at ho30; rw [← Ny135.out] at ho30)); have HO137 := Aside0.mk (Kd.R_lower ho30 (below_size (bC HB))); replace HO120 := Aside0.mk (Kd.R_below (by (with_reducible repeat (first | apply Kd.R_alloc | apply Kd.R_drewN | apply Kd.R_drew)); exact HO120.out) hb); replace HO134 := Aside0.mk (Kd.R_below (by (with_reducible repeat (first | apply Kd.R_alloc | apply Kd.R_drewN | apply Kd.R_drew)); exact HO134.out) hb); replace HB := bW HB hb; clear hb ho30; obtain ⟨Ao31, co31, eo31⟩ := Kd.R_slice HO137.out; subst eo31) | (go_at_call 29; (with_reducible refine (float_Sum.calls _ _ y135 t138 _ ?side1 ?side2 A23.out).mono ?_); (case side1 => repeat (first | exact (Kd.R_reads' HO137.out).2.2 | (with_reducible refine Kd.C_alloc ?_ _) | (with_reducible refine Kd.C_drewN ?_ _) | (with_reducible refine Kd.C_drew ?_))); (case side2 => exact (Kd.R_reads' HO137.out).2.1); rintro e w' ⟨rfl, ⟨nd, rfl⟩⟩) | (go_at_call 23; (with_reducible refine (engrossref1_Bits.calls t138 0 t139 _ A24.out).mono ?_); rintro e w' ⟨rfl, ⟨nd, rfl⟩⟩))
           go_ret
           exact ⟨by first | rfl | (simp [errW_none, errW_some] <;> rfl) | (simp [*, errW_none, errW_some] <;> rfl), by repeat (first | (with_reducible first | exact HB.out | apply below_alloc | apply pw_below_drewN | apply below_drew1) | exact HB.out)⟩
          ·rw [if_neg c22] at H
           exact absurd H (by simp)
         ·replace c20 := Bool.eq_false_iff.mpr c20
          subst c20
          have H1 : (none) = some r := by rw [if_neg (show ¬ (false = true) by decide)] at H; exact H
          clear H
          have H := H1
          clear H1
          exact absurd H (by simp)
        ·replace c18 := Bool.eq_false_iff.mpr c18
         subst c18
         have H1 : (none) = some r := by rw [if_neg (show ¬ (false = true) by decide)] at H; exact H
         clear H
         have H := H1
         clear H1
         exact absurd H (by simp)
      ·replace c15 := Bool.eq_false_iff.mpr c15
       subst c15
       have H1 : (none) = some r := by rw [if_neg (show ¬ (false = true) by decide)] at H; exact H
       clear H
       have H := H1
       clear H1
       exact absurd H (by simp)
     ·replace c12 := Bool.eq_false_iff.mpr c12
      subst c12
      have H1 : (none) = some r := by rw [if_neg (show ¬ (false = true) by decide)] at H; exact H
      clear H
      have H := H1
      clear H1
      exact absurd H (by simp)
   ·replace c8 := Bool.eq_false_iff.mpr c8
    subst c8
    have H1 : (none) = some r := by rw [if_neg (show ¬ (false = true) by decide)] at H; exact H
    clear H
    have H := H1
    clear H1
    exact absurd H (by simp)
  ·replace c6 := Bool.eq_false_iff.mpr c6
   subst c6
   have H1 : (none) = some r := by rw [if_neg (show ¬ (false = true) by decide)] at H; exact H
   clear H
   have H := H1
   clear H1
   exact absurd H (by simp)
 ·replace c4 := Bool.eq_false_iff.mpr c4
  subst c4
  have H1 : (none) = some r := by rw [if_neg (show ¬ (false = true) by decide)] at H; exact H
  clear H
  have H := H1
  clear H1
  exact absurd H (by simp)

/-! ### engrosslaw3_of: function 16 -/
def engrosslaw3_of.f (a0 : Int) : Option (Nat) := some (Int.toNat a0)
set_option maxHeartbeats 8000000 in
set_option maxRecDepth 100000 in
theorem engrosslaw3_of.calls (a0 : Int) (r : Nat) (w : World) (h : engrosslaw3_of.f a0 = some r) :
  Calls Try.prog 16 #[.int .u64 a0] w fun e w' => e = .returned (.float .f64 r) ∧ Drawn0 w w' := by
 have H : (some (Int.toNat a0)) = some r := h
 clear h
 obtain rfl := Option.some.inj H
 go_enter Try.func16, Try.ntmps16
 go_wp2
 go_ret
 exact ⟨by first | rfl | (simp; done) | (simp [*]; done), by repeat (first | exact Drawn0.refl _ | apply Drawn0.step)⟩

/-! ### engrossref1_NaN: function 28 -/
def engrossref1_NaN.f (a0 : Nat) : Option (Bool) := if (Go.bits .and .u64 ((a0 : Nat) : Int) 9218868437227405312) = 9218868437227405312 then (some ((Go.bits .and .u64 ((a0 : Nat) : Int) 4503599627370495) != 0)) else (some false)
set_option maxHeartbeats 8000000 in
set_option maxRecDepth 100000 in
theorem engrossref1_NaN.calls (a0 : Nat) (r : Bool) (w : World) (h : engrossref1_NaN.f a0 = some r) :
  Calls Try.prog 28 #[.float .f64 a0] w fun e w' => e = .returned (.bool r) ∧ Drawn0 w w' := by
 have H : (if (Go.bits .and .u64 ((a0 : Nat) : Int) 9218868437227405312) = 9218868437227405312 then (some ((Go.bits .and .u64 ((a0 : Nat) : Int) 4503599627370495) != 0)) else (some false)) = some r := h
 clear h
 by_cases c2 : (Go.bits .and .u64 ((a0 : Nat) : Int) 9218868437227405312) = 9218868437227405312
 ·rw [if_pos c2] at H
  have c2b0 : ((Go.bits .and .u64 ((a0 : Nat) : Int) 9218868437227405312) == 9218868437227405312) = true := beq_iff_eq.mpr c2
  have c2b1 : ((Go.bits .and .u64 ((a0 : Nat) : Int) 9218868437227405312) != 9218868437227405312) = false := bne_eq_false_iff_eq.mpr c2
  clear c2
  obtain rfl := Option.some.inj H
  go_enter Try.func28, Try.ntmps28
  go_wp2
  go_ret
  exact ⟨by first | rfl | (simp; done) | (simp [*]; done), by repeat (first | exact Drawn0.refl _ | apply Drawn0.step)⟩
 ·rw [if_neg c2] at H
  have c2b0 : ((Go.bits .and .u64 ((a0 : Nat) : Int) 9218868437227405312) == 9218868437227405312) = false := beq_eq_false_iff_ne.mpr c2
  have c2b1 : ((Go.bits .and .u64 ((a0 : Nat) : Int) 9218868437227405312) != 9218868437227405312) = true := bne_iff_ne.mpr c2
  obtain rfl := Option.some.inj H
  go_enter Try.func28, Try.ntmps28
  go_wp2
  go_ret
  exact ⟨by first | rfl | (simp; done) | (simp [*]; done), by repeat (first | exact Drawn0.refl _ | apply Drawn0.step)⟩

/-! ### engrossref1_Place: function 17 -/
def engrossref1_Place.f (a0 : Nat) : Option (Int) := (engrossref1_NaN.f a0).bind fun t140 => (if t140 = true then (some (-9223372036854775808)) else (if (((a0 : Nat) : Int) / 9223372036854775808) = 1 then (some (wrap64 ((wrap64 (-(wrap64 (Go.bits .and .u64 ((a0 : Nat) : Int) 9223372036854775807)))) - 1))) else (some (wrap64 (((a0 : Nat) : Int))))))
set_option maxHeartbeats 8000000 in
set_option maxRecDepth 100000 in
theorem engrossref1_Place.calls (a0 : Nat) (r : Int) (w : World) (h : engrossref1_Place.f a0 = some r) :
  Calls Try.prog 17 #[.float .f64 a0] w fun e w' => e = .returned (.int .i64 r) ∧ Drawn0 w w' := by
 have H : ((engrossref1_NaN.f a0).bind fun t140 => (if t140 = true then (some (-9223372036854775808)) else (if (((a0 : Nat) : Int) / 9223372036854775808) = 1 then (some (wrap64 ((wrap64 (-(wrap64 (Go.bits .and .u64 ((a0 : Nat) : Int) 9223372036854775807)))) - 1))) else (some (wrap64 (((a0 : Nat) : Int))))))) = some r := h
 clear h
 replace H := Option.bind_eq_some_iff.mp H
 obtain ⟨t140, A20, H⟩ := H
 replace H : (if t140 = true then (some (-9223372036854775808)) else (if (((a0 : Nat) : Int) / 9223372036854775808) = 1 then (some (wrap64 ((wrap64 (-(wrap64 (Go.bits .and .u64 ((a0 : Nat) : Int) 9223372036854775807)))) - 1))) else (some (wrap64 (((a0 : Nat) : Int)))))) = some r := H
 have A2 := Aside0.mk A20
 clear A20
 by_cases c3 : t140 = true
 ·subst c3
  have H1 : (some (-9223372036854775808)) = some r := by rw [if_pos rfl] at H; exact H
  clear H
  have H := H1
  clear H1
  obtain rfl := Option.some.inj H
  go_enter Try.func17, Try.ntmps17
  go_wp2_with (first | ((with_reducible refine gate_callee (f := 28) rfl ?_); refine goesL_ (some 5) rfl rfl Try.func28 (by kernel_rfl) rfl #[.float .f64 a0] rfl (by (try simp only [List.map_toArray, List.map_cons, List.map_nil]); first | done | rfl | (simp only [List.length_drop, List.length_take]; rfl)) ?_; (with_reducible refine (engrossref1_NaN.calls a0 true _ A2.out).mono ?_); rintro e w' ⟨rfl, ⟨nd, rfl⟩⟩; refine ⟨_, rfl, ?_⟩))
  go_ret
  exact ⟨by first | rfl | (simp; done) | (simp [*]; done), by repeat (first | exact Drawn0.refl _ | apply Drawn0.step)⟩
 ·replace c3 := Bool.eq_false_iff.mpr c3
  subst c3
  have H1 : (if (((a0 : Nat) : Int) / 9223372036854775808) = 1 then (some (wrap64 ((wrap64 (-(wrap64 (Go.bits .and .u64 ((a0 : Nat) : Int) 9223372036854775807)))) - 1))) else (some (wrap64 (((a0 : Nat) : Int))))) = some r := by rw [if_neg (show ¬ (false = true) by decide)] at H; exact H
  clear H
  have H := H1
  clear H1
  by_cases c4 : (((a0 : Nat) : Int) / 9223372036854775808) = 1
  ·rw [if_pos c4] at H
   have c4b0 : ((((a0 : Nat) : Int) / 9223372036854775808) == 1) = true := beq_iff_eq.mpr c4
   have c4b1 : ((((a0 : Nat) : Int) / 9223372036854775808) != 1) = false := bne_eq_false_iff_eq.mpr c4
   clear c4
   obtain rfl := Option.some.inj H
   go_enter Try.func17, Try.ntmps17
   go_wp2_with (first | ((with_reducible refine gate_callee (f := 28) rfl ?_); refine goesL_ (some 5) rfl rfl Try.func28 (by kernel_rfl) rfl #[.float .f64 a0] rfl (by (try simp only [List.map_toArray, List.map_cons, List.map_nil]); first | done | rfl | (simp only [List.length_drop, List.length_take]; rfl)) ?_; (with_reducible refine (engrossref1_NaN.calls a0 false _ A2.out).mono ?_); rintro e w' ⟨rfl, ⟨nd, rfl⟩⟩; refine ⟨_, rfl, ?_⟩))
   go_ret
   exact ⟨by first | rfl | (simp; done) | (simp [*]; done), by repeat (first | exact Drawn0.refl _ | apply Drawn0.step)⟩
  ·rw [if_neg c4] at H
   have c4b0 : ((((a0 : Nat) : Int) / 9223372036854775808) == 1) = false := beq_eq_false_iff_ne.mpr c4
   have c4b1 : ((((a0 : Nat) : Int) / 9223372036854775808) != 1) = true := bne_iff_ne.mpr c4
   obtain rfl := Option.some.inj H
   go_enter Try.func17, Try.ntmps17
   go_wp2_with (first | ((with_reducible refine gate_callee (f := 28) rfl ?_); refine goesL_ (some 5) rfl rfl Try.func28 (by kernel_rfl) rfl #[.float .f64 a0] rfl (by (try simp only [List.map_toArray, List.map_cons, List.map_nil]); first | done | rfl | (simp only [List.length_drop, List.length_take]; rfl)) ?_; (with_reducible refine (engrossref1_NaN.calls a0 false _ A2.out).mono ?_); rintro e w' ⟨rfl, ⟨nd, rfl⟩⟩; refine ⟨_, rfl, ?_⟩))
   go_ret
   exact ⟨by first | rfl | (simp; done) | (simp [*]; done), by repeat (first | exact Drawn0.refl _ | apply Drawn0.step)⟩

/-! ### engrosslaw3_FloatOrder: function 3 -/
def engrosslaw3_FloatOrder.f (k : Nat) (a0 : Int) (a1 : Int) : Option (Bool) := (engrosslaw3_begun.f k).bind fun t141 => (if t141 = true then ((engrosslaw3_of.f a0).bind fun t142 => ((engrosslaw3_of.f a1).bind fun t143 => ((engrossref1_Place.f t142).bind fun t144 => ((engrossref1_Place.f t143).bind fun t145 => ((float_Bytes.f k t142).bind fun t146 => ((float_Bytes.f k t143).bind fun t149 => ((float_Less.f t142 t143).bind fun t152 => (if (t152 == (decide (t144 < t145))) = true then ((float_Same.f t142 t143).bind fun t153 => (if (t153 == (t144 == t145)) = true then (if ((Op.bytesLess ((strOfNums t146).toList) ((strOfNums t149).toList)) == (decide (t144 < t145))) = true then (some (((strOfNums t146).toList == (strOfNums t149).toList) == (t144 == t145))) else (none)) else (none))) else (none))))))))) else (none))
theorem engrosslaw3_FloatOrder.mono : ∀ a0 a1 k, LeO (engrosslaw3_FloatOrder.f k a0 a1) (engrosslaw3_FloatOrder.f (k + 1) a0 a1) := by
 intro a0 a1 k
 unfold engrosslaw3_FloatOrder.f
 repeat' first
   | (with_reducible exact engrosslaw3_begun.mono _)
   | (with_reducible exact float_Bytes.mono _ _)
   | (with_reducible exact LeO.refl _)
   | (with_reducible exact LeO.none _)
   | (with_reducible refine LeO.ite ?_ ?_)
   | (with_reducible refine LeO.bind ?_ (fun _ => ?_))
   | exact engrosslaw3_begun.mono _
   | exact float_Bytes.mono _ _
   | exact LeO.none _
   | refine LeO.ite ?_ ?_
   | refine LeO.bind ?_ (fun _ => ?_)
set_option maxHeartbeats 8000000 in
set_option maxRecDepth 100000 in
theorem engrosslaw3_FloatOrder.calls (k : Nat) (a0 : Int) (a1 : Int) (r : Bool) (w : World) (h : engrosslaw3_FloatOrder.f k a0 a1 = some r) :
  Calls Try.prog 3 #[.int .u64 a0, .int .u64 a1] w fun e w' => e = .returned (.bool r) ∧ Below w.heap.size w w' := by
 have HB := Aside0.mk (Below.refl w.heap.size w)
 have H : ((engrosslaw3_begun.f k).bind fun t141 => (if t141 = true then ((engrosslaw3_of.f a0).bind fun t142 => ((engrosslaw3_of.f a1).bind fun t143 => ((engrossref1_Place.f t142).bind fun t144 => ((engrossref1_Place.f t143).bind fun t145 => ((float_Bytes.f k t142).bind fun t146 => ((float_Bytes.f k t143).bind fun t149 => ((float_Less.f t142 t143).bind fun t152 => (if (t152 == (decide (t144 < t145))) = true then ((float_Same.f t142 t143).bind fun t153 => (if (t153 == (t144 == t145)) = true then (if ((Op.bytesLess ((strOfNums t146).toList) ((strOfNums t149).toList)) == (decide (t144 < t145))) = true then (some (((strOfNums t146).toList == (strOfNums t149).toList) == (t144 == t145))) else (none)) else (none))) else (none))))))))) else (none))) = some r := h
 clear h
 replace H := Option.bind_eq_some_iff.mp H
 obtain ⟨t141, A30, H⟩ := H
 replace H : (if t141 = true then ((engrosslaw3_of.f a0).bind fun t142 => ((engrosslaw3_of.f a1).bind fun t143 => ((engrossref1_Place.f t142).bind fun t144 => ((engrossref1_Place.f t143).bind fun t145 => ((float_Bytes.f k t142).bind fun t146 => ((float_Bytes.f k t143).bind fun t149 => ((float_Less.f t142 t143).bind fun t152 => (if (t152 == (decide (t144 < t145))) = true then ((float_Same.f t142 t143).bind fun t153 => (if (t153 == (t144 == t145)) = true then (if ((Op.bytesLess ((strOfNums t146).toList) ((strOfNums t149).toList)) == (decide (t144 < t145))) = true then (some (((strOfNums t146).toList == (strOfNums t149).toList) == (t144 == t145))) else (none)) else (none))) else (none))))))))) else (none)) = some r := H
 have A3 := Aside0.mk A30
 clear A30
 by_cases c4 : t141 = true
 ·subst c4
  have H1 : ((engrosslaw3_of.f a0).bind fun t142 => ((engrosslaw3_of.f a1).bind fun t143 => ((engrossref1_Place.f t142).bind fun t144 => ((engrossref1_Place.f t143).bind fun t145 => ((float_Bytes.f k t142).bind fun t146 => ((float_Bytes.f k t143).bind fun t149 => ((float_Less.f t142 t143).bind fun t152 => (if (t152 == (decide (t144 < t145))) = true then ((float_Same.f t142 t143).bind fun t153 => (if (t153 == (t144 == t145)) = true then (if ((Op.bytesLess ((strOfNums t146).toList) ((strOfNums t149).toList)) == (decide (t144 < t145))) = true then (some (((strOfNums t146).toList == (strOfNums t149).toList) == (t144 == t145))) else (none)) else (none))) else (none))))))))) = some r := by rw [if_pos rfl] at H; exact H
  clear H
  have H := H1
  clear H1
  replace H := Option.bind_eq_some_iff.mp H
  obtain ⟨t142, A50, H⟩ := H
  replace H : ((engrosslaw3_of.f a1).bind fun t143 => ((engrossref1_Place.f t142).bind fun t144 => ((engrossref1_Place.f t143).bind fun t145 => ((float_Bytes.f k t142).bind fun t146 => ((float_Bytes.f k t143).bind fun t149 => ((float_Less.f t142 t143).bind fun t152 => (if (t152 == (decide (t144 < t145))) = true then ((float_Same.f t142 t143).bind fun t153 => (if (t153 == (t144 == t145)) = true then (if ((Op.bytesLess ((strOfNums t146).toList) ((strOfNums t149).toList)) == (decide (t144 < t145))) = true then (some (((strOfNums t146).toList == (strOfNums t149).toList) == (t144 == t145))) else (none)) else (none))) else (none)))))))) = some r := H
  have A5 := Aside0.mk A50
  clear A50
  replace H := Option.bind_eq_some_iff.mp H
  obtain ⟨t143, A60, H⟩ := H
  replace H : ((engrossref1_Place.f t142).bind fun t144 => ((engrossref1_Place.f t143).bind fun t145 => ((float_Bytes.f k t142).bind fun t146 => ((float_Bytes.f k t143).bind fun t149 => ((float_Less.f t142 t143).bind fun t152 => (if (t152 == (decide (t144 < t145))) = true then ((float_Same.f t142 t143).bind fun t153 => (if (t153 == (t144 == t145)) = true then (if ((Op.bytesLess ((strOfNums t146).toList) ((strOfNums t149).toList)) == (decide (t144 < t145))) = true then (some (((strOfNums t146).toList == (strOfNums t149).toList) == (t144 == t145))) else (none)) else (none))) else (none))))))) = some r := H
  have A6 := Aside0.mk A60
  clear A60
  replace H := Option.bind_eq_some_iff.mp H
  obtain ⟨t144, A70, H⟩ := H
  replace H : ((engrossref1_Place.f t143).bind fun t145 => ((float_Bytes.f k t142).bind fun t146 => ((float_Bytes.f k t143).bind fun t149 => ((float_Less.f t142 t143).bind fun t152 => (if (t152 == (decide (t144 < t145))) = true then ((float_Same.f t142 t143).bind fun t153 => (if (t153 == (t144 == t145)) = true then (if ((Op.bytesLess ((strOfNums t146).toList) ((strOfNums t149).toList)) == (decide (t144 < t145))) = true then (some (((strOfNums t146).toList == (strOfNums t149).toList) == (t144 == t145))) else (none)) else (none))) else (none)))))) = some r := H
  have A7 := Aside0.mk A70
  clear A70
  replace H := Option.bind_eq_some_iff.mp H
  obtain ⟨t145, A80, H⟩ := H
  replace H : ((float_Bytes.f k t142).bind fun t146 => ((float_Bytes.f k t143).bind fun t149 => ((float_Less.f t142 t143).bind fun t152 => (if (t152 == (decide (t144 < t145))) = true then ((float_Same.f t142 t143).bind fun t153 => (if (t153 == (t144 == t145)) = true then (if ((Op.bytesLess ((strOfNums t146).toList) ((strOfNums t149).toList)) == (decide (t144 < t145))) = true then (some (((strOfNums t146).toList == (strOfNums t149).toList) == (t144 == t145))) else (none)) else (none))) else (none))))) = some r := H
  have A8 := Aside0.mk A80
  clear A80
  replace H := Option.bind_eq_some_iff.mp H
  obtain ⟨t146, A90, H⟩ := H
  replace H : ((float_Bytes.f k t143).bind fun t149 => ((float_Less.f t142 t143).bind fun t152 => (if (t152 == (decide (t144 < t145))) = true then ((float_Same.f t142 t143).bind fun t153 => (if (t153 == (t144 == t145)) = true then (if ((Op.bytesLess ((strOfNums t146).toList) ((strOfNums t149).toList)) == (decide (t144 < t145))) = true then (some (((strOfNums t146).toList == (strOfNums t149).toList) == (t144 == t145))) else (none)) else (none))) else (none)))) = some r := H
  have A9 := Aside0.mk A90
  clear A90
  replace H := Option.bind_eq_some_iff.mp H
  obtain ⟨t149, A100, H⟩ := H
  replace H : ((float_Less.f t142 t143).bind fun t152 => (if (t152 == (decide (t144 < t145))) = true then ((float_Same.f t142 t143).bind fun t153 => (if (t153 == (t144 == t145)) = true then (if ((Op.bytesLess ((strOfNums t146).toList) ((strOfNums t149).toList)) == (decide (t144 < t145))) = true then (some (((strOfNums t146).toList == (strOfNums t149).toList) == (t144 == t145))) else (none)) else (none))) else (none))) = some r := H
  have A10 := Aside0.mk A100
  clear A100
  replace H := Option.bind_eq_some_iff.mp H
  obtain ⟨t152, A110, H⟩ := H
  replace H : (if (t152 == (decide (t144 < t145))) = true then ((float_Same.f t142 t143).bind fun t153 => (if (t153 == (t144 == t145)) = true then (if ((Op.bytesLess ((strOfNums t146).toList) ((strOfNums t149).toList)) == (decide (t144 < t145))) = true then (some (((strOfNums t146).toList == (strOfNums t149).toList) == (t144 == t145))) else (none)) else (none))) else (none)) = some r := H
  have A11 := Aside0.mk A110
  clear A110
  by_cases c12 : (t152 == (decide (t144 < t145))) = true
  ·rw [if_pos c12] at H
   have c12b0 : (t152 == (decide (t144 < t145))) = true := c12
   (try (have c12b1 : decide (t152 = (decide (t144 < t145))) = true := by simpa using c12))
   (try (have c12b2 : (t152 == (decide (t144 < t145))) = true := by simpa using c12))
   clear c12
   replace H := Option.bind_eq_some_iff.mp H
   obtain ⟨t153, A130, H⟩ := H
   replace H : (if (t153 == (t144 == t145)) = true then (if ((Op.bytesLess ((strOfNums t146).toList) ((strOfNums t149).toList)) == (decide (t144 < t145))) = true then (some (((strOfNums t146).toList == (strOfNums t149).toList) == (t144 == t145))) else (none)) else (none)) = some r := H
   have A13 := Aside0.mk A130
   clear A130
   by_cases c14 : (t153 == (t144 == t145)) = true
   ·rw [if_pos c14] at H
    have c14b0 : (t153 == (t144 == t145)) = true := c14
    (try (have c14b1 : decide (t153 = (t144 == t145)) = true := by simpa using c14))
    (try (have c14b2 : (t153 == (t144 == t145)) = true := by simpa using c14))
    clear c14
    by_cases c15 : ((Op.bytesLess ((strOfNums t146).toList) ((strOfNums t149).toList)) == (decide (t144 < t145))) = true
    ·rw [if_pos c15] at H
     have c15b0 : ((Op.bytesLess ((strOfNums t146).toList) ((strOfNums t149).toList)) == (decide (t144 < t145))) = true := c15
     (try (have c15b1 : decide ((Op.bytesLess ((strOfNums t146).toList) ((strOfNums t149).toList)) = (decide (t144 < t145))) = true := by simpa using c15))
     (try (have c15b2 : ((Op.bytesLess ((strOfNums t146).toList) ((strOfNums t149).toList)) == (decide (t144 < t145))) = true := by simpa using c15))
     clear c15
     obtain rfl := Option.some.inj H
     go_enter Try.func3, Try.ntmps3
     go_wp2_with (first | ((with_reducible refine gate_callee (f := 15) rfl ?_); refine goesL_ (some 12) rfl rfl Try.func15 (by kernel_rfl) rfl #[] rfl (by (try simp only [List.map_toArray, List.map_cons, List.map_nil]); first | done | rfl | (simp only [List.length_drop, List.length_take]; rfl)) ?_; (with_reducible refine (engrosslaw3_begun.calls k  true _ A3.out).mono ?_); rintro e w16 ⟨rfl, hb⟩; refine ⟨_, rfl, ?_⟩; replace HB := bW HB hb; (try clear hb); (try clear hb2); (try clear hk); (try clear hi)) | ((with_reducible refine gate_callee (f := 16) rfl ?_); refine goesL_ (some 16) rfl rfl Try.func16 (by kernel_rfl) rfl #[.int .u64 a0] rfl (by (try simp only [List.map_toArray, List.map_cons, List.map_nil]); first | done | rfl | (simp only [List.length_drop, List.length_take]; rfl)) ?_; (with_reducible refine (engrosslaw3_of.calls a0 t142 _ A5.out).mono ?_); rintro e w' ⟨rfl, ⟨nd, rfl⟩⟩; refine ⟨_, rfl, ?_⟩) | ((with_reducible refine gate_callee (f := 16) rfl ?_); refine goesL_ (some 18) rfl rfl Try.func16 (by kernel_rfl) rfl #[.int .u64 a1] rfl (by (try simp only [List.map_toArray, List.map_cons, List.map_nil]); first | done | rfl | (simp only [List.length_drop, List.length_take]; rfl)) ?_; (with_reducible refine (engrosslaw3_of.calls a1 t143 _ A6.out).mono ?_); rintro e w' ⟨rfl, ⟨nd, rfl⟩⟩; refine ⟨_, rfl, ?_⟩) | ((with_reducible refine gate_callee (f := 17) rfl ?_); refine goesL_ (some 20) rfl rfl Try.func17 (by kernel_rfl) rfl #[.float .f64 t142] rfl (by (try simp only [List.map_toArray, List.map_cons, List.map_nil]); first | done | rfl | (simp only [List.length_drop, List.length_take]; rfl)) ?_; (with_reducible refine (engrossref1_Place.calls t142 t144 _ A7.out).mono ?_); rintro e w' ⟨rfl, ⟨nd, rfl⟩⟩; refine ⟨_, rfl, ?_⟩) | ((with_reducible refine gate_callee (f := 17) rfl ?_); refine goesL_ (some 22) rfl rfl Try.func17 (by kernel_rfl) rfl #[.float .f64 t143] rfl (by (try simp only [List.map_toArray, List.map_cons, List.map_nil]); first | done | rfl | (simp only [List.length_drop, List.length_take]; rfl)) ?_; (with_reducible refine (engrossref1_Place.calls t143 t145 _ A8.out).mono ?_); rintro e w' ⟨rfl, ⟨nd, rfl⟩⟩; refine ⟨_, rfl, ?_⟩) | ((with_reducible refine gate_callee (f := 18) rfl ?_); refine goesL_ (some 24) rfl rfl Try.func18 (by kernel_rfl) rfl #[.float .f64 t142] rfl (by (try simp only [List.map_toArray, List.map_cons, List.map_nil]); first | done | rfl | (simp only [List.length_drop, List.length_take]; rfl)) ?_; (with_reducible refine (float_Bytes.calls k t142 t146 _ A9.out).mono ?_); rintro e w17 ⟨v147, rfl, ho0, hb⟩; refine ⟨_, rfl, ?_⟩; have HO148 := Aside0.mk (Kd.R_lower ho0 (below_size (bC HB))); replace HB := bW HB hb; (try clear hb); (try clear hb2); (try clear hk); (try clear hi); (try clear ho0)) | ((with_reducible refine gate_callee (f := 18) rfl ?_); refine goesL_ (some 26) rfl rfl Try.func18 (by kernel_rfl) rfl #[.float .f64 t143] rfl (by (try simp only [List.map_toArray, List.map_cons, List.map_nil]); first | done | rfl | (simp only [List.length_drop, List.length_take]; rfl)) ?_; (with_reducible refine (float_Bytes.calls k t143 t149 _ A10.out).mono ?_); rintro e w18 ⟨v150, rfl, ho0, hb⟩; refine ⟨_, rfl, ?_⟩; have HO151 := Aside0.mk (Kd.R_lower (Kd.R_new' ho0 (Kd.R_lt (by (with_reducible repeat (first | apply Kd.R_alloc | apply Kd.R_drewN | apply Kd.R_drew)); exact HO148.out))) (below_size (bC HB))); replace HO148 := Aside0.mk (Kd.R_elder' (by (with_reducible repeat (first | apply Kd.R_alloc | apply Kd.R_drewN | apply Kd.R_drew)); exact HO148.out) (Kd.R_base ho0) hb); replace HB := bW HB hb; (try clear hb); (try clear hb2); (try clear hk); (try clear hi); (try clear ho0)) | ((with_reducible refine gate_callee (f := 19) rfl ?_); refine goesL_ (some 29) rfl rfl Try.func19 (by kernel_rfl) rfl #[.float .f64 t142, .float .f64 t143] rfl (by (try simp only [List.map_toArray, List.map_cons, List.map_nil]); first | done | rfl | (simp only [List.length_drop, List.length_take]; rfl)) ?_; (with_reducible refine (float_Less.calls t142 t143 t152 _ A11.out).mono ?_); rintro e w' ⟨rfl, ⟨nd, rfl⟩⟩; refine ⟨_, rfl, ?_⟩) | (go_at_call 20; (with_reducible refine (float_Same.calls t142 t143 t153 _ A13.out).mono ?_); rintro e w' ⟨rfl, ⟨nd, rfl⟩⟩; have hcv19 := Kd.x_R_string (P := Try.prog) Try.underlying27 Try.underlying5 Try.underlying9 (HO148.out); have hcv20 := Kd.x_R_string (P := Try.prog) Try.underlying27 Try.underlying5 Try.underlying9 (HO151.out); have hcv21 := Kd.x_R_string (P := Try.prog) Try.underlying27 Try.underlying5 Try.underlying9 (HO148.out); have hcv22 := Kd.x_R_string (P := Try.prog) Try.underlying27 Try.underlying5 Try.underlying9 (HO151.out)))
     go_ret
     exact ⟨by first | rfl | (simp [errW_none, errW_some] <;> rfl) | (simp [*, errW_none, errW_some] <;> rfl), by repeat (first | (with_reducible first | exact HB.out | apply below_alloc | apply pw_below_drewN | apply below_drew1) | exact HB.out)⟩
    ·rw [if_neg c15] at H
     exact absurd H (by simp)
   ·rw [if_neg c14] at H
    exact absurd H (by simp)
  ·rw [if_neg c12] at H
   exact absurd H (by simp)
 ·replace c4 := Bool.eq_false_iff.mpr c4
  subst c4
  have H1 : (none) = some r := by rw [if_neg (show ¬ (false = true) by decide)] at H; exact H
  clear H
  have H := H1
  clear H1
  exact absurd H (by simp)

/-- THE ONE PURE STATEMENT of engrosslaw3_FloatOrder: yours. -/
def engrosslaw3_FloatOrder.Pure : Prop := ∀ (a0 : Int) (a1 : Int), (Lit.int .u64 a0).wf = true → (Lit.int .u64 a1).wf = true → ∃ k, engrosslaw3_FloatOrder.f k a0 a1 = some true
theorem engrosslaw3_FloatOrder.walk (P : engrosslaw3_FloatOrder.Pure) (a0 : Int) (a1 : Int) (w : World) (w0 : (Lit.int .u64 a0).wf = true) (w1 : (Lit.int .u64 a1).wf = true) :
  Calls Try.prog 3 #[.int .u64 a0, .int .u64 a1] w fun e w' => e = .returned (.bool true) ∧ Below w.heap.size w w' := by
 obtain ⟨k, h⟩ := P a0 a1 w0 w1
 refine (engrosslaw3_FloatOrder.calls k a0 a1 true w h).mono ?_
 rintro e w' ⟨rfl, hd⟩
 exact ⟨rfl, hd⟩

/-! ### engrossref1_FloatBytes: function 22 -/
mutual
def engrossref1_FloatBytes.j0 : Nat → Int → Option (List Int)
 | 0, _ => none
 | k + 1, x3 => engrossref1_FloatBytes.l0 k x3 ([] : List Int) 56
def engrossref1_FloatBytes.l0 : Nat → Int → List Int → Int → Option (List Int)
 | 0, _, _, _ => none
 | k + 1, x3, x4, x5 => if x5 ≥ 0 then (if 0 ≤ (IntKind.u64.wrap (x5)) then (if x4.length < 140737488355328 then (engrossref1_FloatBytes.l0 k x3 (x4 ++ [(shr .u64 x3 (IntKind.u64.wrap (x5))) % 256]) (wrap64 (x5 - 8))) else (none)) else (none)) else (some x4)
end
def engrossref1_FloatBytes.f (k : Nat) (a0 : Nat) : Option (List Int) := (engrossref1_Place.f a0).bind fun t154 => ((engrossref1_NaN.f a0).bind fun t155 => (if t155 = true then (engrossref1_FloatBytes.j0 k 0) else (engrossref1_FloatBytes.j0 k (IntKind.u64.wrap ((IntKind.u64.wrap (t154)) + 9223372036854775808)))))
theorem engrossref1_FloatBytes.mono_l : ∀ k, (∀ y0, LeO (engrossref1_FloatBytes.j0 k y0) (engrossref1_FloatBytes.j0 (k + 1) y0)) ∧ (∀ y0 y1 y2, LeO (engrossref1_FloatBytes.l0 k y0 y1 y2) (engrossref1_FloatBytes.l0 (k + 1) y0 y1 y2))
 | 0 => ⟨fun _ r h => by simp [engrossref1_FloatBytes.j0] at h, fun _ _ _ r h => by simp [engrossref1_FloatBytes.l0] at h⟩
 | k + 1 => by
  obtain ⟨ih0, ih1⟩ := engrossref1_FloatBytes.mono_l k
  refine ⟨?_, ?_⟩
  ·intro y0
   unfold engrossref1_FloatBytes.j0
   repeat' first
   | (with_reducible exact ih0 _)
   | (with_reducible exact ih1 _ _ _)
   | (with_reducible exact LeO.refl _)
   | (with_reducible exact LeO.none _)
   | (with_reducible refine LeO.ite ?_ ?_)
   | (with_reducible refine LeO.bind ?_ (fun _ => ?_))
   | exact ih0 _
   | exact ih1 _ _ _
   | exact LeO.none _
   | refine LeO.ite ?_ ?_
   | refine LeO.bind ?_ (fun _ => ?_)
  ·intro y0 y1 y2
   unfold engrossref1_FloatBytes.l0
   repeat' first
   | (with_reducible exact ih0 _)
   | (with_reducible exact ih1 _ _ _)
   | (with_reducible exact LeO.refl _)
   | (with_reducible exact LeO.none _)
   | (with_reducible refine LeO.ite ?_ ?_)
   | (with_reducible refine LeO.bind ?_ (fun _ => ?_))
   | exact ih0 _
   | exact ih1 _ _ _
   | exact LeO.none _
   | refine LeO.ite ?_ ?_
   | refine LeO.bind ?_ (fun _ => ?_)
theorem engrossref1_FloatBytes.mono : ∀ a0 k, LeO (engrossref1_FloatBytes.f k a0) (engrossref1_FloatBytes.f (k + 1) a0) := by
 intro a0 k
 obtain ⟨ih0, ih1⟩ := engrossref1_FloatBytes.mono_l k
 unfold engrossref1_FloatBytes.f
 repeat' first
   | (with_reducible exact ih0 _)
   | (with_reducible exact ih1 _ _ _)
   | (with_reducible exact LeO.refl _)
   | (with_reducible exact LeO.none _)
   | (with_reducible refine LeO.ite ?_ ?_)
   | (with_reducible refine LeO.bind ?_ (fun _ => ?_))
   | exact ih0 _
   | exact ih1 _ _ _
   | exact LeO.none _
   | refine LeO.ite ?_ ?_
   | refine LeO.bind ?_ (fun _ => ?_)
set_option maxHeartbeats 8000000 in
set_option maxRecDepth 100000 in
theorem engrossref1_FloatBytes.calls (k : Nat) (a0 : Nat) (r : List Int) (w : World) (h : engrossref1_FloatBytes.f k a0 = some r) :
  Calls Try.prog 22 #[.float .f64 a0] w fun e w' => ∃ v0_ : Value, e = .returned (v0_) ∧ Kd.R (Kd.int .u8) 5 w' w.heap.size (fun _ => True) v0_ r ∧ Below w.heap.size w w' := by
 have HB := Aside0.mk (Below.refl w.heap.size w)
 have H : ((engrossref1_Place.f a0).bind fun t154 => ((engrossref1_NaN.f a0).bind fun t155 => (if t155 = true then (engrossref1_FloatBytes.j0 k 0) else (engrossref1_FloatBytes.j0 k (IntKind.u64.wrap ((IntKind.u64.wrap (t154)) + 9223372036854775808)))))) = some r := h
 clear h
 replace H := Option.bind_eq_some_iff.mp H
 obtain ⟨t154, A20, H⟩ := H
 replace H : ((engrossref1_NaN.f a0).bind fun t155 => (if t155 = true then (engrossref1_FloatBytes.j0 k 0) else (engrossref1_FloatBytes.j0 k (IntKind.u64.wrap ((IntKind.u64.wrap (t154)) + 9223372036854775808))))) = some r := H
 have A2 := Aside0.mk A20
 clear A20
 replace H := Option.bind_eq_some_iff.mp H
 obtain ⟨t155, A30, H⟩ := H
 replace H : (if t155 = true then (engrossref1_FloatBytes.j0 k 0) else (engrossref1_FloatBytes.j0 k (IntKind.u64.wrap ((IntKind.u64.wrap (t154)) + 9223372036854775808)))) = some r := H
 have A3 := Aside0.mk A30
 clear A30
 have HC4 := Aside0.mk H
 clear H
 go_enter Try.func22, Try.ntmps22
 go_upto_if 11 with (first | ((with_reducible refine gate_callee (f := 17) rfl ?_); refine goesL_ (some 7) rfl rfl Try.func17 (by kernel_rfl) rfl #[.float .f64 a0] rfl (by (try simp only [List.map_toArray, List.map_cons, List.map_nil]); first | done | rfl | (simp only [List.length_drop, List.length_take]; rfl)) ?_; (with_reducible refine (engrossref1_Place.calls a0 t154 _ A2.out).mono ?_); rintro e w' ⟨rfl, ⟨nd, rfl⟩⟩; refine ⟨_, rfl, ?_⟩) | ((with_reducible refine gate_callee (f := 28) rfl ?_); refine goesL_ (some 11) rfl rfl Try.func28 (by kernel_rfl) rfl #[.float .f64 a0] rfl (by (try simp only [List.map_toArray, List.map_cons, List.map_nil]); first | done | rfl | (simp only [List.length_drop, List.length_take]; rfl)) ?_; (with_reducible refine (engrossref1_NaN.calls a0 t155 _ A3.out).mono ?_); rintro e w' ⟨rfl, ⟨nd, rfl⟩⟩; refine ⟨_, rfl, ?_⟩))
 (try simp only [Act.put, List.setIfInBounds_toArray, List.set_cons_zero, List.set_cons_succ])
 go_cut [3] (fun v3 wc => ∃ (kq : Nat) (x3_3 : Int), v3 = .int .u64 x3_3 ∧ Aside0 (engrossref1_FloatBytes.j0 kq x3_3 = some r) ∧ Aside0 (kq ≤ k) ∧ Aside0 (Below w.heap.size w wc))
 case first =>
  have H := HC4.out
  clear HC4
  by_cases c5 : t155 = true
  ·subst c5
   have H1 : (engrossref1_FloatBytes.j0 k 0) = some r := by rw [if_pos rfl] at H; exact H
   clear H
   have H := H1
   clear H1
   have H' := Aside0.mk H
   clear H
   go_wp2
   go_meet
   case rel => exact ⟨_, (0), (by first | rfl | (simp; done) | (simp [*]; done)), H', ⟨by first | omega | exact Nat.le_refl _⟩, ⟨by repeat (first | (with_reducible first | exact HB.out | apply below_alloc | apply pw_below_drewN | apply below_drew1) | exact HB.out)⟩⟩
  ·replace c5 := Bool.eq_false_iff.mpr c5
   subst c5
   have H1 : (engrossref1_FloatBytes.j0 k (IntKind.u64.wrap ((IntKind.u64.wrap (t154)) + 9223372036854775808))) = some r := by rw [if_neg (show ¬ (false = true) by decide)] at H; exact H
   clear H
   have H := H1
   clear H1
   have H' := Aside0.mk H
   clear H
   go_wp2
   go_meet
   case rel => exact ⟨_, (IntKind.u64.wrap ((IntKind.u64.wrap (t154)) + 9223372036854775808)), (by first | rfl | (simp; done) | (simp [*]; done)), H', ⟨by first | omega | exact Nat.le_refl _⟩, ⟨by repeat (first | (with_reducible first | exact HB.out | apply below_alloc | apply pw_below_drewN | apply below_drew1) | exact HB.out)⟩⟩
 case rest =>
  clear HC4
  try clear c1
  try clear c2
  try clear p2
  try clear c5
  obtain ⟨kq, x3_3, rfl, HA, HJ3, HB⟩ := hcut
  cases kq with
  | zero => exact absurd HA.out (by simp [engrossref1_FloatBytes.j0])
  | succ kj3 =>
   have H := HA.out
   clear HA
   simp only [engrossref1_FloatBytes.j0] at H
   have H' := Aside0.mk H
   clear H
   go_wp2
   go_loopg [4, 5] kj3 (fun kq v4 v5 w' => ∃ (x4_2 : List Int) (x5_2 : Int), v5 = .int .i64 x5_2 ∧ Aside0 (engrossref1_FloatBytes.l0 kq x3_3 x4_2 x5_2 = some r) ∧ Aside0 (kq ≤ kj3) ∧ Aside0 (Kd.R (Kd.int .u8) 5 w' w.heap.size (fun _ => True) v4 x4_2) ∧ Aside0 (Below w.heap.size w w'))
   case atStart => exact ⟨(([] : List Int)), (56), (by first | rfl | (simp; done) | (simp [*]; done)), H', ⟨Nat.le_refl _⟩, ⟨by first | exact Kd.R_nil _ _ _ _ _ | exact Kd.N_nil _ _ _ _ _ | exact Kd.V_nil _ _ _ _ _ | exact Kd.Q_nil _ _ _ _ _ | exact Kd.S_nil _ _ _ _ _⟩, ⟨by repeat (first | (with_reducible first | exact HB.out | apply below_alloc | apply pw_below_drewN | apply below_drew1) | exact HB.out)⟩⟩
   case round =>
    clear H'
    try clear c1
    try clear c2
    try clear p2
    try clear c5
    try clear p2
    obtain ⟨x4_2, x5_2, rfl, HA, HK2, HO_4, HB⟩ := hrel
    cases gk with
    | zero => exact absurd HA.out (by simp [engrossref1_FloatBytes.l0])
    | succ k2 =>
     have H := HA.out
     clear HA
     simp only [engrossref1_FloatBytes.l0] at H
     by_cases c6 : x5_2 ≥ 0
     ·rw [if_pos c6] at H
      have c6b0 : decide (0 ≤ x5_2) = true := decide_eq_true c6
      clear c6
      obtain ⟨ji7, hji7⟩ : ∃ j_ : Int, (IntKind.u64.wrap (x5_2)) = j_ := ⟨_, rfl⟩
      replace H : (if 0 ≤ (ji7) then (if x4_2.length < 140737488355328 then (engrossref1_FloatBytes.l0 k2 x3_3 (x4_2 ++ [(shr .u64 x3_3 (ji7)) % 256]) (wrap64 (x5_2 - 8))) else (none)) else (none)) = some r := by first | (rw [hji7] at H; exact H) | (simp only [hji7] at H ⊢; exact H)
      by_cases c8 : 0 ≤ (ji7)
      ·rw [if_pos c8] at H
       have c8b0 := eq_true c8
       have c8b1 : decide (0 ≤ (ji7)) = true := decide_eq_true c8
       clear c8
       obtain ⟨ji9, hji9⟩ : ∃ j_ : Int, (shr .u64 x3_3 (ji7)) = j_ := ⟨_, rfl⟩
       replace H : (if x4_2.length < 140737488355328 then (engrossref1_FloatBytes.l0 k2 x3_3 (x4_2 ++ [(ji9) % 256]) (wrap64 (x5_2 - 8))) else (none)) = some r := by first | (rw [hji9] at H; exact H) | (simp only [hji9] at H ⊢; exact H)
       have hji9_ : (x3_3 / 2 ^ min (ji7).toNat 64) = ji9 := hji9
       have hji9z : (ji7) ≤ 64 → (x3_3 / 2 ^ (ji7).toNat) = ji9 := shr_small hji9
       by_cases c10 : x4_2.length < 140737488355328
       ·rw [if_pos c10] at H
        have LMc10 := Aside0.mk c10
        clear c10
        obtain ⟨y156, hy156⟩ : ∃ y_ : List Int, y_ = (x4_2 ++ [(ji9) % 256]) := ⟨_, rfl⟩
        replace H : (engrossref1_FloatBytes.l0 k2 x3_3 y156 (wrap64 (x5_2 - 8))) = some r := by first | (rw [hy156]; with_reducible exact H) | (have H2_ := (Option.bind_some _ _).symm.trans H; rw [hy156]; with_reducible exact H2_) | (have H2_ := (Option.bind_some _ _).symm.trans H; with_reducible exact H2_) | with_reducible exact H | (rw [hy156]; exact H) | exact H
        have Ny156 := Aside0.mk hy156
        clear hy156
        have H' := Aside0.mk H
        clear H
        go_wp2_with (first | ((with_reducible refine gate_builtin (b := .append) (xs := #[.tmp 16, .tmp 22]) rfl ?_); at_builtin; refine Kd.R_append (Kd.int .u8) (w0 := w) w.heap.size rfl (.tmp 16) (.tmp 22) 27 5 (.int .u8 0) 1 rfl Try.underlying27 info5 rfl (by decide) (by omega) u4 x4_2 ((ji9) % 256) [.int .u8 ((ji9) % 256)] (fun _ => True) (fun _ => False) rfl rfl ?aP (fun _ hk => hk.elim) ?aF ?aO ?aB ?aS ?aL ?_; (case aP => exact rfl); (case aB => exact (bC HB)); (case aF => exact (fun _ _ => trivial)); (case aO => exact (by (with_reducible repeat (first | apply Kd.R_alloc | apply Kd.R_drewN | apply Kd.R_drew)); exact HO_4.out)); (case aS => exact (below_size (bC HB))); (case aL => have := LMc10.out; omega); intro v157 w11 ho hb hg hat; rw [← Ny156.out] at ho; have HO158 := Aside0.mk (ho); replace HB := Aside0.mk (hb); clear HO_4; clear ho hb hg hat))
        go_roundg k2
        case measure => have := HJ3.out; have := HK2.out; omega
        case rel => exact ⟨(y156), (wrap64 (x5_2 - 8)), (by first | rfl | (simp; done) | (simp [*]; done)), H', ⟨by have := HJ3.out; have := HK2.out; omega⟩, ⟨by (with_reducible repeat (first | apply Kd.R_alloc | apply Kd.R_drewN | apply Kd.R_drew)); exact HO158.out⟩, ⟨by repeat (first | (with_reducible first | exact HB.out | apply below_alloc | apply pw_below_drewN | apply below_drew1) | exact HB.out)⟩⟩
       ·rw [if_neg c10] at H
        exact absurd H (by simp)
      ·rw [if_neg c8] at H
       exact absurd H (by simp)
     ·rw [if_neg c6] at H
      have c6b0 : decide (0 ≤ x5_2) = false := decide_eq_false c6
      clear c6
      obtain rfl := Option.some.inj H
      go_wp2
      go_ret
      exact ⟨_, by first | rfl | (simp [errW_none, errW_some] <;> rfl) | (simp [*, errW_none, errW_some] <;> rfl), by (with_reducible repeat (first | apply Kd.R_alloc | apply Kd.R_drewN | apply Kd.R_drew)); exact HO_4.out, by repeat (first | (with_reducible first | exact HB.out | apply below_alloc | apply pw_below_drewN | apply below_drew1) | exact HB.out)⟩

/-! ### engrossref1_Clean: function 24 -/
def engrossref1_Clean.f (a0 : Nat) : Option (Nat) := (engrossref1_NaN.f a0).bind fun t159 => (if t159 = true then (some 9221120237041090560) else (some a0))
set_option maxHeartbeats 8000000 in
set_option maxRecDepth 100000 in
theorem engrossref1_Clean.calls (a0 : Nat) (r : Nat) (w : World) (h : engrossref1_Clean.f a0 = some r) :
  Calls Try.prog 24 #[.float .f64 a0] w fun e w' => e = .returned (.float .f64 r) ∧ Drawn0 w w' := by
 have H : ((engrossref1_NaN.f a0).bind fun t159 => (if t159 = true then (some 9221120237041090560) else (some a0))) = some r := h
 clear h
 replace H := Option.bind_eq_some_iff.mp H
 obtain ⟨t159, A20, H⟩ := H
 replace H : (if t159 = true then (some 9221120237041090560) else (some a0)) = some r := H
 have A2 := Aside0.mk A20
 clear A20
 by_cases c3 : t159 = true
 ·subst c3
  have H1 : (some 9221120237041090560) = some r := by rw [if_pos rfl] at H; exact H
  clear H
  have H := H1
  clear H1
  obtain rfl := Option.some.inj H
  go_enter Try.func24, Try.ntmps24
  go_wp2_with (first | ((with_reducible refine gate_callee (f := 28) rfl ?_); refine goesL_ (some 4) rfl rfl Try.func28 (by kernel_rfl) rfl #[.float .f64 a0] rfl (by (try simp only [List.map_toArray, List.map_cons, List.map_nil]); first | done | rfl | (simp only [List.length_drop, List.length_take]; rfl)) ?_; (with_reducible refine (engrossref1_NaN.calls a0 true _ A2.out).mono ?_); rintro e w' ⟨rfl, ⟨nd, rfl⟩⟩; refine ⟨_, rfl, ?_⟩))
  go_ret
  exact ⟨by first | rfl | (simp; done) | (simp [*]; done), by repeat (first | exact Drawn0.refl _ | apply Drawn0.step)⟩
 ·replace c3 := Bool.eq_false_iff.mpr c3
  subst c3
  have H1 : (some a0) = some r := by rw [if_neg (show ¬ (false = true) by decide)] at H; exact H
  clear H
  have H := H1
  clear H1
  obtain rfl := Option.some.inj H
  go_enter Try.func24, Try.ntmps24
  go_wp2_with (first | ((with_reducible refine gate_callee (f := 28) rfl ?_); refine goesL_ (some 4) rfl rfl Try.func28 (by kernel_rfl) rfl #[.float .f64 a0] rfl (by (try simp only [List.map_toArray, List.map_cons, List.map_nil]); first | done | rfl | (simp only [List.length_drop, List.length_take]; rfl)) ?_; (with_reducible refine (engrossref1_NaN.calls a0 false _ A2.out).mono ?_); rintro e w' ⟨rfl, ⟨nd, rfl⟩⟩; refine ⟨_, rfl, ?_⟩))
  go_ret
  exact ⟨by first | rfl | (simp; done) | (simp [*]; done), by repeat (first | exact Drawn0.refl _ | apply Drawn0.step)⟩

/-! ### engrosslaw1_Short: function 26 -/
def engrosslaw1_Short.f (l0 : List Int) (a1 : Int) : Option (List Int) := if (l0.length : Int) > a1 then (if 0 ≤ a1 then (if a1 ≤ (l0.length : Int) then (some (l0.take (a1 : Int).toNat)) else (none)) else (none)) else (some l0)
set_option maxHeartbeats 8000000 in
set_option maxRecDepth 100000 in
theorem engrosslaw1_Short.calls (P0_ : Nat → Prop) (A0 : Option Addr) (c0 : Nat) (l0 : List Int) (a1 : Int) (r : List Int) (w : World) (hs0 : Kd.V (Kd.int .u8) 5 w w.heap.size (fun k_ => P0_ k_) (.slice A0 l0.length c0) l0) (h : engrosslaw1_Short.f l0 a1 = some r) :
  Calls Try.prog 26 #[.slice A0 l0.length c0, .int .i64 a1] w fun e w' => ∃ v0_ : Value, e = .returned (v0_) ∧ Kd.V (Kd.int .u8) 5 w' w.heap.size (fun k_ => (P0_ k_ ∨ w.heap.size ≤ k_)) v0_ r ∧ Below w.heap.size w w' := by
 have HO0 := Aside0.mk (show Kd.V (Kd.int .u8) 5 w w.heap.size (fun k_ => (P0_ k_ ∨ w.heap.size ≤ k_)) (.slice A0 l0.length c0) l0 from Kd.V_mono hs0 (fun k_ hk => .inl hk))
 have HB := Aside0.mk (Below.refl w.heap.size w)
 have H : (if (l0.length : Int) > a1 then (if 0 ≤ a1 then (if a1 ≤ (l0.length : Int) then (some (l0.take (a1 : Int).toNat)) else (none)) else (none)) else (some l0)) = some r := h
 clear h
 by_cases c3 : (l0.length : Int) > a1
 ·rw [if_pos c3] at H
  have c3b0 : decide (a1 < (l0.length : Int)) = true := decide_eq_true c3
  clear c3
  by_cases c4 : 0 ≤ a1
  ·rw [if_pos c4] at H
   have c4b0 := eq_true c4
   have c4b1 : decide (0 ≤ a1) = true := decide_eq_true c4
   clear c4
   by_cases c5 : a1 ≤ (l0.length : Int)
   ·rw [if_pos c5] at H
    have c5b0 := eq_true c5
    have c5b1 : decide (a1 ≤ (l0.length : Int)) = true := decide_eq_true c5
    clear c5
    obtain ⟨y160, hy160⟩ : ∃ y_ : List Int, y_ = (l0.take (a1 : Int).toNat) := ⟨_, rfl⟩
    replace H : (some y160) = some r := by first | (rw [hy160]; with_reducible exact H) | (have H2_ := (Option.bind_some _ _).symm.trans H; rw [hy160]; with_reducible exact H2_) | (have H2_ := (Option.bind_some _ _).symm.trans H; with_reducible exact H2_) | with_reducible exact H | (rw [hy160]; exact H) | exact H
    have Ny160 := Aside0.mk hy160
    clear hy160
    obtain rfl := Option.some.inj H
    have q6 : (a1 : Int) ≤ ((l0.length : Int) : Int) := of_decide_eq_true (by first | (with_reducible assumption) | assumption)
    obtain ⟨i06, hi06, _, hsz6, _⟩ := info_parts info5
    have hroom6 : l0.length ≤ c0 := (Kd.V_reads' HO0.out).2.1
    have hC6 : Kd.F (Kd.int .u8) _ _ A0 l0.length l0 := (Kd.V_at (base := w.heap.size) HO0.out).2.2
    have hcut6 := cut_to (P := Try.prog) 27 5 .i64 Try.underlying27 hi06 A0 l0.length c0 a1 (of_decide_eq_true (by first | (with_reducible assumption) | assumption)) q6 hroom6
    have hr6 := Kd.F_take (m := (a1 : Int).toNat) hC6 (by omega)
    have hy6 : y160.length = (a1 : Int).toNat := (by rw [Ny160.out, List.length_take]; omega)
    rw [← Ny160.out] at hr6
    rw [← hy6] at hcut6
    have HO164 := Aside0.mk (show Kd.V (Kd.int .u8) 5 _ w.heap.size _ (.slice A0 y160.length c0) y160 from Kd.V_mk (by omega) hr6)
    have HC164 := Aside0.mk (show y160.length ≤ c0 from by omega)
    clear hr6 hC6 hroom6 hi06 hsz6
    have KY6 := Aside0.mk hy6
    clear hy6
    replace q6 := eq_true q6
    go_enter Try.func26, Try.ntmps26
    go_wp2
    go_ret
    exact ⟨_, by first | rfl | (simp [errW_none, errW_some] <;> rfl) | (simp [*, errW_none, errW_some] <;> rfl), by (with_reducible repeat (first | apply Kd.V_alloc | apply Kd.V_drewN | apply Kd.V_drew)); exact HO164.out, by repeat (first | (with_reducible first | exact HB.out | apply below_alloc | apply pw_below_drewN | apply below_drew1) | exact HB.out)⟩
   ·rw [if_neg c5] at H
    exact absurd H (by simp)
  ·rw [if_neg c4] at H
   exact absurd H (by simp)
 ·rw [if_neg c3] at H
  have c3b0 : decide (a1 < (l0.length : Int)) = false := decide_eq_false c3
  clear c3
  obtain rfl := Option.some.inj H
  go_enter Try.func26, Try.ntmps26
  go_wp2
  go_ret
  exact ⟨_, by first | rfl | (simp [errW_none, errW_some] <;> rfl) | (simp [*, errW_none, errW_some] <;> rfl), by (with_reducible repeat (first | apply Kd.V_alloc | apply Kd.V_drewN | apply Kd.V_drew)); exact HO0.out, by repeat (first | (with_reducible first | exact HB.out | apply below_alloc | apply pw_below_drewN | apply below_drew1) | exact HB.out)⟩

end Go.Proofs.Ytaphfjfalbeojaa.P
