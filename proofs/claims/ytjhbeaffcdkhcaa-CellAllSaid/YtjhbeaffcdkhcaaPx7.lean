/- Functions of the program as Lean functions, and that each call answers as its function does. No condition. (Lines written by a generator of this session.) -/
import Derived.Test.YtjhbeaffcdkhcaaPx0
import Derived.Test.YtjhbeaffcdkhcaaPx1
import Derived.Test.YtjhbeaffcdkhcaaPx2
import Derived.Test.YtjhbeaffcdkhcaaPx5
import Derived.Test.YtjhbeaffcdkhcaaPx6
namespace Go.Proofs.Ytjhbeaffcdkhcaa.P
open Go.RowKit Go.Proofs.YtjhbeaffcdkhcaaW.PrintWords Go.Proofs.YtjhbeaffcdkhcaaW.PrintLast Go.Proofs.YtjhbeaffcdkhcaaW.PrintMore
attribute [local go_sem] max2_int min2_int max_two min_two max_three min_three max_four min_four   -- for this text's walks alone
attribute [local go_sem] x_str_gtr x_str_leq x_str_geq ext_bits ext_frombits ext_neg x_store_float Instr.field asAgg
set_option linter.unusedVariables false
set_option linter.unusedSimpArgs false

/-! ### engrosslaw10_CellAll: function 3 -/
mutual
def engrosslaw10_CellAll.j0 : Nat → Int → Bool → ByteArray → Int → Nat → ByteArray → Int → Int → Nat → ByteArray → ByteArray → Int → Nat → ByteArray → Int → Int → Nat → ByteArray → Int → Nat → ByteArray → Option (Bool)
 | 0, _, _, _, _, _, _, _, _, _, _, _, _, _, _, _, _, _, _, _, _, _ => none
 | k + 1, x2, x41, x370000, x370001, x370002, x370003, x370004, x370005, x370006, x370007, x371000, x371001, x371002, x371003, x371004, x371005, x371006, x371007, x372000, x372001, x372002 => if x41 = true then (none) else ((engrossref10_May.f x370000 x370001 x370002 x370003 x370004 x370005 x370006 x370007).bind fun t412 => (if t412 = true then ((engrosslaw10_Of.f x370000 x370001 x370002 x370003 x370004 x370005 x370006 x370007).bind fun bt413 => ((cell_See.f bt413.1 bt413.2.1 bt413.2.2.1 bt413.2.2.2.1 bt413.2.2.2.2.1 bt413.2.2.2.2.2.1 bt413.2.2.2.2.2.2.1 bt413.2.2.2.2.2.2.2 x2).bind fun bt421 => ((engrossref10_See.f x370000 x370001 x370002 x370003 x370004 x370005 x370006 x370007 x2).bind fun bt424 => ((engrossref1_EqVal.f bt421.1 bt421.2.1 bt421.2.2 bt424.1 bt424.2.1 bt424.2.2).bind fun t427 => (if t427 = true then ((engrossref10_May.f x371000 x371001 x371002 x371003 x371004 x371005 x371006 x371007).bind fun t428 => (if t428 = true then ((engrosslaw10_Of.f x370000 x370001 x370002 x370003 x370004 x370005 x370006 x370007).bind fun bt429 => ((engrosslaw10_Of.f x371000 x371001 x371002 x371003 x371004 x371005 x371006 x371007).bind fun bt437 => ((cell_Eq.f bt429.1 bt429.2.1 bt429.2.2.1 bt429.2.2.2.1 bt429.2.2.2.2.1 bt429.2.2.2.2.2.1 bt429.2.2.2.2.2.2.1 bt429.2.2.2.2.2.2.2 bt437.1 bt437.2.1 bt437.2.2.1 bt437.2.2.2.1 bt437.2.2.2.2.1 bt437.2.2.2.2.2.1 bt437.2.2.2.2.2.2.1 bt437.2.2.2.2.2.2.2).bind fun t445 => ((engrossref10_Eq.f x370000 x370001 x370002 x370003 x370004 x370005 x370006 x370007 x371000 x371001 x371002 x371003 x371004 x371005 x371006 x371007).bind fun t446 => (engrosslaw10_CellAll.j1 k x2 (t445 != t446) x370000 x370001 x370002 x370003 x370004 x370005 x370006 x370007 x372000 x372001 x372002))))) else (engrosslaw10_CellAll.j1 k x2 false x370000 x370001 x370002 x370003 x370004 x370005 x370006 x370007 x372000 x372001 x372002))) else (none)))))) else (some true)))
def engrosslaw10_CellAll.j1 : Nat → Int → Bool → ByteArray → Int → Nat → ByteArray → Int → Int → Nat → ByteArray → Int → Nat → ByteArray → Option (Bool)
 | 0, _, _, _, _, _, _, _, _, _, _, _, _, _ => none
 | k + 1, x2, x68, x370000, x370001, x370002, x370003, x370004, x370005, x370006, x370007, x372000, x372001, x372002 => if x68 = true then (none) else ((engrosslaw10_Of.f x370000 x370001 x370002 x370003 x370004 x370005 x370006 x370007).bind fun bt447 => ((cell_Commit.f bt447.1 bt447.2.1 bt447.2.2.1 bt447.2.2.2.1 bt447.2.2.2.2.1 bt447.2.2.2.2.2.1 bt447.2.2.2.2.2.2.1 bt447.2.2.2.2.2.2.2).bind fun bt455 => ((engrossref10_Commit.f x370000 x370001 x370002 x370003 x370004 x370005 x370006 x370007).bind fun bt465 => ((engrosslaw10_Of.f x370000 x370001 x370002 x370003 x370004 x370005 x370006 x370007).bind fun bt475 => ((cell_Undo.f bt475.1 bt475.2.1 bt475.2.2.1 bt475.2.2.2.1 bt475.2.2.2.2.1 bt475.2.2.2.2.2.1 bt475.2.2.2.2.2.2.1 bt475.2.2.2.2.2.2.2).bind fun bt483 => ((engrossref10_Undo.f x370000 x370001 x370002 x370003 x370004 x370005 x370006 x370007).bind fun bt493 => (if (bt455.2.2.2.2.2.2.2.2 != bt465.2.2.2.2.2.2.2.2) = true then (none) else (if (bt483.2.2.2.2.2.2.2.2 != bt493.2.2.2.2.2.2.2.2) = true then (none) else ((engrosslaw10_Back.f bt455.1 bt455.2.1 bt455.2.2.1 bt455.2.2.2.1 bt455.2.2.2.2.1 bt455.2.2.2.2.2.1 bt455.2.2.2.2.2.2.1 bt455.2.2.2.2.2.2.2.1).bind fun bt503 => ((engrossref10_Eq.f bt503.1 bt503.2.1 bt503.2.2.1 bt503.2.2.2.1 bt503.2.2.2.2.1 bt503.2.2.2.2.2.1 bt503.2.2.2.2.2.2.1 bt503.2.2.2.2.2.2.2 bt465.1 bt465.2.1 bt465.2.2.1 bt465.2.2.2.1 bt465.2.2.2.2.1 bt465.2.2.2.2.2.1 bt465.2.2.2.2.2.2.1 bt465.2.2.2.2.2.2.2.1).bind fun t511 => (if t511 = true then ((engrosslaw10_Back.f bt483.1 bt483.2.1 bt483.2.2.1 bt483.2.2.2.1 bt483.2.2.2.2.1 bt483.2.2.2.2.2.1 bt483.2.2.2.2.2.2.1 bt483.2.2.2.2.2.2.2.1).bind fun bt512 => ((engrossref10_Eq.f bt512.1 bt512.2.1 bt512.2.2.1 bt512.2.2.2.1 bt512.2.2.2.2.1 bt512.2.2.2.2.2.1 bt512.2.2.2.2.2.2.1 bt512.2.2.2.2.2.2.2 bt493.1 bt493.2.1 bt493.2.2.1 bt493.2.2.2.1 bt493.2.2.2.2.1 bt493.2.2.2.2.2.1 bt493.2.2.2.2.2.2.1 bt493.2.2.2.2.2.2.2.1).bind fun t520 => (engrosslaw10_CellAll.j2 k x2 (!t520) x370000 x370001 x370002 x370003 x370004 x370005 x370006 x370007 x372000 x372001 x372002))) else (none))))))))))))
def engrosslaw10_CellAll.j2 : Nat → Int → Bool → ByteArray → Int → Nat → ByteArray → Int → Int → Nat → ByteArray → Int → Nat → ByteArray → Option (Bool)
 | 0, _, _, _, _, _, _, _, _, _, _, _, _, _ => none
 | k + 1, x2, x112, x370000, x370001, x370002, x370003, x370004, x370005, x370006, x370007, x372000, x372001, x372002 => if x112 = true then (none) else (if x2 < 1 then (engrosslaw10_CellAll.j3 k x2 true x370000 x370001 x370002 x370003 x370004 x370005 x370006 x370007 x372000 x372001 x372002) else (if x2 > 1099511627776 then (engrosslaw10_CellAll.j3 k x2 true x370000 x370001 x370002 x370003 x370004 x370005 x370006 x370007 x372000 x372001 x372002) else ((engrossref1_MayVal.f x372000 x372001 x372002).bind fun t521 => (engrosslaw10_CellAll.j3 k x2 (!t521) x370000 x370001 x370002 x370003 x370004 x370005 x370006 x370007 x372000 x372001 x372002))))
def engrosslaw10_CellAll.j3 : Nat → Int → Bool → ByteArray → Int → Nat → ByteArray → Int → Int → Nat → ByteArray → Int → Nat → ByteArray → Option (Bool)
 | 0, _, _, _, _, _, _, _, _, _, _, _, _, _ => none
 | k + 1, x2, x123, x370000, x370001, x370002, x370003, x370004, x370005, x370006, x370007, x372000, x372001, x372002 => if x123 = true then (some true) else ((engrosslaw10_Of.f x370000 x370001 x370002 x370003 x370004 x370005 x370006 x370007).bind fun bt522 => ((cell_Write.f bt522.1 bt522.2.1 bt522.2.2.1 bt522.2.2.2.1 bt522.2.2.2.2.1 bt522.2.2.2.2.2.1 bt522.2.2.2.2.2.2.1 bt522.2.2.2.2.2.2.2 x2 x372000 x372001 x372002).bind fun bt530 => ((engrosslaw10_Back.f bt530.1 bt530.2.1 bt530.2.2.1 bt530.2.2.2.1 bt530.2.2.2.2.1 bt530.2.2.2.2.2.1 bt530.2.2.2.2.2.2.1 bt530.2.2.2.2.2.2.2).bind fun bt538 => (if bt538.1.toList = x370000.toList then (if bt538.2.2.2.2.1 = x2 then ((engrossref1_EqVal.f bt538.2.1 bt538.2.2.1 bt538.2.2.2.1 x370001 x370002 x370003).bind fun t547 => (if t547 = true then ((engrossref1_EqVal.f bt538.2.2.2.2.2.1 bt538.2.2.2.2.2.2.1 bt538.2.2.2.2.2.2.2 x372000 x372001 x372002).bind fun t548 => (some t548)) else (none))) else (none)) else (none)))))
end
def engrosslaw10_CellAll.f (k : Nat) (a0_0 : ByteArray) (a0_1 : Int) (a0_2 : Nat) (a0_3 : ByteArray) (a0_4 : Int) (a0_5 : Int) (a0_6 : Nat) (a0_7 : ByteArray) (a1_0 : ByteArray) (a1_1 : Int) (a1_2 : Nat) (a1_3 : ByteArray) (a1_4 : Int) (a1_5 : Int) (a1_6 : Nat) (a1_7 : ByteArray) (a2 : Int) (a3_0 : Int) (a3_1 : Nat) (a3_2 : ByteArray) : Option (Bool) := (engrosslaw10_begun.f k).bind fun t372 => (if t372 = true then ((engrosslaw10_Cut.f a0_0 a0_1 a0_2 a0_3 a0_4 a0_5 a0_6 a0_7).bind fun bt373 => ((engrosslaw10_Cut.f a1_0 a1_1 a1_2 a1_3 a1_4 a1_5 a1_6 a1_7).bind fun bt381 => ((engrosslaw10_Val.f a3_0 a3_1 a3_2).bind fun bt389 => ((engrosslaw10_Of.f bt373.1 bt373.2.1 bt373.2.2.1 bt373.2.2.2.1 bt373.2.2.2.2.1 bt373.2.2.2.2.2.1 bt373.2.2.2.2.2.2.1 bt373.2.2.2.2.2.2.2).bind fun bt392 => ((cell_May.f k bt392.1 bt392.2.1 bt392.2.2.1 bt392.2.2.2.1 bt392.2.2.2.2.1 bt392.2.2.2.2.2.1 bt392.2.2.2.2.2.2.1 bt392.2.2.2.2.2.2.2).bind fun t400 => ((engrossref10_May.f bt373.1 bt373.2.1 bt373.2.2.1 bt373.2.2.2.1 bt373.2.2.2.2.1 bt373.2.2.2.2.2.1 bt373.2.2.2.2.2.2.1 bt373.2.2.2.2.2.2.2).bind fun t401 => (if (t400 != t401) = true then (none) else ((engrosslaw10_Of.f bt381.1 bt381.2.1 bt381.2.2.1 bt381.2.2.2.1 bt381.2.2.2.2.1 bt381.2.2.2.2.2.1 bt381.2.2.2.2.2.2.1 bt381.2.2.2.2.2.2.2).bind fun bt402 => ((cell_May.f k bt402.1 bt402.2.1 bt402.2.2.1 bt402.2.2.2.1 bt402.2.2.2.2.1 bt402.2.2.2.2.2.1 bt402.2.2.2.2.2.2.1 bt402.2.2.2.2.2.2.2).bind fun t410 => ((engrossref10_May.f bt381.1 bt381.2.1 bt381.2.2.1 bt381.2.2.2.1 bt381.2.2.2.2.1 bt381.2.2.2.2.2.1 bt381.2.2.2.2.2.2.1 bt381.2.2.2.2.2.2.2).bind fun t411 => (engrosslaw10_CellAll.j0 k a2 (t410 != t411) bt373.1 bt373.2.1 bt373.2.2.1 bt373.2.2.2.1 bt373.2.2.2.2.1 bt373.2.2.2.2.2.1 bt373.2.2.2.2.2.2.1 bt373.2.2.2.2.2.2.2 bt381.1 bt381.2.1 bt381.2.2.1 bt381.2.2.2.1 bt381.2.2.2.2.1 bt381.2.2.2.2.2.1 bt381.2.2.2.2.2.2.1 bt381.2.2.2.2.2.2.2 bt389.1 bt389.2.1 bt389.2.2))))))))))) else (none))
theorem engrosslaw10_CellAll.mono_l : ∀ k, (∀ y0 y1 y2 y3 y4 y5 y6 y7 y8 y9 y10 y11 y12 y13 y14 y15 y16 y17 y18 y19 y20, LeO (engrosslaw10_CellAll.j0 k y0 y1 y2 y3 y4 y5 y6 y7 y8 y9 y10 y11 y12 y13 y14 y15 y16 y17 y18 y19 y20) (engrosslaw10_CellAll.j0 (k + 1) y0 y1 y2 y3 y4 y5 y6 y7 y8 y9 y10 y11 y12 y13 y14 y15 y16 y17 y18 y19 y20)) ∧ (∀ y0 y1 y2 y3 y4 y5 y6 y7 y8 y9 y10 y11 y12, LeO (engrosslaw10_CellAll.j1 k y0 y1 y2 y3 y4 y5 y6 y7 y8 y9 y10 y11 y12) (engrosslaw10_CellAll.j1 (k + 1) y0 y1 y2 y3 y4 y5 y6 y7 y8 y9 y10 y11 y12)) ∧ (∀ y0 y1 y2 y3 y4 y5 y6 y7 y8 y9 y10 y11 y12, LeO (engrosslaw10_CellAll.j2 k y0 y1 y2 y3 y4 y5 y6 y7 y8 y9 y10 y11 y12) (engrosslaw10_CellAll.j2 (k + 1) y0 y1 y2 y3 y4 y5 y6 y7 y8 y9 y10 y11 y12)) ∧ (∀ y0 y1 y2 y3 y4 y5 y6 y7 y8 y9 y10 y11 y12, LeO (engrosslaw10_CellAll.j3 k y0 y1 y2 y3 y4 y5 y6 y7 y8 y9 y10 y11 y12) (engrosslaw10_CellAll.j3 (k + 1) y0 y1 y2 y3 y4 y5 y6 y7 y8 y9 y10 y11 y12))
 | 0 => ⟨fun _ _ _ _ _ _ _ _ _ _ _ _ _ _ _ _ _ _ _ _ _ r h => by simp [engrosslaw10_CellAll.j0] at h, fun _ _ _ _ _ _ _ _ _ _ _ _ _ r h => by simp [engrosslaw10_CellAll.j1] at h, fun _ _ _ _ _ _ _ _ _ _ _ _ _ r h => by simp [engrosslaw10_CellAll.j2] at h, fun _ _ _ _ _ _ _ _ _ _ _ _ _ r h => by simp [engrosslaw10_CellAll.j3] at h⟩
 | k + 1 => by
  obtain ⟨ih0, ih1, ih2, ih3⟩ := engrosslaw10_CellAll.mono_l k
  refine ⟨?_, ?_, ?_, ?_⟩
  ·intro y0 y1 y2 y3 y4 y5 y6 y7 y8 y9 y10 y11 y12 y13 y14 y15 y16 y17 y18 y19 y20
   unfold engrosslaw10_CellAll.j0
   repeat' first
   | (with_reducible exact ih0 _ _ _ _ _ _ _ _ _ _ _ _ _ _ _ _ _ _ _ _ _)
   | (with_reducible exact ih1 _ _ _ _ _ _ _ _ _ _ _ _ _)
   | (with_reducible exact ih2 _ _ _ _ _ _ _ _ _ _ _ _ _)
   | (with_reducible exact ih3 _ _ _ _ _ _ _ _ _ _ _ _ _)
   | (with_reducible exact cell_May.mono _ _ _ _ _ _ _ _ _)
   | (with_reducible exact engrosslaw10_begun.mono _)
   | (with_reducible exact LeO.refl _)
   | (with_reducible exact LeO.none _)
   | (with_reducible refine LeO.ite ?_ ?_)
   | (with_reducible refine LeO.bind ?_ (fun _ => ?_))
   | exact ih0 _ _ _ _ _ _ _ _ _ _ _ _ _ _ _ _ _ _ _ _ _
   | exact ih1 _ _ _ _ _ _ _ _ _ _ _ _ _
   | exact ih2 _ _ _ _ _ _ _ _ _ _ _ _ _
   | exact ih3 _ _ _ _ _ _ _ _ _ _ _ _ _
   | exact cell_May.mono _ _ _ _ _ _ _ _ _
   | exact engrosslaw10_begun.mono _
   | exact LeO.none _
   | refine LeO.ite ?_ ?_
   | refine LeO.bind ?_ (fun _ => ?_)
  ·intro y0 y1 y2 y3 y4 y5 y6 y7 y8 y9 y10 y11 y12
   unfold engrosslaw10_CellAll.j1
   repeat' first
   | (with_reducible exact ih0 _ _ _ _ _ _ _ _ _ _ _ _ _ _ _ _ _ _ _ _ _)
   | (with_reducible exact ih1 _ _ _ _ _ _ _ _ _ _ _ _ _)
   | (with_reducible exact ih2 _ _ _ _ _ _ _ _ _ _ _ _ _)
   | (with_reducible exact ih3 _ _ _ _ _ _ _ _ _ _ _ _ _)
   | (with_reducible exact cell_May.mono _ _ _ _ _ _ _ _ _)
   | (with_reducible exact engrosslaw10_begun.mono _)
   | (with_reducible exact LeO.refl _)
   | (with_reducible exact LeO.none _)
   | (with_reducible refine LeO.ite ?_ ?_)
   | (with_reducible refine LeO.bind ?_ (fun _ => ?_))
   | exact ih0 _ _ _ _ _ _ _ _ _ _ _ _ _ _ _ _ _ _ _ _ _
   | exact ih1 _ _ _ _ _ _ _ _ _ _ _ _ _
   | exact ih2 _ _ _ _ _ _ _ _ _ _ _ _ _
   | exact ih3 _ _ _ _ _ _ _ _ _ _ _ _ _
   | exact cell_May.mono _ _ _ _ _ _ _ _ _
   | exact engrosslaw10_begun.mono _
   | exact LeO.none _
   | refine LeO.ite ?_ ?_
   | refine LeO.bind ?_ (fun _ => ?_)
  ·intro y0 y1 y2 y3 y4 y5 y6 y7 y8 y9 y10 y11 y12
   unfold engrosslaw10_CellAll.j2
   repeat' first
   | (with_reducible exact ih0 _ _ _ _ _ _ _ _ _ _ _ _ _ _ _ _ _ _ _ _ _)
   | (with_reducible exact ih1 _ _ _ _ _ _ _ _ _ _ _ _ _)
   | (with_reducible exact ih2 _ _ _ _ _ _ _ _ _ _ _ _ _)
   | (with_reducible exact ih3 _ _ _ _ _ _ _ _ _ _ _ _ _)
   | (with_reducible exact cell_May.mono _ _ _ _ _ _ _ _ _)
   | (with_reducible exact engrosslaw10_begun.mono _)
   | (with_reducible exact LeO.refl _)
   | (with_reducible exact LeO.none _)
   | (with_reducible refine LeO.ite ?_ ?_)
   | (with_reducible refine LeO.bind ?_ (fun _ => ?_))
   | exact ih0 _ _ _ _ _ _ _ _ _ _ _ _ _ _ _ _ _ _ _ _ _
   | exact ih1 _ _ _ _ _ _ _ _ _ _ _ _ _
   | exact ih2 _ _ _ _ _ _ _ _ _ _ _ _ _
   | exact ih3 _ _ _ _ _ _ _ _ _ _ _ _ _
   | exact cell_May.mono _ _ _ _ _ _ _ _ _
   | exact engrosslaw10_begun.mono _
   | exact LeO.none _
   | refine LeO.ite ?_ ?_
   | refine LeO.bind ?_ (fun _ => ?_)
  ·intro y0 y1 y2 y3 y4 y5 y6 y7 y8 y9 y10 y11 y12
   unfold engrosslaw10_CellAll.j3
   repeat' first
   | (with_reducible exact ih0 _ _ _ _ _ _ _ _ _ _ _ _ _ _ _ _ _ _ _ _ _)
   | (with_reducible exact ih1 _ _ _ _ _ _ _ _ _ _ _ _ _)
   | (with_reducible exact ih2 _ _ _ _ _ _ _ _ _ _ _ _ _)
   | (with_reducible exact ih3 _ _ _ _ _ _ _ _ _ _ _ _ _)
   | (with_reducible exact cell_May.mono _ _ _ _ _ _ _ _ _)
   | (with_reducible exact engrosslaw10_begun.mono _)
   | (with_reducible exact LeO.refl _)
   | (with_reducible exact LeO.none _)
   | (with_reducible refine LeO.ite ?_ ?_)
   | (with_reducible refine LeO.bind ?_ (fun _ => ?_))
   | exact ih0 _ _ _ _ _ _ _ _ _ _ _ _ _ _ _ _ _ _ _ _ _
   | exact ih1 _ _ _ _ _ _ _ _ _ _ _ _ _
   | exact ih2 _ _ _ _ _ _ _ _ _ _ _ _ _
   | exact ih3 _ _ _ _ _ _ _ _ _ _ _ _ _
   | exact cell_May.mono _ _ _ _ _ _ _ _ _
   | exact engrosslaw10_begun.mono _
   | exact LeO.none _
   | refine LeO.ite ?_ ?_
   | refine LeO.bind ?_ (fun _ => ?_)
theorem engrosslaw10_CellAll.mono : ∀ a0 a1 a2 a3 a4 a5 a6 a7 a8 a9 a10 a11 a12 a13 a14 a15 a16 a17 a18 a19 k, LeO (engrosslaw10_CellAll.f k a0 a1 a2 a3 a4 a5 a6 a7 a8 a9 a10 a11 a12 a13 a14 a15 a16 a17 a18 a19) (engrosslaw10_CellAll.f (k + 1) a0 a1 a2 a3 a4 a5 a6 a7 a8 a9 a10 a11 a12 a13 a14 a15 a16 a17 a18 a19) := by
 intro a0 a1 a2 a3 a4 a5 a6 a7 a8 a9 a10 a11 a12 a13 a14 a15 a16 a17 a18 a19 k
 obtain ⟨ih0, ih1, ih2, ih3⟩ := engrosslaw10_CellAll.mono_l k
 unfold engrosslaw10_CellAll.f
 repeat' first
   | (with_reducible exact ih0 _ _ _ _ _ _ _ _ _ _ _ _ _ _ _ _ _ _ _ _ _)
   | (with_reducible exact ih1 _ _ _ _ _ _ _ _ _ _ _ _ _)
   | (with_reducible exact ih2 _ _ _ _ _ _ _ _ _ _ _ _ _)
   | (with_reducible exact ih3 _ _ _ _ _ _ _ _ _ _ _ _ _)
   | (with_reducible exact cell_May.mono _ _ _ _ _ _ _ _ _)
   | (with_reducible exact engrosslaw10_begun.mono _)
   | (with_reducible exact LeO.refl _)
   | (with_reducible exact LeO.none _)
   | (with_reducible refine LeO.ite ?_ ?_)
   | (with_reducible refine LeO.bind ?_ (fun _ => ?_))
   | exact ih0 _ _ _ _ _ _ _ _ _ _ _ _ _ _ _ _ _ _ _ _ _
   | exact ih1 _ _ _ _ _ _ _ _ _ _ _ _ _
   | exact ih2 _ _ _ _ _ _ _ _ _ _ _ _ _
   | exact ih3 _ _ _ _ _ _ _ _ _ _ _ _ _
   | exact cell_May.mono _ _ _ _ _ _ _ _ _
   | exact engrosslaw10_begun.mono _
   | exact LeO.none _
   | refine LeO.ite ?_ ?_
   | refine LeO.bind ?_ (fun _ => ?_)
def engrosslaw10_CellAll.T4 : Bool × List (List Nat × List Nat) := (true, [([], []), ([0], [0]), ([], []), ([2, 1], [2]), ([], []), ([4, 3], [4]), ([1, 5, 0, 1], [1]), ([3, 6, 0, 1, 2, 3, 6], [3]), ([5, 7, 0, 1, 2, 3, 4, 5, 6, 7], [5])])
def engrosslaw10_CellAll.B4 : List Nat := [0, 1, 0, 7, 0, 31, 63, 127, 255]
theorem engrosslaw10_CellAll.tab4 : rtab .any (opsOf Try.f3 4) = engrosslaw10_CellAll.T4 := by kernel_rfl
theorem engrosslaw10_CellAll.bits4 : waitsOk engrosslaw10_CellAll.T4.2 engrosslaw10_CellAll.B4 = true := by kernel_rfl
def engrosslaw10_CellAll.T5 : Bool × List (List Nat × List Nat) := (true, [([], []), ([0], [0]), ([1, 1], [1]), ([], []), ([3, 2], [3]), ([2, 4], [2, 4]), ([5, 4], [5]), ([6], [6]), ([7, 6, 6], [6, 7]), ([8, 8, 6], [6, 8]), ([6], [6]), ([10, 9, 6], [6, 10]), ([9, 11, 6], [6, 9, 11]), ([6, 12], [6, 12])])
def engrosslaw10_CellAll.B5 : List Nat := [0, 1, 3, 0, 15, 31, 63, 127, 255, 511, 127, 2047, 4095, 8191]
theorem engrosslaw10_CellAll.tab5 : rtab .any (opsOf Try.f3 5) = engrosslaw10_CellAll.T5 := by kernel_rfl
theorem engrosslaw10_CellAll.bits5 : waitsOk engrosslaw10_CellAll.T5.2 engrosslaw10_CellAll.B5 = true := by kernel_rfl
def engrosslaw10_CellAll.T9 : Bool × List (List Nat × List Nat) := (true, [([], []), ([0], [0]), ([], []), ([1, 2, 1], [1, 2]), ([], []), ([], []), ([4, 5, 3], [4, 5]), ([3, 6, 6], [3, 6]), ([7], [7]), ([8, 7], [8]), ([9], [9]), ([10, 9, 9], [9, 10]), ([11, 11, 9], [9, 11]), ([12], [12]), ([13, 12, 12], [12, 13]), ([12], [12]), ([15, 14, 12], [12, 15]), ([14, 16, 16, 12], [12, 14, 16]), ([12], [12]), ([12], [12]), ([18, 19, 17, 12], [12, 18, 19]), ([17, 20, 12], [12, 17, 20]), ([12, 21, 9], [9, 12, 21]), ([9, 22], [9, 22])])
def engrosslaw10_CellAll.B9 : List Nat := [0, 1, 0, 7, 0, 0, 63, 127, 255, 511, 1023, 2047, 4095, 8191, 16383, 8191, 65535, 131071, 8191, 8191, 1048575, 2097151, 4194303, 8388607]
theorem engrosslaw10_CellAll.tab9 : rtab .any (opsOf Try.f3 9) = engrosslaw10_CellAll.T9 := by kernel_rfl
theorem engrosslaw10_CellAll.bits9 : waitsOk engrosslaw10_CellAll.T9.2 engrosslaw10_CellAll.B9 = true := by kernel_rfl
def engrosslaw10_CellAll.T15 : Bool × List (List Nat × List Nat) := (true, [([], []), ([], []), ([0, 1], [0, 1]), ([2], [2]), ([3], [3]), ([3], [3]), ([4, 5, 3], [3, 4, 5]), ([3, 6], [3, 6]), ([7, 3], [7]), ([8], [8]), ([9, 8, 8], [8, 9]), ([8], [8]), ([10, 11, 10, 8], [8, 10, 11]), ([12, 8], [8, 12]), ([8, 13], [8, 13]), ([14, 12], [14]), ([15], [15]), ([16, 15, 15], [15, 16]), ([15], [15]), ([17, 18, 17, 15], [15, 17, 18]), ([19, 15], [15, 19]), ([15, 20], [15, 20])])
def engrosslaw10_CellAll.B15 : List Nat := [0, 0, 3, 7, 15, 15, 63, 127, 255, 511, 1023, 511, 4095, 8191, 16383, 32767, 65535, 131071, 65535, 524287, 1048575, 2097151]
theorem engrosslaw10_CellAll.tab15 : rtab .any (opsOf Try.f3 15) = engrosslaw10_CellAll.T15 := by kernel_rfl
theorem engrosslaw10_CellAll.bits15 : waitsOk engrosslaw10_CellAll.T15.2 engrosslaw10_CellAll.B15 = true := by kernel_rfl
def engrosslaw10_CellAll.T19 : Bool × List (List Nat × List Nat) := (true, [([], []), ([0], [0]), ([], []), ([], []), ([1, 2, 3, 1], [1, 2, 3]), ([4, 4], [4]), ([], []), ([6, 5, 5, 0, 1, 2, 3, 4, 5, 6], [5, 6])])
def engrosslaw10_CellAll.B19 : List Nat := [0, 1, 0, 0, 15, 31, 0, 127]
theorem engrosslaw10_CellAll.tab19 : rtab .any (opsOf Try.f3 19) = engrosslaw10_CellAll.T19 := by kernel_rfl
theorem engrosslaw10_CellAll.bits19 : waitsOk engrosslaw10_CellAll.T19.2 engrosslaw10_CellAll.B19 = true := by kernel_rfl
set_option maxHeartbeats 8000000 in
set_option maxRecDepth 100000 in
theorem engrosslaw10_CellAll.calls (k : Nat) (a0_0 : ByteArray) (a0_1 : Int) (a0_2 : Nat) (a0_3 : ByteArray) (a0_4 : Int) (a0_5 : Int) (a0_6 : Nat) (a0_7 : ByteArray) (a1_0 : ByteArray) (a1_1 : Int) (a1_2 : Nat) (a1_3 : ByteArray) (a1_4 : Int) (a1_5 : Int) (a1_6 : Nat) (a1_7 : ByteArray) (a2 : Int) (a3_0 : Int) (a3_1 : Nat) (a3_2 : ByteArray) (r : Bool) (w : World) (h : engrosslaw10_CellAll.f k a0_0 a0_1 a0_2 a0_3 a0_4 a0_5 a0_6 a0_7 a1_0 a1_1 a1_2 a1_3 a1_4 a1_5 a1_6 a1_7 a2 a3_0 a3_1 a3_2 = some r) :
  Calls Try.prog 3 #[.agg #[.string a0_0, .int .i64 a0_1, .float .f64 a0_2, .string a0_3, .int .i64 a0_4, .int .i64 a0_5, .float .f64 a0_6, .string a0_7], .agg #[.string a1_0, .int .i64 a1_1, .float .f64 a1_2, .string a1_3, .int .i64 a1_4, .int .i64 a1_5, .float .f64 a1_6, .string a1_7], .int .i64 a2, .agg #[.int .i64 a3_0, .float .f64 a3_1, .string a3_2]] w fun e w' => e = .returned (.bool r) ∧ Below w.heap.size w w' := by
 have hu26 := Try.underlying26
 have hu24 := Try.underlying24
 have hu31 := Try.underlying31
 have HB := Aside0.mk (Below.refl w.heap.size w)
 have H : ((engrosslaw10_begun.f k).bind fun t372 => (if t372 = true then ((engrosslaw10_Cut.f a0_0 a0_1 a0_2 a0_3 a0_4 a0_5 a0_6 a0_7).bind fun bt373 => ((engrosslaw10_Cut.f a1_0 a1_1 a1_2 a1_3 a1_4 a1_5 a1_6 a1_7).bind fun bt381 => ((engrosslaw10_Val.f a3_0 a3_1 a3_2).bind fun bt389 => ((engrosslaw10_Of.f bt373.1 bt373.2.1 bt373.2.2.1 bt373.2.2.2.1 bt373.2.2.2.2.1 bt373.2.2.2.2.2.1 bt373.2.2.2.2.2.2.1 bt373.2.2.2.2.2.2.2).bind fun bt392 => ((cell_May.f k bt392.1 bt392.2.1 bt392.2.2.1 bt392.2.2.2.1 bt392.2.2.2.2.1 bt392.2.2.2.2.2.1 bt392.2.2.2.2.2.2.1 bt392.2.2.2.2.2.2.2).bind fun t400 => ((engrossref10_May.f bt373.1 bt373.2.1 bt373.2.2.1 bt373.2.2.2.1 bt373.2.2.2.2.1 bt373.2.2.2.2.2.1 bt373.2.2.2.2.2.2.1 bt373.2.2.2.2.2.2.2).bind fun t401 => (if (t400 != t401) = true then (none) else ((engrosslaw10_Of.f bt381.1 bt381.2.1 bt381.2.2.1 bt381.2.2.2.1 bt381.2.2.2.2.1 bt381.2.2.2.2.2.1 bt381.2.2.2.2.2.2.1 bt381.2.2.2.2.2.2.2).bind fun bt402 => ((cell_May.f k bt402.1 bt402.2.1 bt402.2.2.1 bt402.2.2.2.1 bt402.2.2.2.2.1 bt402.2.2.2.2.2.1 bt402.2.2.2.2.2.2.1 bt402.2.2.2.2.2.2.2).bind fun t410 => ((engrossref10_May.f bt381.1 bt381.2.1 bt381.2.2.1 bt381.2.2.2.1 bt381.2.2.2.2.1 bt381.2.2.2.2.2.1 bt381.2.2.2.2.2.2.1 bt381.2.2.2.2.2.2.2).bind fun t411 => (engrosslaw10_CellAll.j0 k a2 (t410 != t411) bt373.1 bt373.2.1 bt373.2.2.1 bt373.2.2.2.1 bt373.2.2.2.2.1 bt373.2.2.2.2.2.1 bt373.2.2.2.2.2.2.1 bt373.2.2.2.2.2.2.2 bt381.1 bt381.2.1 bt381.2.2.1 bt381.2.2.2.1 bt381.2.2.2.2.1 bt381.2.2.2.2.2.1 bt381.2.2.2.2.2.2.1 bt381.2.2.2.2.2.2.2 bt389.1 bt389.2.1 bt389.2.2))))))))))) else (none))) = some r := h
 clear h
 replace H := Option.bind_eq_some_iff.mp H
 obtain ⟨t372, A50, H⟩ := H
 replace H : (if t372 = true then ((engrosslaw10_Cut.f a0_0 a0_1 a0_2 a0_3 a0_4 a0_5 a0_6 a0_7).bind fun bt373 => ((engrosslaw10_Cut.f a1_0 a1_1 a1_2 a1_3 a1_4 a1_5 a1_6 a1_7).bind fun bt381 => ((engrosslaw10_Val.f a3_0 a3_1 a3_2).bind fun bt389 => ((engrosslaw10_Of.f bt373.1 bt373.2.1 bt373.2.2.1 bt373.2.2.2.1 bt373.2.2.2.2.1 bt373.2.2.2.2.2.1 bt373.2.2.2.2.2.2.1 bt373.2.2.2.2.2.2.2).bind fun bt392 => ((cell_May.f k bt392.1 bt392.2.1 bt392.2.2.1 bt392.2.2.2.1 bt392.2.2.2.2.1 bt392.2.2.2.2.2.1 bt392.2.2.2.2.2.2.1 bt392.2.2.2.2.2.2.2).bind fun t400 => ((engrossref10_May.f bt373.1 bt373.2.1 bt373.2.2.1 bt373.2.2.2.1 bt373.2.2.2.2.1 bt373.2.2.2.2.2.1 bt373.2.2.2.2.2.2.1 bt373.2.2.2.2.2.2.2).bind fun t401 => (if (t400 != t401) = true then (none) else ((engrosslaw10_Of.f bt381.1 bt381.2.1 bt381.2.2.1 bt381.2.2.2.1 bt381.2.2.2.2.1 bt381.2.2.2.2.2.1 bt381.2.2.2.2.2.2.1 bt381.2.2.2.2.2.2.2).bind fun bt402 => ((cell_May.f k bt402.1 bt402.2.1 bt402.2.2.1 bt402.2.2.2.1 bt402.2.2.2.2.1 bt402.2.2.2.2.2.1 bt402.2.2.2.2.2.2.1 bt402.2.2.2.2.2.2.2).bind fun t410 => ((engrossref10_May.f bt381.1 bt381.2.1 bt381.2.2.1 bt381.2.2.2.1 bt381.2.2.2.2.1 bt381.2.2.2.2.2.1 bt381.2.2.2.2.2.2.1 bt381.2.2.2.2.2.2.2).bind fun t411 => (engrosslaw10_CellAll.j0 k a2 (t410 != t411) bt373.1 bt373.2.1 bt373.2.2.1 bt373.2.2.2.1 bt373.2.2.2.2.1 bt373.2.2.2.2.2.1 bt373.2.2.2.2.2.2.1 bt373.2.2.2.2.2.2.2 bt381.1 bt381.2.1 bt381.2.2.1 bt381.2.2.2.1 bt381.2.2.2.2.1 bt381.2.2.2.2.2.1 bt381.2.2.2.2.2.2.1 bt381.2.2.2.2.2.2.2 bt389.1 bt389.2.1 bt389.2.2))))))))))) else (none)) = some r := H
 have A5 := Aside0.mk A50
 clear A50
 by_cases c6 : t372 = true
 ·subst c6
  have H1 : ((engrosslaw10_Cut.f a0_0 a0_1 a0_2 a0_3 a0_4 a0_5 a0_6 a0_7).bind fun bt373 => ((engrosslaw10_Cut.f a1_0 a1_1 a1_2 a1_3 a1_4 a1_5 a1_6 a1_7).bind fun bt381 => ((engrosslaw10_Val.f a3_0 a3_1 a3_2).bind fun bt389 => ((engrosslaw10_Of.f bt373.1 bt373.2.1 bt373.2.2.1 bt373.2.2.2.1 bt373.2.2.2.2.1 bt373.2.2.2.2.2.1 bt373.2.2.2.2.2.2.1 bt373.2.2.2.2.2.2.2).bind fun bt392 => ((cell_May.f k bt392.1 bt392.2.1 bt392.2.2.1 bt392.2.2.2.1 bt392.2.2.2.2.1 bt392.2.2.2.2.2.1 bt392.2.2.2.2.2.2.1 bt392.2.2.2.2.2.2.2).bind fun t400 => ((engrossref10_May.f bt373.1 bt373.2.1 bt373.2.2.1 bt373.2.2.2.1 bt373.2.2.2.2.1 bt373.2.2.2.2.2.1 bt373.2.2.2.2.2.2.1 bt373.2.2.2.2.2.2.2).bind fun t401 => (if (t400 != t401) = true then (none) else ((engrosslaw10_Of.f bt381.1 bt381.2.1 bt381.2.2.1 bt381.2.2.2.1 bt381.2.2.2.2.1 bt381.2.2.2.2.2.1 bt381.2.2.2.2.2.2.1 bt381.2.2.2.2.2.2.2).bind fun bt402 => ((cell_May.f k bt402.1 bt402.2.1 bt402.2.2.1 bt402.2.2.2.1 bt402.2.2.2.2.1 bt402.2.2.2.2.2.1 bt402.2.2.2.2.2.2.1 bt402.2.2.2.2.2.2.2).bind fun t410 => ((engrossref10_May.f bt381.1 bt381.2.1 bt381.2.2.1 bt381.2.2.2.1 bt381.2.2.2.2.1 bt381.2.2.2.2.2.1 bt381.2.2.2.2.2.2.1 bt381.2.2.2.2.2.2.2).bind fun t411 => (engrosslaw10_CellAll.j0 k a2 (t410 != t411) bt373.1 bt373.2.1 bt373.2.2.1 bt373.2.2.2.1 bt373.2.2.2.2.1 bt373.2.2.2.2.2.1 bt373.2.2.2.2.2.2.1 bt373.2.2.2.2.2.2.2 bt381.1 bt381.2.1 bt381.2.2.1 bt381.2.2.2.1 bt381.2.2.2.2.1 bt381.2.2.2.2.2.1 bt381.2.2.2.2.2.2.1 bt381.2.2.2.2.2.2.2 bt389.1 bt389.2.1 bt389.2.2))))))))))) = some r := by rw [if_pos rfl] at H; exact H
  clear H
  have H := H1
  clear H1
  replace H := Option.bind_eq_some_iff.mp H
  obtain ⟨⟨t373, t374, t375, t376, t377, t378, t379, t380⟩, A70, H⟩ := H
  replace H : ((engrosslaw10_Cut.f a1_0 a1_1 a1_2 a1_3 a1_4 a1_5 a1_6 a1_7).bind fun bt381 => ((engrosslaw10_Val.f a3_0 a3_1 a3_2).bind fun bt389 => ((engrosslaw10_Of.f t373 t374 t375 t376 t377 t378 t379 t380).bind fun bt392 => ((cell_May.f k bt392.1 bt392.2.1 bt392.2.2.1 bt392.2.2.2.1 bt392.2.2.2.2.1 bt392.2.2.2.2.2.1 bt392.2.2.2.2.2.2.1 bt392.2.2.2.2.2.2.2).bind fun t400 => ((engrossref10_May.f t373 t374 t375 t376 t377 t378 t379 t380).bind fun t401 => (if (t400 != t401) = true then (none) else ((engrosslaw10_Of.f bt381.1 bt381.2.1 bt381.2.2.1 bt381.2.2.2.1 bt381.2.2.2.2.1 bt381.2.2.2.2.2.1 bt381.2.2.2.2.2.2.1 bt381.2.2.2.2.2.2.2).bind fun bt402 => ((cell_May.f k bt402.1 bt402.2.1 bt402.2.2.1 bt402.2.2.2.1 bt402.2.2.2.2.1 bt402.2.2.2.2.2.1 bt402.2.2.2.2.2.2.1 bt402.2.2.2.2.2.2.2).bind fun t410 => ((engrossref10_May.f bt381.1 bt381.2.1 bt381.2.2.1 bt381.2.2.2.1 bt381.2.2.2.2.1 bt381.2.2.2.2.2.1 bt381.2.2.2.2.2.2.1 bt381.2.2.2.2.2.2.2).bind fun t411 => (engrosslaw10_CellAll.j0 k a2 (t410 != t411) t373 t374 t375 t376 t377 t378 t379 t380 bt381.1 bt381.2.1 bt381.2.2.1 bt381.2.2.2.1 bt381.2.2.2.2.1 bt381.2.2.2.2.2.1 bt381.2.2.2.2.2.2.1 bt381.2.2.2.2.2.2.2 bt389.1 bt389.2.1 bt389.2.2)))))))))) = some r := H
  have A7 := Aside0.mk A70
  clear A70
  replace H := Option.bind_eq_some_iff.mp H
  obtain ⟨⟨t381, t382, t383, t384, t385, t386, t387, t388⟩, A80, H⟩ := H
  replace H : ((engrosslaw10_Val.f a3_0 a3_1 a3_2).bind fun bt389 => ((engrosslaw10_Of.f t373 t374 t375 t376 t377 t378 t379 t380).bind fun bt392 => ((cell_May.f k bt392.1 bt392.2.1 bt392.2.2.1 bt392.2.2.2.1 bt392.2.2.2.2.1 bt392.2.2.2.2.2.1 bt392.2.2.2.2.2.2.1 bt392.2.2.2.2.2.2.2).bind fun t400 => ((engrossref10_May.f t373 t374 t375 t376 t377 t378 t379 t380).bind fun t401 => (if (t400 != t401) = true then (none) else ((engrosslaw10_Of.f t381 t382 t383 t384 t385 t386 t387 t388).bind fun bt402 => ((cell_May.f k bt402.1 bt402.2.1 bt402.2.2.1 bt402.2.2.2.1 bt402.2.2.2.2.1 bt402.2.2.2.2.2.1 bt402.2.2.2.2.2.2.1 bt402.2.2.2.2.2.2.2).bind fun t410 => ((engrossref10_May.f t381 t382 t383 t384 t385 t386 t387 t388).bind fun t411 => (engrosslaw10_CellAll.j0 k a2 (t410 != t411) t373 t374 t375 t376 t377 t378 t379 t380 t381 t382 t383 t384 t385 t386 t387 t388 bt389.1 bt389.2.1 bt389.2.2))))))))) = some r := H
  have A8 := Aside0.mk A80
  clear A80
  replace H := Option.bind_eq_some_iff.mp H
  obtain ⟨⟨t389, t390, t391⟩, A90, H⟩ := H
  replace H : ((engrosslaw10_Of.f t373 t374 t375 t376 t377 t378 t379 t380).bind fun bt392 => ((cell_May.f k bt392.1 bt392.2.1 bt392.2.2.1 bt392.2.2.2.1 bt392.2.2.2.2.1 bt392.2.2.2.2.2.1 bt392.2.2.2.2.2.2.1 bt392.2.2.2.2.2.2.2).bind fun t400 => ((engrossref10_May.f t373 t374 t375 t376 t377 t378 t379 t380).bind fun t401 => (if (t400 != t401) = true then (none) else ((engrosslaw10_Of.f t381 t382 t383 t384 t385 t386 t387 t388).bind fun bt402 => ((cell_May.f k bt402.1 bt402.2.1 bt402.2.2.1 bt402.2.2.2.1 bt402.2.2.2.2.1 bt402.2.2.2.2.2.1 bt402.2.2.2.2.2.2.1 bt402.2.2.2.2.2.2.2).bind fun t410 => ((engrossref10_May.f t381 t382 t383 t384 t385 t386 t387 t388).bind fun t411 => (engrosslaw10_CellAll.j0 k a2 (t410 != t411) t373 t374 t375 t376 t377 t378 t379 t380 t381 t382 t383 t384 t385 t386 t387 t388 t389 t390 t391)))))))) = some r := H
  have A9 := Aside0.mk A90
  clear A90
  have HC10 := Aside0.mk H
  clear H
  go_enter Try.func3, Try.ntmps3
  try go_wp2_with (first | ((with_reducible refine gate_dst (N := 4) rfl ?_); refine box_event ?hg (N := 4) ?hd (cs := #[.string a0_0, .int .i64 a0_1, .float .f64 a0_2, .string a0_3, .int .i64 a0_4, .int .i64 a0_5, .float .f64 a0_6, .string a0_7]) (t := 26) ?hr ?_; (case hd => rfl); (case hg => rfl); (case hr => first | (go_simp; done) | (go_simp; rfl)); intro gb369 hg w11 hbox hb; have BK369 := Aside0.mk (hbox); have GW369 := bZ HB hg; have GE369 := bZ HB hg; replace HB := bW HB hb; clear hb hbox hg) | ((with_reducible refine gate_dst (N := 5) rfl ?_); refine box_event ?hg (N := 5) ?hd (cs := #[.string a1_0, .int .i64 a1_1, .float .f64 a1_2, .string a1_3, .int .i64 a1_4, .int .i64 a1_5, .float .f64 a1_6, .string a1_7]) (t := 26) ?hr ?_; (case hd => rfl); (case hg => rfl); (case hr => first | (go_simp; done) | (go_simp; rfl)); intro gb370 hg w12 hbox hb; have BK370 := Aside0.mk (hbox); have GW370 := bZ HB hg; have GE370 := bZ HB hg; have NB369_370 := bL BK369 hg; have NB370_369 := bG BK369 hg; replace BK369 := bB BK369 hb; replace HB := bW HB hb; clear hb hbox hg) | ((with_reducible refine gate_dst (N := 7) rfl ?_); refine box_event ?hg (N := 7) ?hd (cs := #[.int .i64 a3_0, .float .f64 a3_1, .string a3_2]) (t := 24) ?hr ?_; (case hd => rfl); (case hg => rfl); (case hr => first | (go_simp; done) | (go_simp; rfl)); intro gb371 hg w13 hbox hb; have BK371 := Aside0.mk (hbox); have GW371 := bZ HB hg; have GE371 := bZ HB hg; have NB369_371 := bL BK369 hg; have NB371_369 := bG BK369 hg; have NB370_371 := bL BK370 hg; have NB371_370 := bG BK370 hg; replace BK369 := bB BK369 hb; replace BK370 := bB BK370 hb; replace HB := bW HB hb; clear hb hbox hg) | ((with_reducible refine gate_callee (f := 10) rfl ?_); refine goesL_ (some 19) rfl rfl Try.func10 (by kernel_rfl) rfl #[] rfl (by (try simp only [List.map_toArray, List.map_cons, List.map_nil]); first | done | rfl | (simp only [List.length_drop, List.length_take]; rfl)) ?_; (with_reducible refine (engrosslaw10_begun.calls k  true _ A5.out).mono ?_); rintro e w14 ⟨rfl, hb⟩; refine ⟨_, rfl, ?_⟩; replace BK369 := bB BK369 hb; replace BK370 := bB BK370 hb; replace BK371 := bB BK371 hb; replace HB := bW HB hb; (try clear hb); (try clear hb2); (try clear hk); (try clear hi)))
  replace BK369 := Aside0.mk (blk_drew BK369.out)
  replace BK370 := Aside0.mk (blk_drew BK370.out)
  replace BK371 := Aside0.mk (blk_drew BK371.out)
  replace HB := Aside0.mk (below_drew1 HB.out)
  refine start_ (n := 9) (S := fun w' => w'.cell? ⟨gb369, 0, none⟩ = some (.string a0_0) ∧ w'.cell? ⟨gb369, 1, none⟩ = some (.int .i64 a0_1) ∧ w'.cell? ⟨gb369, 2, none⟩ = some (.float .f64 a0_2) ∧ w'.cell? ⟨gb369, 3, none⟩ = some (.string a0_3) ∧ w'.cell? ⟨gb369, 4, none⟩ = some (.int .i64 a0_4) ∧ w'.cell? ⟨gb369, 5, none⟩ = some (.int .i64 a0_5) ∧ w'.cell? ⟨gb369, 6, none⟩ = some (.float .f64 a0_6) ∧ w'.cell? ⟨gb369, 7, none⟩ = some (.string a0_7) ∧ w'.cell? ⟨gb370, 0, none⟩ = some (.string a1_0) ∧ w'.cell? ⟨gb370, 1, none⟩ = some (.int .i64 a1_1) ∧ w'.cell? ⟨gb370, 2, none⟩ = some (.float .f64 a1_2) ∧ w'.cell? ⟨gb370, 3, none⟩ = some (.string a1_3) ∧ w'.cell? ⟨gb370, 4, none⟩ = some (.int .i64 a1_4) ∧ w'.cell? ⟨gb370, 5, none⟩ = some (.int .i64 a1_5) ∧ w'.cell? ⟨gb370, 6, none⟩ = some (.float .f64 a1_6) ∧ w'.cell? ⟨gb370, 7, none⟩ = some (.string a1_7) ∧ w'.cell? ⟨gb371, 0, none⟩ = some (.int .i64 a3_0) ∧ w'.cell? ⟨gb371, 1, none⟩ = some (.float .f64 a3_1) ∧ w'.cell? ⟨gb371, 2, none⟩ = some (.string a3_2)) (ds := [6, 7, 8]) #[false, false, false, false, false, false, false, false, false] (by kernel_rfl) rfl rfl (bn8 BK369 (bn8 BK370 (be3 BK371))) (fun hHeld => ?_); refine with_tabW engrosslaw10_CellAll.tab4 engrosslaw10_CellAll.bits4 (fun HT_ HW_ => ?_)
  generalize w14.drew = w15 at BK369 BK370 BK371 HB hHeld ⊢
  refine take_ (i := 0) (N := some 22) (v := ?_) (a' := ?_) #[true, false, false, false, false, false, false, false, false] rfl rfl (take_ofW HT_.out HW_.out (by kernel_rfl)) (fun _ _ _ h => h) (Or.inl ⟨by rfl, ?_⟩) hHeld ?_ ?_
  rotate_left
  ·rintro w' ⟨s0, s1, s2, s3, s4, s5, s6, s7, s8, s9, s10, s11, s12, s13, s14, s15, s16, s17, s18⟩
   go_simp
   with_reducible rfl
  rotate_left
  ·simp only [Act.put, List.setIfInBounds_toArray, List.set_cons_zero, List.set_cons_succ, i64_w, i32_w]
   rfl
  refine take_ (i := 2) (N := some 24) (v := ?_) (a' := ?_) #[true, false, true, false, false, false, false, false, false] rfl rfl (take_ofW HT_.out HW_.out (by kernel_rfl)) (fun _ _ _ h => h) (Or.inl ⟨by rfl, ?_⟩) hHeld ?_ ?_
  rotate_left
  ·rintro w' ⟨s0, s1, s2, s3, s4, s5, s6, s7, s8, s9, s10, s11, s12, s13, s14, s15, s16, s17, s18⟩
   go_simp
   with_reducible rfl
  rotate_left
  ·simp only [Act.put, List.setIfInBounds_toArray, List.set_cons_zero, List.set_cons_succ, i64_w, i32_w]
   rfl
  refine take_ (i := 4) (N := some 26) (v := ?_) (a' := ?_) #[true, false, true, false, true, false, false, false, false] rfl rfl (take_ofW HT_.out HW_.out (by kernel_rfl)) (fun _ _ _ h => h) (Or.inl ⟨by rfl, ?_⟩) hHeld ?_ ?_
  rotate_left
  ·rintro w' ⟨s0, s1, s2, s3, s4, s5, s6, s7, s8, s9, s10, s11, s12, s13, s14, s15, s16, s17, s18⟩
   go_simp
   with_reducible rfl
  rotate_left
  ·simp only [Act.put, List.setIfInBounds_toArray, List.set_cons_zero, List.set_cons_succ, i64_w, i32_w]
   rfl
  refine one_ (i := 1) (N := some 23) #[true, true, true, false, true, false, false, false, false] rfl rfl (one_of HT_.out (by kernel_rfl)) (by decide) (fun K hK => ?_)
  refine goes_ Try.func11 (by kernel_rfl) rfl #[.agg #[.string a0_0, .int .i64 a0_1, .float .f64 a0_2, .string a0_3, .int .i64 a0_4, .int .i64 a0_5, .float .f64 a0_6, .string a0_7]] (by rfl) rfl rfl (by (try simp only [List.map_toArray, List.map_cons, List.map_nil]); first | done | rfl | (simp only [List.length_drop, List.length_take]; rfl)) ?_
  with_reducible refine (engrosslaw10_Cut.calls a0_0 a0_1 a0_2 a0_3 a0_4 a0_5 a0_6 a0_7 t373 t374 t375 t376 t377 t378 t379 t380 _ A7.out).mono ?_
  rintro e w16 ⟨rfl, hb⟩
  refine ⟨_, rfl, ?_⟩
  replace BK369 := bB BK369 hb
  replace BK370 := bB BK370 hb
  replace BK371 := bB BK371 hb
  replace HB := bW HB hb
  (try clear hb)
  (try clear hb2)
  (try clear hk)
  (try clear hi)
  refine hK.out _ _ (bn8 BK369 (bn8 BK370 (be3 BK371))) (fun hHeld => ?_)
  clear hK K
  refine norm_ (a' := ?_) ?_ ?_
  rotate_left
  ·show Act.put _ (some 23) _ = _
   simp only [Act.put, List.setIfInBounds_toArray, List.set_cons_zero, List.set_cons_succ, i64_w, i32_w]
   rfl
  refine one_ (i := 3) (N := some 25) #[true, true, true, true, true, false, false, false, false] rfl rfl (one_of HT_.out (by kernel_rfl)) (by decide) (fun K hK => ?_)
  refine goes_ Try.func11 (by kernel_rfl) rfl #[.agg #[.string a1_0, .int .i64 a1_1, .float .f64 a1_2, .string a1_3, .int .i64 a1_4, .int .i64 a1_5, .float .f64 a1_6, .string a1_7]] (by rfl) rfl rfl (by (try simp only [List.map_toArray, List.map_cons, List.map_nil]); first | done | rfl | (simp only [List.length_drop, List.length_take]; rfl)) ?_
  with_reducible refine (engrosslaw10_Cut.calls a1_0 a1_1 a1_2 a1_3 a1_4 a1_5 a1_6 a1_7 t381 t382 t383 t384 t385 t386 t387 t388 _ A8.out).mono ?_
  rintro e w17 ⟨rfl, hb⟩
  refine ⟨_, rfl, ?_⟩
  replace BK369 := bB BK369 hb
  replace BK370 := bB BK370 hb
  replace BK371 := bB BK371 hb
  replace HB := bW HB hb
  (try clear hb)
  (try clear hb2)
  (try clear hk)
  (try clear hi)
  refine hK.out _ _ (bn8 BK369 (bn8 BK370 (be3 BK371))) (fun hHeld => ?_)
  clear hK K
  refine norm_ (a' := ?_) ?_ ?_
  rotate_left
  ·show Act.put _ (some 25) _ = _
   simp only [Act.put, List.setIfInBounds_toArray, List.set_cons_zero, List.set_cons_succ, i64_w, i32_w]
   rfl
  refine one_ (i := 5) (N := some 27) #[true, true, true, true, true, true, false, false, false] rfl rfl (one_of HT_.out (by kernel_rfl)) (by decide) (fun K hK => ?_)
  refine goes_ Try.func12 (by kernel_rfl) rfl #[.agg #[.int .i64 a3_0, .float .f64 a3_1, .string a3_2]] (by rfl) rfl rfl (by (try simp only [List.map_toArray, List.map_cons, List.map_nil]); first | done | rfl | (simp only [List.length_drop, List.length_take]; rfl)) ?_
  with_reducible refine (engrosslaw10_Val.calls a3_0 a3_1 a3_2 t389 t390 t391 _ A9.out).mono ?_
  rintro e w18 ⟨rfl, hb⟩
  refine ⟨_, rfl, ?_⟩
  replace BK369 := bB BK369 hb
  replace BK370 := bB BK370 hb
  replace BK371 := bB BK371 hb
  replace HB := bW HB hb
  (try clear hb)
  (try clear hb2)
  (try clear hk)
  (try clear hi)
  refine hK.out _ _ (bn8 BK369 (bn8 BK370 (be3 BK371))) (fun hHeld => ?_)
  clear hK K
  refine norm_ (a' := ?_) ?_ ?_
  rotate_left
  ·show Act.put _ (some 27) _ = _
   simp only [Act.put, List.setIfInBounds_toArray, List.set_cons_zero, List.set_cons_succ, i64_w, i32_w]
   rfl
  refine last_ (i := 6) (N := none) #[true, true, true, true, true, true, true, false, false] rfl rfl (one_of HT_.out (by kernel_rfl)) (by decide) (fun K hK => ?_)
  have hs19 : w18.cell? ⟨gb369, 0, none⟩ = some (.string a0_0) := (blk_cell BK369.out 0).trans rfl
  have hfs19 := blk_frozen BK369.out 0
  have hns19_1 := NB370_369.out
  have hns19_2 := NB371_369.out
  have hms19_1 := NB369_370.out
  have hms19_2 := NB369_371.out
  have hs20 : w18.cell? ⟨gb369, 1, none⟩ = some (.int .i64 a0_1) := (blk_cell BK369.out 1).trans rfl
  have hfs20 := blk_frozen BK369.out 1
  have hns20_1 := NB370_369.out
  have hns20_2 := NB371_369.out
  have hms20_1 := NB369_370.out
  have hms20_2 := NB369_371.out
  have hs21 : w18.cell? ⟨gb369, 2, none⟩ = some (.float .f64 a0_2) := (blk_cell BK369.out 2).trans rfl
  have hfs21 := blk_frozen BK369.out 2
  have hns21_1 := NB370_369.out
  have hns21_2 := NB371_369.out
  have hms21_1 := NB369_370.out
  have hms21_2 := NB369_371.out
  have hs22 : w18.cell? ⟨gb369, 3, none⟩ = some (.string a0_3) := (blk_cell BK369.out 3).trans rfl
  have hfs22 := blk_frozen BK369.out 3
  have hns22_1 := NB370_369.out
  have hns22_2 := NB371_369.out
  have hms22_1 := NB369_370.out
  have hms22_2 := NB369_371.out
  have hs23 : w18.cell? ⟨gb369, 4, none⟩ = some (.int .i64 a0_4) := (blk_cell BK369.out 4).trans rfl
  have hfs23 := blk_frozen BK369.out 4
  have hns23_1 := NB370_369.out
  have hns23_2 := NB371_369.out
  have hms23_1 := NB369_370.out
  have hms23_2 := NB369_371.out
  have hs24 : w18.cell? ⟨gb369, 5, none⟩ = some (.int .i64 a0_5) := (blk_cell BK369.out 5).trans rfl
  have hfs24 := blk_frozen BK369.out 5
  have hns24_1 := NB370_369.out
  have hns24_2 := NB371_369.out
  have hms24_1 := NB369_370.out
  have hms24_2 := NB369_371.out
  have hs25 : w18.cell? ⟨gb369, 6, none⟩ = some (.float .f64 a0_6) := (blk_cell BK369.out 6).trans rfl
  have hfs25 := blk_frozen BK369.out 6
  have hns25_1 := NB370_369.out
  have hns25_2 := NB371_369.out
  have hms25_1 := NB369_370.out
  have hms25_2 := NB369_371.out
  have hs26 : w18.cell? ⟨gb369, 7, none⟩ = some (.string a0_7) := (blk_cell BK369.out 7).trans rfl
  have hfs26 := blk_frozen BK369.out 7
  have hns26_1 := NB370_369.out
  have hns26_2 := NB371_369.out
  have hms26_1 := NB369_370.out
  have hms26_2 := NB369_371.out
  with_reducible refine skip_ (w1 := ?_) (by with_unfolding_all rfl) (by with_unfolding_all rfl) ?_ ?_
  rotate_left
  ·go_simp
   rfl
  refine hK.out _ _ ?_
  clear hK K
  refine last_ (i := 7) (N := none) #[true, true, true, true, true, true, true, true, false] rfl rfl (one_of HT_.out (by kernel_rfl)) (by decide) (fun K hK => ?_)
  have hs27 : w18.cell? ⟨gb370, 0, none⟩ = some (.string a1_0) := (blk_cell BK370.out 0).trans rfl
  have hfs27 := blk_frozen BK370.out 0
  have hns27_0 := NB369_370.out
  have hns27_2 := NB371_370.out
  have hms27_0 := NB370_369.out
  have hms27_2 := NB370_371.out
  have hs28 : w18.cell? ⟨gb370, 1, none⟩ = some (.int .i64 a1_1) := (blk_cell BK370.out 1).trans rfl
  have hfs28 := blk_frozen BK370.out 1
  have hns28_0 := NB369_370.out
  have hns28_2 := NB371_370.out
  have hms28_0 := NB370_369.out
  have hms28_2 := NB370_371.out
  have hs29 : w18.cell? ⟨gb370, 2, none⟩ = some (.float .f64 a1_2) := (blk_cell BK370.out 2).trans rfl
  have hfs29 := blk_frozen BK370.out 2
  have hns29_0 := NB369_370.out
  have hns29_2 := NB371_370.out
  have hms29_0 := NB370_369.out
  have hms29_2 := NB370_371.out
  have hs30 : w18.cell? ⟨gb370, 3, none⟩ = some (.string a1_3) := (blk_cell BK370.out 3).trans rfl
  have hfs30 := blk_frozen BK370.out 3
  have hns30_0 := NB369_370.out
  have hns30_2 := NB371_370.out
  have hms30_0 := NB370_369.out
  have hms30_2 := NB370_371.out
  have hs31 : w18.cell? ⟨gb370, 4, none⟩ = some (.int .i64 a1_4) := (blk_cell BK370.out 4).trans rfl
  have hfs31 := blk_frozen BK370.out 4
  have hns31_0 := NB369_370.out
  have hns31_2 := NB371_370.out
  have hms31_0 := NB370_369.out
  have hms31_2 := NB370_371.out
  have hs32 : w18.cell? ⟨gb370, 5, none⟩ = some (.int .i64 a1_5) := (blk_cell BK370.out 5).trans rfl
  have hfs32 := blk_frozen BK370.out 5
  have hns32_0 := NB369_370.out
  have hns32_2 := NB371_370.out
  have hms32_0 := NB370_369.out
  have hms32_2 := NB370_371.out
  have hs33 : w18.cell? ⟨gb370, 6, none⟩ = some (.float .f64 a1_6) := (blk_cell BK370.out 6).trans rfl
  have hfs33 := blk_frozen BK370.out 6
  have hns33_0 := NB369_370.out
  have hns33_2 := NB371_370.out
  have hms33_0 := NB370_369.out
  have hms33_2 := NB370_371.out
  have hs34 : w18.cell? ⟨gb370, 7, none⟩ = some (.string a1_7) := (blk_cell BK370.out 7).trans rfl
  have hfs34 := blk_frozen BK370.out 7
  have hns34_0 := NB369_370.out
  have hns34_2 := NB371_370.out
  have hms34_0 := NB370_369.out
  have hms34_2 := NB370_371.out
  with_reducible refine skip_ (w1 := ?_) (by with_unfolding_all rfl) (by with_unfolding_all rfl) ?_ ?_
  rotate_left
  ·go_simp
   rfl
  refine hK.out _ _ ?_
  clear hK K
  refine last_ (i := 8) (N := none) #[true, true, true, true, true, true, true, true, true] rfl rfl (one_of HT_.out (by kernel_rfl)) (by decide) (fun K hK => ?_)
  have hs35 : w18.cell? ⟨gb371, 0, none⟩ = some (.int .i64 a3_0) := (blk_cell BK371.out 0).trans rfl
  have hfs35 := blk_frozen BK371.out 0
  have hns35_0 := NB369_371.out
  have hns35_1 := NB370_371.out
  have hms35_0 := NB371_369.out
  have hms35_1 := NB371_370.out
  have hs36 : w18.cell? ⟨gb371, 1, none⟩ = some (.float .f64 a3_1) := (blk_cell BK371.out 1).trans rfl
  have hfs36 := blk_frozen BK371.out 1
  have hns36_0 := NB369_371.out
  have hns36_1 := NB370_371.out
  have hms36_0 := NB371_369.out
  have hms36_1 := NB371_370.out
  have hs37 : w18.cell? ⟨gb371, 2, none⟩ = some (.string a3_2) := (blk_cell BK371.out 2).trans rfl
  have hfs37 := blk_frozen BK371.out 2
  have hns37_0 := NB369_371.out
  have hns37_1 := NB370_371.out
  have hms37_0 := NB371_369.out
  have hms37_1 := NB371_370.out
  with_reducible refine skip_ (w1 := ?_) (by with_unfolding_all rfl) (by with_unfolding_all rfl) ?_ ?_
  rotate_left
  ·go_simp
   rfl
  refine hK.out _ _ ?_
  clear hK K
  refine done_ (done_of HT_.out (by kernel_rfl)) ?_
  go_upto_region 5 with (fail)
  go_cut [41] (fun v41 wc => ∃ (kq : Nat) (x41_9 : Bool), v41 = .bool x41_9 ∧ Aside0 (engrosslaw10_CellAll.j0 kq a2 x41_9 t373 t374 t375 t376 t377 t378 t379 t380 t381 t382 t383 t384 t385 t386 t387 t388 t389 t390 t391 = some r) ∧ Aside0 (kq ≤ k) ∧ Aside0 (wc.heap[gb369]? = some (.cells #[.string t373, .int .i64 t374, .float .f64 t375, .string t376, .int .i64 t377, .int .i64 t378, .float .f64 t379, .string t380] 26 (0, 0))) ∧ Aside0 (wc.heap[gb370]? = some (.cells #[.string t381, .int .i64 t382, .float .f64 t383, .string t384, .int .i64 t385, .int .i64 t386, .float .f64 t387, .string t388] 26 (0, 0))) ∧ Aside0 (wc.heap[gb371]? = some (.cells #[.int .i64 t389, .float .f64 t390, .string t391] 24 (0, 0))) ∧ Aside0 (Below w.heap.size w wc))
  case first =>
   have H := HC10.out
   clear HC10
   replace H := Option.bind_eq_some_iff.mp H
   obtain ⟨⟨t392, t393, t394, t395, t396, t397, t398, t399⟩, A380, H⟩ := H
   replace H : ((cell_May.f k t392 t393 t394 t395 t396 t397 t398 t399).bind fun t400 => ((engrossref10_May.f t373 t374 t375 t376 t377 t378 t379 t380).bind fun t401 => (if (t400 != t401) = true then (none) else ((engrosslaw10_Of.f t381 t382 t383 t384 t385 t386 t387 t388).bind fun bt402 => ((cell_May.f k bt402.1 bt402.2.1 bt402.2.2.1 bt402.2.2.2.1 bt402.2.2.2.2.1 bt402.2.2.2.2.2.1 bt402.2.2.2.2.2.2.1 bt402.2.2.2.2.2.2.2).bind fun t410 => ((engrossref10_May.f t381 t382 t383 t384 t385 t386 t387 t388).bind fun t411 => (engrosslaw10_CellAll.j0 k a2 (t410 != t411) t373 t374 t375 t376 t377 t378 t379 t380 t381 t382 t383 t384 t385 t386 t387 t388 t389 t390 t391))))))) = some r := H
   have A38 := Aside0.mk A380
   clear A380
   replace H := Option.bind_eq_some_iff.mp H
   obtain ⟨t400, A390, H⟩ := H
   replace H : ((engrossref10_May.f t373 t374 t375 t376 t377 t378 t379 t380).bind fun t401 => (if (t400 != t401) = true then (none) else ((engrosslaw10_Of.f t381 t382 t383 t384 t385 t386 t387 t388).bind fun bt402 => ((cell_May.f k bt402.1 bt402.2.1 bt402.2.2.1 bt402.2.2.2.1 bt402.2.2.2.2.1 bt402.2.2.2.2.2.1 bt402.2.2.2.2.2.2.1 bt402.2.2.2.2.2.2.2).bind fun t410 => ((engrossref10_May.f t381 t382 t383 t384 t385 t386 t387 t388).bind fun t411 => (engrosslaw10_CellAll.j0 k a2 (t410 != t411) t373 t374 t375 t376 t377 t378 t379 t380 t381 t382 t383 t384 t385 t386 t387 t388 t389 t390 t391)))))) = some r := H
   have A39 := Aside0.mk A390
   clear A390
   replace H := Option.bind_eq_some_iff.mp H
   obtain ⟨t401, A400, H⟩ := H
   replace H : (if (t400 != t401) = true then (none) else ((engrosslaw10_Of.f t381 t382 t383 t384 t385 t386 t387 t388).bind fun bt402 => ((cell_May.f k bt402.1 bt402.2.1 bt402.2.2.1 bt402.2.2.2.1 bt402.2.2.2.2.1 bt402.2.2.2.2.2.1 bt402.2.2.2.2.2.2.1 bt402.2.2.2.2.2.2.2).bind fun t410 => ((engrossref10_May.f t381 t382 t383 t384 t385 t386 t387 t388).bind fun t411 => (engrosslaw10_CellAll.j0 k a2 (t410 != t411) t373 t374 t375 t376 t377 t378 t379 t380 t381 t382 t383 t384 t385 t386 t387 t388 t389 t390 t391))))) = some r := H
   have A40 := Aside0.mk A400
   clear A400
   by_cases c41 : (t400 != t401) = true
   ·rw [if_pos c41] at H
    have c41b0 : (t400 != t401) = true := c41
    (try (have c41b1 : decide (t400 = t401) = false := by simpa using c41))
    (try (have c41b2 : (t400 == t401) = false := by simpa using c41))
    (try (have c41b3 : ¬ (t400 = t401) := by simpa using c41))
    clear c41
    (first | rw [c41b0] | (simp only [i64_w, i32_w]; rw [c41b0]) | skip)
    exact absurd H (by simp)
   ·rw [if_neg c41] at H
    have c41b0 : (t400 != t401) = false := by simpa using c41
    (try (have c41b1 : decide (t400 = t401) = true := by simpa using c41))
    (try (have c41b2 : (t400 == t401) = true := by simpa using c41))
    clear c41
    (first | rw [c41b0] | (simp only [i64_w, i32_w]; rw [c41b0]) | skip)
    replace H := Option.bind_eq_some_iff.mp H
    obtain ⟨⟨t402, t403, t404, t405, t406, t407, t408, t409⟩, A420, H⟩ := H
    replace H : ((cell_May.f k t402 t403 t404 t405 t406 t407 t408 t409).bind fun t410 => ((engrossref10_May.f t381 t382 t383 t384 t385 t386 t387 t388).bind fun t411 => (engrosslaw10_CellAll.j0 k a2 (t410 != t411) t373 t374 t375 t376 t377 t378 t379 t380 t381 t382 t383 t384 t385 t386 t387 t388 t389 t390 t391))) = some r := H
    have A42 := Aside0.mk A420
    clear A420
    replace H := Option.bind_eq_some_iff.mp H
    obtain ⟨t410, A430, H⟩ := H
    replace H : ((engrossref10_May.f t381 t382 t383 t384 t385 t386 t387 t388).bind fun t411 => (engrosslaw10_CellAll.j0 k a2 (t410 != t411) t373 t374 t375 t376 t377 t378 t379 t380 t381 t382 t383 t384 t385 t386 t387 t388 t389 t390 t391)) = some r := H
    have A43 := Aside0.mk A430
    clear A430
    replace H := Option.bind_eq_some_iff.mp H
    obtain ⟨t411, A440, H⟩ := H
    replace H : (engrosslaw10_CellAll.j0 k a2 (t410 != t411) t373 t374 t375 t376 t377 t378 t379 t380 t381 t382 t383 t384 t385 t386 t387 t388 t389 t390 t391) = some r := H
    have A44 := Aside0.mk A440
    clear A440
    have H' := Aside0.mk H
    clear H
    try go_wp2
    have n0_ : Aside0 ((((((((((((((((((((w18.setCell ⟨gb369, 0, none⟩ (.string t373)).setCell ⟨gb369, 1, none⟩ (.int .i64 t374)).setCell ⟨gb369, 2, none⟩ (.float .f64 t375)).setCell ⟨gb369, 3, none⟩ (.string t376)).setCell ⟨gb369, 4, none⟩ (.int .i64 t377)).setCell ⟨gb369, 5, none⟩ (.int .i64 t378)).setCell ⟨gb369, 6, none⟩ (.float .f64 t379)).setCell ⟨gb369, 7, none⟩ (.string t380)).setCell ⟨gb370, 0, none⟩ (.string t381)).setCell ⟨gb370, 1, none⟩ (.int .i64 t382)).setCell ⟨gb370, 2, none⟩ (.float .f64 t383)).setCell ⟨gb370, 3, none⟩ (.string t384)).setCell ⟨gb370, 4, none⟩ (.int .i64 t385)).setCell ⟨gb370, 5, none⟩ (.int .i64 t386)).setCell ⟨gb370, 6, none⟩ (.float .f64 t387)).setCell ⟨gb370, 7, none⟩ (.string t388)).setCell ⟨gb371, 0, none⟩ (.int .i64 t389)).setCell ⟨gb371, 1, none⟩ (.float .f64 t390)).setCell ⟨gb371, 2, none⟩ (.string t391)).heap[gb369]? = some (.cells #[.string t373, .int .i64 t374, .float .f64 t375, .string t376, .int .i64 t377, .int .i64 t378, .float .f64 t379, .string t380] 26 (0, 0))) := ⟨by (with_reducible repeat (first | refine blk_drewN ?_ _ | refine blk_drew ?_ | refine blk_alloc ?_ _)); refine blk_far ?_ NB369_371.out _; (with_reducible repeat (first | refine blk_drewN ?_ _ | refine blk_drew ?_ | refine blk_alloc ?_ _)); refine blk_far ?_ NB369_371.out _; (with_reducible repeat (first | refine blk_drewN ?_ _ | refine blk_drew ?_ | refine blk_alloc ?_ _)); refine blk_far ?_ NB369_371.out _; (with_reducible repeat (first | refine blk_drewN ?_ _ | refine blk_drew ?_ | refine blk_alloc ?_ _)); refine blk_far ?_ NB369_370.out _; (with_reducible repeat (first | refine blk_drewN ?_ _ | refine blk_drew ?_ | refine blk_alloc ?_ _)); refine blk_far ?_ NB369_370.out _; (with_reducible repeat (first | refine blk_drewN ?_ _ | refine blk_drew ?_ | refine blk_alloc ?_ _)); refine blk_far ?_ NB369_370.out _; (with_reducible repeat (first | refine blk_drewN ?_ _ | refine blk_drew ?_ | refine blk_alloc ?_ _)); refine blk_far ?_ NB369_370.out _; (with_reducible repeat (first | refine blk_drewN ?_ _ | refine blk_drew ?_ | refine blk_alloc ?_ _)); refine blk_far ?_ NB369_370.out _; (with_reducible repeat (first | refine blk_drewN ?_ _ | refine blk_drew ?_ | refine blk_alloc ?_ _)); refine blk_far ?_ NB369_370.out _; (with_reducible repeat (first | refine blk_drewN ?_ _ | refine blk_drew ?_ | refine blk_alloc ?_ _)); refine blk_far ?_ NB369_370.out _; (with_reducible repeat (first | refine blk_drewN ?_ _ | refine blk_drew ?_ | refine blk_alloc ?_ _)); refine blk_far ?_ NB369_370.out _; (with_reducible repeat (first | refine blk_drewN ?_ _ | refine blk_drew ?_ | refine blk_alloc ?_ _)); refine blk_put (cs := #[.string t373, .int .i64 t374, .float .f64 t375, .string t376, .int .i64 t377, .int .i64 t378, .float .f64 t379, .string a0_7]) ?_ 7 _ rfl; (with_reducible repeat (first | refine blk_drewN ?_ _ | refine blk_drew ?_ | refine blk_alloc ?_ _)); refine blk_put (cs := #[.string t373, .int .i64 t374, .float .f64 t375, .string t376, .int .i64 t377, .int .i64 t378, .float .f64 a0_6, .string a0_7]) ?_ 6 _ rfl; (with_reducible repeat (first | refine blk_drewN ?_ _ | refine blk_drew ?_ | refine blk_alloc ?_ _)); refine blk_put (cs := #[.string t373, .int .i64 t374, .float .f64 t375, .string t376, .int .i64 t377, .int .i64 a0_5, .float .f64 a0_6, .string a0_7]) ?_ 5 _ rfl; (with_reducible repeat (first | refine blk_drewN ?_ _ | refine blk_drew ?_ | refine blk_alloc ?_ _)); refine blk_put (cs := #[.string t373, .int .i64 t374, .float .f64 t375, .string t376, .int .i64 a0_4, .int .i64 a0_5, .float .f64 a0_6, .string a0_7]) ?_ 4 _ rfl; (with_reducible repeat (first | refine blk_drewN ?_ _ | refine blk_drew ?_ | refine blk_alloc ?_ _)); refine blk_put (cs := #[.string t373, .int .i64 t374, .float .f64 t375, .string a0_3, .int .i64 a0_4, .int .i64 a0_5, .float .f64 a0_6, .string a0_7]) ?_ 3 _ rfl; (with_reducible repeat (first | refine blk_drewN ?_ _ | refine blk_drew ?_ | refine blk_alloc ?_ _)); refine blk_put (cs := #[.string t373, .int .i64 t374, .float .f64 a0_2, .string a0_3, .int .i64 a0_4, .int .i64 a0_5, .float .f64 a0_6, .string a0_7]) ?_ 2 _ rfl; (with_reducible repeat (first | refine blk_drewN ?_ _ | refine blk_drew ?_ | refine blk_alloc ?_ _)); refine blk_put (cs := #[.string t373, .int .i64 a0_1, .float .f64 a0_2, .string a0_3, .int .i64 a0_4, .int .i64 a0_5, .float .f64 a0_6, .string a0_7]) ?_ 1 _ rfl; (with_reducible repeat (first | refine blk_drewN ?_ _ | refine blk_drew ?_ | refine blk_alloc ?_ _)); refine blk_put (cs := #[.string a0_0, .int .i64 a0_1, .float .f64 a0_2, .string a0_3, .int .i64 a0_4, .int .i64 a0_5, .float .f64 a0_6, .string a0_7]) ?_ 0 _ rfl; (with_reducible repeat (first | refine blk_drewN ?_ _ | refine blk_drew ?_ | refine blk_alloc ?_ _)); exact BK369.out⟩
    have n1_ : Aside0 ((((((((((((((((((((w18.setCell ⟨gb369, 0, none⟩ (.string t373)).setCell ⟨gb369, 1, none⟩ (.int .i64 t374)).setCell ⟨gb369, 2, none⟩ (.float .f64 t375)).setCell ⟨gb369, 3, none⟩ (.string t376)).setCell ⟨gb369, 4, none⟩ (.int .i64 t377)).setCell ⟨gb369, 5, none⟩ (.int .i64 t378)).setCell ⟨gb369, 6, none⟩ (.float .f64 t379)).setCell ⟨gb369, 7, none⟩ (.string t380)).setCell ⟨gb370, 0, none⟩ (.string t381)).setCell ⟨gb370, 1, none⟩ (.int .i64 t382)).setCell ⟨gb370, 2, none⟩ (.float .f64 t383)).setCell ⟨gb370, 3, none⟩ (.string t384)).setCell ⟨gb370, 4, none⟩ (.int .i64 t385)).setCell ⟨gb370, 5, none⟩ (.int .i64 t386)).setCell ⟨gb370, 6, none⟩ (.float .f64 t387)).setCell ⟨gb370, 7, none⟩ (.string t388)).setCell ⟨gb371, 0, none⟩ (.int .i64 t389)).setCell ⟨gb371, 1, none⟩ (.float .f64 t390)).setCell ⟨gb371, 2, none⟩ (.string t391)).heap[gb370]? = some (.cells #[.string t381, .int .i64 t382, .float .f64 t383, .string t384, .int .i64 t385, .int .i64 t386, .float .f64 t387, .string t388] 26 (0, 0))) := ⟨by (with_reducible repeat (first | refine blk_drewN ?_ _ | refine blk_drew ?_ | refine blk_alloc ?_ _)); refine blk_far ?_ NB370_371.out _; (with_reducible repeat (first | refine blk_drewN ?_ _ | refine blk_drew ?_ | refine blk_alloc ?_ _)); refine blk_far ?_ NB370_371.out _; (with_reducible repeat (first | refine blk_drewN ?_ _ | refine blk_drew ?_ | refine blk_alloc ?_ _)); refine blk_far ?_ NB370_371.out _; (with_reducible repeat (first | refine blk_drewN ?_ _ | refine blk_drew ?_ | refine blk_alloc ?_ _)); refine blk_put (cs := #[.string t381, .int .i64 t382, .float .f64 t383, .string t384, .int .i64 t385, .int .i64 t386, .float .f64 t387, .string a1_7]) ?_ 7 _ rfl; (with_reducible repeat (first | refine blk_drewN ?_ _ | refine blk_drew ?_ | refine blk_alloc ?_ _)); refine blk_put (cs := #[.string t381, .int .i64 t382, .float .f64 t383, .string t384, .int .i64 t385, .int .i64 t386, .float .f64 a1_6, .string a1_7]) ?_ 6 _ rfl; (with_reducible repeat (first | refine blk_drewN ?_ _ | refine blk_drew ?_ | refine blk_alloc ?_ _)); refine blk_put (cs := #[.string t381, .int .i64 t382, .float .f64 t383, .string t384, .int .i64 t385, .int .i64 a1_5, .float .f64 a1_6, .string a1_7]) ?_ 5 _ rfl; (with_reducible repeat (first | refine blk_drewN ?_ _ | refine blk_drew ?_ | refine blk_alloc ?_ _)); refine blk_put (cs := #[.string t381, .int .i64 t382, .float .f64 t383, .string t384, .int .i64 a1_4, .int .i64 a1_5, .float .f64 a1_6, .string a1_7]) ?_ 4 _ rfl; (with_reducible repeat (first | refine blk_drewN ?_ _ | refine blk_drew ?_ | refine blk_alloc ?_ _)); refine blk_put (cs := #[.string t381, .int .i64 t382, .float .f64 t383, .string a1_3, .int .i64 a1_4, .int .i64 a1_5, .float .f64 a1_6, .string a1_7]) ?_ 3 _ rfl; (with_reducible repeat (first | refine blk_drewN ?_ _ | refine blk_drew ?_ | refine blk_alloc ?_ _)); refine blk_put (cs := #[.string t381, .int .i64 t382, .float .f64 a1_2, .string a1_3, .int .i64 a1_4, .int .i64 a1_5, .float .f64 a1_6, .string a1_7]) ?_ 2 _ rfl; (with_reducible repeat (first | refine blk_drewN ?_ _ | refine blk_drew ?_ | refine blk_alloc ?_ _)); refine blk_put (cs := #[.string t381, .int .i64 a1_1, .float .f64 a1_2, .string a1_3, .int .i64 a1_4, .int .i64 a1_5, .float .f64 a1_6, .string a1_7]) ?_ 1 _ rfl; (with_reducible repeat (first | refine blk_drewN ?_ _ | refine blk_drew ?_ | refine blk_alloc ?_ _)); refine blk_put (cs := #[.string a1_0, .int .i64 a1_1, .float .f64 a1_2, .string a1_3, .int .i64 a1_4, .int .i64 a1_5, .float .f64 a1_6, .string a1_7]) ?_ 0 _ rfl; (with_reducible repeat (first | refine blk_drewN ?_ _ | refine blk_drew ?_ | refine blk_alloc ?_ _)); refine blk_far ?_ NB370_369.out _; (with_reducible repeat (first | refine blk_drewN ?_ _ | refine blk_drew ?_ | refine blk_alloc ?_ _)); refine blk_far ?_ NB370_369.out _; (with_reducible repeat (first | refine blk_drewN ?_ _ | refine blk_drew ?_ | refine blk_alloc ?_ _)); refine blk_far ?_ NB370_369.out _; (with_reducible repeat (first | refine blk_drewN ?_ _ | refine blk_drew ?_ | refine blk_alloc ?_ _)); refine blk_far ?_ NB370_369.out _; (with_reducible repeat (first | refine blk_drewN ?_ _ | refine blk_drew ?_ | refine blk_alloc ?_ _)); refine blk_far ?_ NB370_369.out _; (with_reducible repeat (first | refine blk_drewN ?_ _ | refine blk_drew ?_ | refine blk_alloc ?_ _)); refine blk_far ?_ NB370_369.out _; (with_reducible repeat (first | refine blk_drewN ?_ _ | refine blk_drew ?_ | refine blk_alloc ?_ _)); refine blk_far ?_ NB370_369.out _; (with_reducible repeat (first | refine blk_drewN ?_ _ | refine blk_drew ?_ | refine blk_alloc ?_ _)); refine blk_far ?_ NB370_369.out _; (with_reducible repeat (first | refine blk_drewN ?_ _ | refine blk_drew ?_ | refine blk_alloc ?_ _)); exact BK370.out⟩
    have n2_ : Aside0 ((((((((((((((((((((w18.setCell ⟨gb369, 0, none⟩ (.string t373)).setCell ⟨gb369, 1, none⟩ (.int .i64 t374)).setCell ⟨gb369, 2, none⟩ (.float .f64 t375)).setCell ⟨gb369, 3, none⟩ (.string t376)).setCell ⟨gb369, 4, none⟩ (.int .i64 t377)).setCell ⟨gb369, 5, none⟩ (.int .i64 t378)).setCell ⟨gb369, 6, none⟩ (.float .f64 t379)).setCell ⟨gb369, 7, none⟩ (.string t380)).setCell ⟨gb370, 0, none⟩ (.string t381)).setCell ⟨gb370, 1, none⟩ (.int .i64 t382)).setCell ⟨gb370, 2, none⟩ (.float .f64 t383)).setCell ⟨gb370, 3, none⟩ (.string t384)).setCell ⟨gb370, 4, none⟩ (.int .i64 t385)).setCell ⟨gb370, 5, none⟩ (.int .i64 t386)).setCell ⟨gb370, 6, none⟩ (.float .f64 t387)).setCell ⟨gb370, 7, none⟩ (.string t388)).setCell ⟨gb371, 0, none⟩ (.int .i64 t389)).setCell ⟨gb371, 1, none⟩ (.float .f64 t390)).setCell ⟨gb371, 2, none⟩ (.string t391)).heap[gb371]? = some (.cells #[.int .i64 t389, .float .f64 t390, .string t391] 24 (0, 0))) := ⟨by (with_reducible repeat (first | refine blk_drewN ?_ _ | refine blk_drew ?_ | refine blk_alloc ?_ _)); refine blk_put (cs := #[.int .i64 t389, .float .f64 t390, .string a3_2]) ?_ 2 _ rfl; (with_reducible repeat (first | refine blk_drewN ?_ _ | refine blk_drew ?_ | refine blk_alloc ?_ _)); refine blk_put (cs := #[.int .i64 t389, .float .f64 a3_1, .string a3_2]) ?_ 1 _ rfl; (with_reducible repeat (first | refine blk_drewN ?_ _ | refine blk_drew ?_ | refine blk_alloc ?_ _)); refine blk_put (cs := #[.int .i64 a3_0, .float .f64 a3_1, .string a3_2]) ?_ 0 _ rfl; (with_reducible repeat (first | refine blk_drewN ?_ _ | refine blk_drew ?_ | refine blk_alloc ?_ _)); refine blk_far ?_ NB371_370.out _; (with_reducible repeat (first | refine blk_drewN ?_ _ | refine blk_drew ?_ | refine blk_alloc ?_ _)); refine blk_far ?_ NB371_370.out _; (with_reducible repeat (first | refine blk_drewN ?_ _ | refine blk_drew ?_ | refine blk_alloc ?_ _)); refine blk_far ?_ NB371_370.out _; (with_reducible repeat (first | refine blk_drewN ?_ _ | refine blk_drew ?_ | refine blk_alloc ?_ _)); refine blk_far ?_ NB371_370.out _; (with_reducible repeat (first | refine blk_drewN ?_ _ | refine blk_drew ?_ | refine blk_alloc ?_ _)); refine blk_far ?_ NB371_370.out _; (with_reducible repeat (first | refine blk_drewN ?_ _ | refine blk_drew ?_ | refine blk_alloc ?_ _)); refine blk_far ?_ NB371_370.out _; (with_reducible repeat (first | refine blk_drewN ?_ _ | refine blk_drew ?_ | refine blk_alloc ?_ _)); refine blk_far ?_ NB371_370.out _; (with_reducible repeat (first | refine blk_drewN ?_ _ | refine blk_drew ?_ | refine blk_alloc ?_ _)); refine blk_far ?_ NB371_370.out _; (with_reducible repeat (first | refine blk_drewN ?_ _ | refine blk_drew ?_ | refine blk_alloc ?_ _)); refine blk_far ?_ NB371_369.out _; (with_reducible repeat (first | refine blk_drewN ?_ _ | refine blk_drew ?_ | refine blk_alloc ?_ _)); refine blk_far ?_ NB371_369.out _; (with_reducible repeat (first | refine blk_drewN ?_ _ | refine blk_drew ?_ | refine blk_alloc ?_ _)); refine blk_far ?_ NB371_369.out _; (with_reducible repeat (first | refine blk_drewN ?_ _ | refine blk_drew ?_ | refine blk_alloc ?_ _)); refine blk_far ?_ NB371_369.out _; (with_reducible repeat (first | refine blk_drewN ?_ _ | refine blk_drew ?_ | refine blk_alloc ?_ _)); refine blk_far ?_ NB371_369.out _; (with_reducible repeat (first | refine blk_drewN ?_ _ | refine blk_drew ?_ | refine blk_alloc ?_ _)); refine blk_far ?_ NB371_369.out _; (with_reducible repeat (first | refine blk_drewN ?_ _ | refine blk_drew ?_ | refine blk_alloc ?_ _)); refine blk_far ?_ NB371_369.out _; (with_reducible repeat (first | refine blk_drewN ?_ _ | refine blk_drew ?_ | refine blk_alloc ?_ _)); refine blk_far ?_ NB371_369.out _; (with_reducible repeat (first | refine blk_drewN ?_ _ | refine blk_drew ?_ | refine blk_alloc ?_ _)); exact BK371.out⟩
    have n3_ : Aside0 (Below w.heap.size w (((((((((((((((((((w18.setCell ⟨gb369, 0, none⟩ (.string t373)).setCell ⟨gb369, 1, none⟩ (.int .i64 t374)).setCell ⟨gb369, 2, none⟩ (.float .f64 t375)).setCell ⟨gb369, 3, none⟩ (.string t376)).setCell ⟨gb369, 4, none⟩ (.int .i64 t377)).setCell ⟨gb369, 5, none⟩ (.int .i64 t378)).setCell ⟨gb369, 6, none⟩ (.float .f64 t379)).setCell ⟨gb369, 7, none⟩ (.string t380)).setCell ⟨gb370, 0, none⟩ (.string t381)).setCell ⟨gb370, 1, none⟩ (.int .i64 t382)).setCell ⟨gb370, 2, none⟩ (.float .f64 t383)).setCell ⟨gb370, 3, none⟩ (.string t384)).setCell ⟨gb370, 4, none⟩ (.int .i64 t385)).setCell ⟨gb370, 5, none⟩ (.int .i64 t386)).setCell ⟨gb370, 6, none⟩ (.float .f64 t387)).setCell ⟨gb370, 7, none⟩ (.string t388)).setCell ⟨gb371, 0, none⟩ (.int .i64 t389)).setCell ⟨gb371, 1, none⟩ (.float .f64 t390)).setCell ⟨gb371, 2, none⟩ (.string t391))) := ⟨by repeat (first | (with_reducible first | exact HB.out | apply below_alloc | apply pw_below_drewN | apply below_drew1 | refine below_set ?_ GE369.out | refine below_set ?_ GE370.out | refine below_set ?_ GE371.out) | exact HB.out)⟩
    (try clear BK369)
    (try clear BK370)
    (try clear BK371)
    (try clear HB)
    generalize (((((((((((((((((((w18.setCell ⟨gb369, 0, none⟩ (.string t373)).setCell ⟨gb369, 1, none⟩ (.int .i64 t374)).setCell ⟨gb369, 2, none⟩ (.float .f64 t375)).setCell ⟨gb369, 3, none⟩ (.string t376)).setCell ⟨gb369, 4, none⟩ (.int .i64 t377)).setCell ⟨gb369, 5, none⟩ (.int .i64 t378)).setCell ⟨gb369, 6, none⟩ (.float .f64 t379)).setCell ⟨gb369, 7, none⟩ (.string t380)).setCell ⟨gb370, 0, none⟩ (.string t381)).setCell ⟨gb370, 1, none⟩ (.int .i64 t382)).setCell ⟨gb370, 2, none⟩ (.float .f64 t383)).setCell ⟨gb370, 3, none⟩ (.string t384)).setCell ⟨gb370, 4, none⟩ (.int .i64 t385)).setCell ⟨gb370, 5, none⟩ (.int .i64 t386)).setCell ⟨gb370, 6, none⟩ (.float .f64 t387)).setCell ⟨gb370, 7, none⟩ (.string t388)).setCell ⟨gb371, 0, none⟩ (.int .i64 t389)).setCell ⟨gb371, 1, none⟩ (.float .f64 t390)).setCell ⟨gb371, 2, none⟩ (.string t391)) = w45 at n0_ n1_ n2_ n3_ ⊢
    have BK369 := n0_
    have BK370 := n1_
    have BK371 := n2_
    have HB := n3_
    clear n0_ n1_ n2_ n3_
    replace BK369 := Aside0.mk (blk_drew BK369.out)
    replace BK370 := Aside0.mk (blk_drew BK370.out)
    replace BK371 := Aside0.mk (blk_drew BK371.out)
    replace HB := Aside0.mk (below_drew1 HB.out)
    refine start_ (n := 14) (S := fun w' => w'.cell? ⟨gb369, 0, none⟩ = some (.string t373) ∧ w'.cell? ⟨gb369, 1, none⟩ = some (.int .i64 t374) ∧ w'.cell? ⟨gb369, 2, none⟩ = some (.float .f64 t375) ∧ w'.cell? ⟨gb369, 3, none⟩ = some (.string t376) ∧ w'.cell? ⟨gb369, 4, none⟩ = some (.int .i64 t377) ∧ w'.cell? ⟨gb369, 5, none⟩ = some (.int .i64 t378) ∧ w'.cell? ⟨gb369, 6, none⟩ = some (.float .f64 t379) ∧ w'.cell? ⟨gb369, 7, none⟩ = some (.string t380) ∧ w'.cell? ⟨gb370, 0, none⟩ = some (.string t381) ∧ w'.cell? ⟨gb370, 1, none⟩ = some (.int .i64 t382) ∧ w'.cell? ⟨gb370, 2, none⟩ = some (.float .f64 t383) ∧ w'.cell? ⟨gb370, 3, none⟩ = some (.string t384) ∧ w'.cell? ⟨gb370, 4, none⟩ = some (.int .i64 t385) ∧ w'.cell? ⟨gb370, 5, none⟩ = some (.int .i64 t386) ∧ w'.cell? ⟨gb370, 6, none⟩ = some (.float .f64 t387) ∧ w'.cell? ⟨gb370, 7, none⟩ = some (.string t388)) (ds := []) #[false, false, false, false, false, false, false, false, false, false, false, false, false, false] (by kernel_rfl) rfl rfl (bn8 BK369 (be8 BK370)) (fun hHeld => ?_); refine with_tabW engrosslaw10_CellAll.tab5 engrosslaw10_CellAll.bits5 (fun HT_ HW_ => ?_)
    generalize w45.drew = w46 at BK369 BK370 BK371 HB hHeld ⊢
    refine take_ (i := 0) (N := some 28) (v := ?_) (a' := ?_) #[true, false, false, false, false, false, false, false, false, false, false, false, false, false] rfl rfl (take_ofW HT_.out HW_.out (by kernel_rfl)) (fun _ _ _ h => h) (Or.inl ⟨by rfl, ?_⟩) hHeld ?_ ?_
    rotate_left
    ·rintro w' ⟨s0, s1, s2, s3, s4, s5, s6, s7, s8, s9, s10, s11, s12, s13, s14, s15⟩
     go_simp
     with_reducible rfl
    rotate_left
    ·simp only [Act.put, List.setIfInBounds_toArray, List.set_cons_zero, List.set_cons_succ, i64_w, i32_w]
     rfl
    refine take_ (i := 3) (N := some 31) (v := ?_) (a' := ?_) #[true, false, false, true, false, false, false, false, false, false, false, false, false, false] rfl rfl (take_ofW HT_.out HW_.out (by kernel_rfl)) (fun _ _ _ h => h) (Or.inl ⟨by rfl, ?_⟩) hHeld ?_ ?_
    rotate_left
    ·rintro w' ⟨s0, s1, s2, s3, s4, s5, s6, s7, s8, s9, s10, s11, s12, s13, s14, s15⟩
     go_simp
     with_reducible rfl
    rotate_left
    ·simp only [Act.put, List.setIfInBounds_toArray, List.set_cons_zero, List.set_cons_succ, i64_w, i32_w]
     rfl
    refine one_ (i := 1) (N := some 29) #[true, true, false, true, false, false, false, false, false, false, false, false, false, false] rfl rfl (one_of HT_.out (by kernel_rfl)) (by decide) (fun K hK => ?_)
    refine goes_ Try.func14 (by kernel_rfl) rfl #[.agg #[.string t373, .int .i64 t374, .float .f64 t375, .string t376, .int .i64 t377, .int .i64 t378, .float .f64 t379, .string t380]] (by rfl) rfl rfl (by (try simp only [List.map_toArray, List.map_cons, List.map_nil]); first | done | rfl | (simp only [List.length_drop, List.length_take]; rfl)) ?_
    with_reducible refine (engrosslaw10_Of.calls t373 t374 t375 t376 t377 t378 t379 t380 t392 t393 t394 t395 t396 t397 t398 t399 _ A38.out).mono ?_
    rintro e w47 ⟨rfl, hb⟩
    refine ⟨_, rfl, ?_⟩
    replace BK369 := bB BK369 hb
    replace BK370 := bB BK370 hb
    replace BK371 := bB BK371 hb
    replace HB := bW HB hb
    (try clear hb)
    (try clear hb2)
    (try clear hk)
    (try clear hi)
    refine hK.out _ _ (bn8 BK369 (be8 BK370)) (fun hHeld => ?_)
    clear hK K
    refine norm_ (a' := ?_) ?_ ?_
    rotate_left
    ·show Act.put _ (some 29) _ = _
     simp only [Act.put, List.setIfInBounds_toArray, List.set_cons_zero, List.set_cons_succ, i64_w, i32_w]
     rfl
    refine one_ (i := 2) (N := some 30) #[true, true, true, true, false, false, false, false, false, false, false, false, false, false] rfl rfl (one_of HT_.out (by kernel_rfl)) (by decide) (fun K hK => ?_)
    refine goes_ Try.func13 (by kernel_rfl) rfl #[.agg #[.string t392, .int .i64 t393, .float .f64 t394, .string t395, .int .i64 t396, .int .i64 t397, .float .f64 t398, .string t399]] (by rfl) rfl rfl (by (try simp only [List.map_toArray, List.map_cons, List.map_nil]); first | done | rfl | (simp only [List.length_drop, List.length_take]; rfl)) ?_
    with_reducible refine (cell_May.calls k t392 t393 t394 t395 t396 t397 t398 t399 t400 _ A39.out).mono ?_
    rintro e w48 ⟨rfl, hb⟩
    refine ⟨_, rfl, ?_⟩
    replace BK369 := bB BK369 hb
    replace BK370 := bB BK370 hb
    replace BK371 := bB BK371 hb
    replace HB := bW HB hb
    (try clear hb)
    (try clear hb2)
    (try clear hk)
    (try clear hi)
    refine hK.out _ _ (bn8 BK369 (be8 BK370)) (fun hHeld => ?_)
    clear hK K
    refine norm_ (a' := ?_) ?_ ?_
    rotate_left
    ·show Act.put _ (some 30) _ = _
     simp only [Act.put, List.setIfInBounds_toArray, List.set_cons_zero, List.set_cons_succ, i64_w, i32_w]
     rfl
    refine one_ (i := 4) (N := some 32) #[true, true, true, true, true, false, false, false, false, false, false, false, false, false] rfl rfl (one_of HT_.out (by kernel_rfl)) (by decide) (fun K hK => ?_)
    refine goes_ Try.func15 (by kernel_rfl) rfl #[.agg #[.string t373, .int .i64 t374, .float .f64 t375, .string t376, .int .i64 t377, .int .i64 t378, .float .f64 t379, .string t380]] (by rfl) rfl rfl (by (try simp only [List.map_toArray, List.map_cons, List.map_nil]); first | done | rfl | (simp only [List.length_drop, List.length_take]; rfl)) ?_
    with_reducible refine (engrossref10_May.calls t373 t374 t375 t376 t377 t378 t379 t380 t401 _ A40.out).mono ?_
    rintro e w49 ⟨rfl, hb⟩
    refine ⟨_, rfl, ?_⟩
    replace BK369 := bB BK369 hb
    replace BK370 := bB BK370 hb
    replace BK371 := bB BK371 hb
    replace HB := bW HB hb
    (try clear hb)
    (try clear hb2)
    (try clear hk)
    (try clear hi)
    refine hK.out _ _ (bn8 BK369 (be8 BK370)) (fun hHeld => ?_)
    clear hK K
    refine norm_ (a' := ?_) ?_ ?_
    rotate_left
    ·show Act.put _ (some 32) _ = _
     simp only [Act.put, List.setIfInBounds_toArray, List.set_cons_zero, List.set_cons_succ, i64_w, i32_w]
     rfl
    refine pure_ (i := 5) (N := some 33) (v := ?_) (a' := ?_) #[true, true, true, true, true, true, false, false, false, false, false, false, false, false] rfl rfl (any_of HT_.out (by kernel_rfl)) (fun _ _ _ h => h) (Or.inl ⟨by rfl, ?_⟩) ?_ ?_
    rotate_left
    ·intro w'
     go_simp
     with_reducible rfl
    rotate_left
    ·simp only [Act.put, List.setIfInBounds_toArray, List.set_cons_zero, List.set_cons_succ, i64_w, i32_w]
     rfl
    refine pure_ (i := 6) (N := some 34) (v := ?_) (a' := ?_) #[true, true, true, true, true, true, true, false, false, false, false, false, false, false] rfl rfl (any_of HT_.out (by kernel_rfl)) (fun _ _ _ h => h) (Or.inl ⟨by rfl, ?_⟩) ?_ ?_
    rotate_left
    ·intro w'
     go_simp
     with_reducible rfl
    rotate_left
    ·simp only [Act.put, List.setIfInBounds_toArray, List.set_cons_zero, List.set_cons_succ, i64_w, i32_w]
     rfl
    refine take_ (i := 7) (N := some 35) (v := ?_) (a' := ?_) #[true, true, true, true, true, true, true, true, false, false, false, false, false, false] rfl rfl (take_ofW HT_.out HW_.out (by kernel_rfl)) (fun _ _ _ h => h) (Or.inl ⟨by rfl, ?_⟩) hHeld ?_ ?_
    rotate_left
    ·rintro w' ⟨s0, s1, s2, s3, s4, s5, s6, s7, s8, s9, s10, s11, s12, s13, s14, s15⟩
     go_simp
     with_reducible rfl
    rotate_left
    ·simp only [Act.put, List.setIfInBounds_toArray, List.set_cons_zero, List.set_cons_succ, i64_w, i32_w]
     rfl
    refine take_ (i := 10) (N := some 38) (v := ?_) (a' := ?_) #[true, true, true, true, true, true, true, true, false, false, true, false, false, false] rfl rfl (take_ofW HT_.out HW_.out (by kernel_rfl)) (fun _ _ _ h => h) (Or.inl ⟨by rfl, ?_⟩) hHeld ?_ ?_
    rotate_left
    ·rintro w' ⟨s0, s1, s2, s3, s4, s5, s6, s7, s8, s9, s10, s11, s12, s13, s14, s15⟩
     go_simp
     with_reducible rfl
    rotate_left
    ·simp only [Act.put, List.setIfInBounds_toArray, List.set_cons_zero, List.set_cons_succ, i64_w, i32_w]
     rfl
    refine one_ (i := 8) (N := some 36) #[true, true, true, true, true, true, true, true, true, false, true, false, false, false] rfl rfl (one_of HT_.out (by kernel_rfl)) (by decide) (fun K hK => ?_)
    refine goes_ Try.func14 (by kernel_rfl) rfl #[.agg #[.string t381, .int .i64 t382, .float .f64 t383, .string t384, .int .i64 t385, .int .i64 t386, .float .f64 t387, .string t388]] (by rfl) rfl rfl (by (try simp only [List.map_toArray, List.map_cons, List.map_nil]); first | done | rfl | (simp only [List.length_drop, List.length_take]; rfl)) ?_
    with_reducible refine (engrosslaw10_Of.calls t381 t382 t383 t384 t385 t386 t387 t388 t402 t403 t404 t405 t406 t407 t408 t409 _ A42.out).mono ?_
    rintro e w50 ⟨rfl, hb⟩
    refine ⟨_, rfl, ?_⟩
    replace BK369 := bB BK369 hb
    replace BK370 := bB BK370 hb
    replace BK371 := bB BK371 hb
    replace HB := bW HB hb
    (try clear hb)
    (try clear hb2)
    (try clear hk)
    (try clear hi)
    refine hK.out _ _ (bn8 BK369 (be8 BK370)) (fun hHeld => ?_)
    clear hK K
    refine norm_ (a' := ?_) ?_ ?_
    rotate_left
    ·show Act.put _ (some 36) _ = _
     simp only [Act.put, List.setIfInBounds_toArray, List.set_cons_zero, List.set_cons_succ, i64_w, i32_w]
     rfl
    refine one_ (i := 9) (N := some 37) #[true, true, true, true, true, true, true, true, true, true, true, false, false, false] rfl rfl (one_of HT_.out (by kernel_rfl)) (by decide) (fun K hK => ?_)
    refine goes_ Try.func13 (by kernel_rfl) rfl #[.agg #[.string t402, .int .i64 t403, .float .f64 t404, .string t405, .int .i64 t406, .int .i64 t407, .float .f64 t408, .string t409]] (by rfl) rfl rfl (by (try simp only [List.map_toArray, List.map_cons, List.map_nil]); first | done | rfl | (simp only [List.length_drop, List.length_take]; rfl)) ?_
    with_reducible refine (cell_May.calls k t402 t403 t404 t405 t406 t407 t408 t409 t410 _ A43.out).mono ?_
    rintro e w51 ⟨rfl, hb⟩
    refine ⟨_, rfl, ?_⟩
    replace BK369 := bB BK369 hb
    replace BK370 := bB BK370 hb
    replace BK371 := bB BK371 hb
    replace HB := bW HB hb
    (try clear hb)
    (try clear hb2)
    (try clear hk)
    (try clear hi)
    refine hK.out _ _ (bn8 BK369 (be8 BK370)) (fun hHeld => ?_)
    clear hK K
    refine norm_ (a' := ?_) ?_ ?_
    rotate_left
    ·show Act.put _ (some 37) _ = _
     simp only [Act.put, List.setIfInBounds_toArray, List.set_cons_zero, List.set_cons_succ, i64_w, i32_w]
     rfl
    refine one_ (i := 11) (N := some 39) #[true, true, true, true, true, true, true, true, true, true, true, true, false, false] rfl rfl (one_of HT_.out (by kernel_rfl)) (by decide) (fun K hK => ?_)
    refine goes_ Try.func15 (by kernel_rfl) rfl #[.agg #[.string t381, .int .i64 t382, .float .f64 t383, .string t384, .int .i64 t385, .int .i64 t386, .float .f64 t387, .string t388]] (by rfl) rfl rfl (by (try simp only [List.map_toArray, List.map_cons, List.map_nil]); first | done | rfl | (simp only [List.length_drop, List.length_take]; rfl)) ?_
    with_reducible refine (engrossref10_May.calls t381 t382 t383 t384 t385 t386 t387 t388 t411 _ A44.out).mono ?_
    rintro e w52 ⟨rfl, hb⟩
    refine ⟨_, rfl, ?_⟩
    replace BK369 := bB BK369 hb
    replace BK370 := bB BK370 hb
    replace BK371 := bB BK371 hb
    replace HB := bW HB hb
    (try clear hb)
    (try clear hb2)
    (try clear hk)
    (try clear hi)
    refine hK.out _ _ (bn8 BK369 (be8 BK370)) (fun hHeld => ?_)
    clear hK K
    refine norm_ (a' := ?_) ?_ ?_
    rotate_left
    ·show Act.put _ (some 39) _ = _
     simp only [Act.put, List.setIfInBounds_toArray, List.set_cons_zero, List.set_cons_succ, i64_w, i32_w]
     rfl
    refine pure_ (i := 12) (N := some 40) (v := ?_) (a' := ?_) #[true, true, true, true, true, true, true, true, true, true, true, true, true, false] rfl rfl (any_of HT_.out (by kernel_rfl)) (fun _ _ _ h => h) (Or.inl ⟨by rfl, ?_⟩) ?_ ?_
    rotate_left
    ·intro w'
     go_simp
     with_reducible rfl
    rotate_left
    ·simp only [Act.put, List.setIfInBounds_toArray, List.set_cons_zero, List.set_cons_succ, i64_w, i32_w]
     rfl
    refine pure_ (i := 13) (N := some 41) (v := ?_) (a' := ?_) #[true, true, true, true, true, true, true, true, true, true, true, true, true, true] rfl rfl (any_of HT_.out (by kernel_rfl)) (fun _ _ _ h => h) (Or.inl ⟨by rfl, ?_⟩) ?_ ?_
    rotate_left
    ·intro w'
     go_simp
     with_reducible rfl
    rotate_left
    ·simp only [Act.put, List.setIfInBounds_toArray, List.set_cons_zero, List.set_cons_succ, i64_w, i32_w]
     rfl
    refine done_ (done_of HT_.out (by kernel_rfl)) ?_
    try go_wp2
    go_meet
    case rel => exact ⟨_, ((t410 != t411)), (by first | rfl | (simp; done) | (simp [*]; done)), H', ⟨by first | omega | exact Nat.le_refl _⟩, ⟨by (with_reducible repeat (first | refine blk_drewN ?_ _ | refine blk_drew ?_ | refine blk_alloc ?_ _)); exact BK369.out⟩, ⟨by (with_reducible repeat (first | refine blk_drewN ?_ _ | refine blk_drew ?_ | refine blk_alloc ?_ _)); exact BK370.out⟩, ⟨by (with_reducible repeat (first | refine blk_drewN ?_ _ | refine blk_drew ?_ | refine blk_alloc ?_ _)); exact BK371.out⟩, ⟨by repeat (first | (with_reducible first | exact HB.out | apply below_alloc | apply pw_below_drewN | apply below_drew1 | refine below_set ?_ GE369.out | refine below_set ?_ GE370.out | refine below_set ?_ GE371.out) | exact HB.out)⟩⟩
  case rest =>
   clear HC10
   try clear c1
   try clear p2
   try clear c3
   try clear c4
   try clear c10
   try clear c11
   try clear c12
   try clear c13
   try clear c14
   try clear c15
   try clear c41
   try clear c41b0
   try clear c41b1
   try clear c41b2
   obtain ⟨kq, x41_9, rfl, HA, HJ9, BK369, BK370, BK371, HB⟩ := hcut
   cases kq with
   | zero => exact absurd HA.out (by simp [engrosslaw10_CellAll.j0])
   | succ kj9 =>
    have H := HA.out
    clear HA
    simp only [engrosslaw10_CellAll.j0] at H
    by_cases c53 : x41_9 = true
    ·subst c53
     have H1 : (none) = some r := by rw [if_pos rfl] at H; exact H
     clear H
     have H := H1
     clear H1
     exact absurd H (by simp)
    ·replace c53 := Bool.eq_false_iff.mpr c53
     subst c53
     have H1 : ((engrossref10_May.f t373 t374 t375 t376 t377 t378 t379 t380).bind fun t412 => (if t412 = true then ((engrosslaw10_Of.f t373 t374 t375 t376 t377 t378 t379 t380).bind fun bt413 => ((cell_See.f bt413.1 bt413.2.1 bt413.2.2.1 bt413.2.2.2.1 bt413.2.2.2.2.1 bt413.2.2.2.2.2.1 bt413.2.2.2.2.2.2.1 bt413.2.2.2.2.2.2.2 a2).bind fun bt421 => ((engrossref10_See.f t373 t374 t375 t376 t377 t378 t379 t380 a2).bind fun bt424 => ((engrossref1_EqVal.f bt421.1 bt421.2.1 bt421.2.2 bt424.1 bt424.2.1 bt424.2.2).bind fun t427 => (if t427 = true then ((engrossref10_May.f t381 t382 t383 t384 t385 t386 t387 t388).bind fun t428 => (if t428 = true then ((engrosslaw10_Of.f t373 t374 t375 t376 t377 t378 t379 t380).bind fun bt429 => ((engrosslaw10_Of.f t381 t382 t383 t384 t385 t386 t387 t388).bind fun bt437 => ((cell_Eq.f bt429.1 bt429.2.1 bt429.2.2.1 bt429.2.2.2.1 bt429.2.2.2.2.1 bt429.2.2.2.2.2.1 bt429.2.2.2.2.2.2.1 bt429.2.2.2.2.2.2.2 bt437.1 bt437.2.1 bt437.2.2.1 bt437.2.2.2.1 bt437.2.2.2.2.1 bt437.2.2.2.2.2.1 bt437.2.2.2.2.2.2.1 bt437.2.2.2.2.2.2.2).bind fun t445 => ((engrossref10_Eq.f t373 t374 t375 t376 t377 t378 t379 t380 t381 t382 t383 t384 t385 t386 t387 t388).bind fun t446 => (engrosslaw10_CellAll.j1 kj9 a2 (t445 != t446) t373 t374 t375 t376 t377 t378 t379 t380 t389 t390 t391))))) else (engrosslaw10_CellAll.j1 kj9 a2 false t373 t374 t375 t376 t377 t378 t379 t380 t389 t390 t391))) else (none)))))) else (some true))) = some r := by rw [if_neg (show ¬ (false = true) by decide)] at H; exact H
     clear H
     have H := H1
     clear H1
     replace H := Option.bind_eq_some_iff.mp H
     obtain ⟨t412, A540, H⟩ := H
     replace H : (if t412 = true then ((engrosslaw10_Of.f t373 t374 t375 t376 t377 t378 t379 t380).bind fun bt413 => ((cell_See.f bt413.1 bt413.2.1 bt413.2.2.1 bt413.2.2.2.1 bt413.2.2.2.2.1 bt413.2.2.2.2.2.1 bt413.2.2.2.2.2.2.1 bt413.2.2.2.2.2.2.2 a2).bind fun bt421 => ((engrossref10_See.f t373 t374 t375 t376 t377 t378 t379 t380 a2).bind fun bt424 => ((engrossref1_EqVal.f bt421.1 bt421.2.1 bt421.2.2 bt424.1 bt424.2.1 bt424.2.2).bind fun t427 => (if t427 = true then ((engrossref10_May.f t381 t382 t383 t384 t385 t386 t387 t388).bind fun t428 => (if t428 = true then ((engrosslaw10_Of.f t373 t374 t375 t376 t377 t378 t379 t380).bind fun bt429 => ((engrosslaw10_Of.f t381 t382 t383 t384 t385 t386 t387 t388).bind fun bt437 => ((cell_Eq.f bt429.1 bt429.2.1 bt429.2.2.1 bt429.2.2.2.1 bt429.2.2.2.2.1 bt429.2.2.2.2.2.1 bt429.2.2.2.2.2.2.1 bt429.2.2.2.2.2.2.2 bt437.1 bt437.2.1 bt437.2.2.1 bt437.2.2.2.1 bt437.2.2.2.2.1 bt437.2.2.2.2.2.1 bt437.2.2.2.2.2.2.1 bt437.2.2.2.2.2.2.2).bind fun t445 => ((engrossref10_Eq.f t373 t374 t375 t376 t377 t378 t379 t380 t381 t382 t383 t384 t385 t386 t387 t388).bind fun t446 => (engrosslaw10_CellAll.j1 kj9 a2 (t445 != t446) t373 t374 t375 t376 t377 t378 t379 t380 t389 t390 t391))))) else (engrosslaw10_CellAll.j1 kj9 a2 false t373 t374 t375 t376 t377 t378 t379 t380 t389 t390 t391))) else (none)))))) else (some true)) = some r := H
     have A54 := Aside0.mk A540
     clear A540
     by_cases c55 : t412 = true
     ·subst c55
      have H1 : ((engrosslaw10_Of.f t373 t374 t375 t376 t377 t378 t379 t380).bind fun bt413 => ((cell_See.f bt413.1 bt413.2.1 bt413.2.2.1 bt413.2.2.2.1 bt413.2.2.2.2.1 bt413.2.2.2.2.2.1 bt413.2.2.2.2.2.2.1 bt413.2.2.2.2.2.2.2 a2).bind fun bt421 => ((engrossref10_See.f t373 t374 t375 t376 t377 t378 t379 t380 a2).bind fun bt424 => ((engrossref1_EqVal.f bt421.1 bt421.2.1 bt421.2.2 bt424.1 bt424.2.1 bt424.2.2).bind fun t427 => (if t427 = true then ((engrossref10_May.f t381 t382 t383 t384 t385 t386 t387 t388).bind fun t428 => (if t428 = true then ((engrosslaw10_Of.f t373 t374 t375 t376 t377 t378 t379 t380).bind fun bt429 => ((engrosslaw10_Of.f t381 t382 t383 t384 t385 t386 t387 t388).bind fun bt437 => ((cell_Eq.f bt429.1 bt429.2.1 bt429.2.2.1 bt429.2.2.2.1 bt429.2.2.2.2.1 bt429.2.2.2.2.2.1 bt429.2.2.2.2.2.2.1 bt429.2.2.2.2.2.2.2 bt437.1 bt437.2.1 bt437.2.2.1 bt437.2.2.2.1 bt437.2.2.2.2.1 bt437.2.2.2.2.2.1 bt437.2.2.2.2.2.2.1 bt437.2.2.2.2.2.2.2).bind fun t445 => ((engrossref10_Eq.f t373 t374 t375 t376 t377 t378 t379 t380 t381 t382 t383 t384 t385 t386 t387 t388).bind fun t446 => (engrosslaw10_CellAll.j1 kj9 a2 (t445 != t446) t373 t374 t375 t376 t377 t378 t379 t380 t389 t390 t391))))) else (engrosslaw10_CellAll.j1 kj9 a2 false t373 t374 t375 t376 t377 t378 t379 t380 t389 t390 t391))) else (none)))))) = some r := by rw [if_pos rfl] at H; exact H
      clear H
      have H := H1
      clear H1
      have HC56 := Aside0.mk H
      clear H
      have hnb57 := NB369_370.out
      have hnc57 := NB370_369.out
      have hnb58 := NB369_371.out
      have hnc58 := NB371_369.out
      obtain ⟨hcz59_0, hcz59_1, hcz59_2, hcz59_3, hcz59_4, hcz59_5, hcz59_6, hcz59_7, hfz59_0, hfz59_1, hfz59_2, hfz59_3, hfz59_4, hfz59_5, hfz59_6, hfz59_7⟩ := bf8 (w := wc) BK369
      go_upto_region 9 with (first | ((with_reducible refine gate_callee (f := 15) rfl ?_); refine goesL_ (some 43) rfl rfl Try.func15 (by kernel_rfl) rfl #[.agg #[.string t373, .int .i64 t374, .float .f64 t375, .string t376, .int .i64 t377, .int .i64 t378, .float .f64 t379, .string t380]] rfl (by (try simp only [List.map_toArray, List.map_cons, List.map_nil]); first | done | rfl | (simp only [List.length_drop, List.length_take]; rfl)) ?_; (with_reducible refine (engrossref10_May.calls t373 t374 t375 t376 t377 t378 t379 t380 true _ A54.out).mono ?_); rintro e w60 ⟨rfl, hb⟩; refine ⟨_, rfl, ?_⟩; replace BK369 := bB BK369 hb; replace BK370 := bB BK370 hb; replace BK371 := bB BK371 hb; replace HB := bW HB hb; (try clear hb); (try clear hb2); (try clear hk); (try clear hi)))
      (try simp only [Act.put, List.setIfInBounds_toArray, List.set_cons_zero, List.set_cons_succ])
      go_cut [68] (fun v68 wc => ∃ (kq : Nat) (x68_55 : Bool), v68 = .bool x68_55 ∧ Aside0 (engrosslaw10_CellAll.j1 kq a2 x68_55 t373 t374 t375 t376 t377 t378 t379 t380 t389 t390 t391 = some r) ∧ Aside0 (kq ≤ kj9) ∧ Aside0 (wc.heap[gb369]? = some (.cells #[.string t373, .int .i64 t374, .float .f64 t375, .string t376, .int .i64 t377, .int .i64 t378, .float .f64 t379, .string t380] 26 (0, 0))) ∧ Aside0 (wc.heap[gb370]? = some (.cells #[.string t381, .int .i64 t382, .float .f64 t383, .string t384, .int .i64 t385, .int .i64 t386, .float .f64 t387, .string t388] 26 (0, 0))) ∧ Aside0 (wc.heap[gb371]? = some (.cells #[.int .i64 t389, .float .f64 t390, .string t391] 24 (0, 0))) ∧ Aside0 (Below w.heap.size w wc))
      case first =>
       have H := HC56.out
       clear HC56
       replace H := Option.bind_eq_some_iff.mp H
       obtain ⟨⟨t413, t414, t415, t416, t417, t418, t419, t420⟩, A610, H⟩ := H
       replace H : ((cell_See.f t413 t414 t415 t416 t417 t418 t419 t420 a2).bind fun bt421 => ((engrossref10_See.f t373 t374 t375 t376 t377 t378 t379 t380 a2).bind fun bt424 => ((engrossref1_EqVal.f bt421.1 bt421.2.1 bt421.2.2 bt424.1 bt424.2.1 bt424.2.2).bind fun t427 => (if t427 = true then ((engrossref10_May.f t381 t382 t383 t384 t385 t386 t387 t388).bind fun t428 => (if t428 = true then ((engrosslaw10_Of.f t373 t374 t375 t376 t377 t378 t379 t380).bind fun bt429 => ((engrosslaw10_Of.f t381 t382 t383 t384 t385 t386 t387 t388).bind fun bt437 => ((cell_Eq.f bt429.1 bt429.2.1 bt429.2.2.1 bt429.2.2.2.1 bt429.2.2.2.2.1 bt429.2.2.2.2.2.1 bt429.2.2.2.2.2.2.1 bt429.2.2.2.2.2.2.2 bt437.1 bt437.2.1 bt437.2.2.1 bt437.2.2.2.1 bt437.2.2.2.2.1 bt437.2.2.2.2.2.1 bt437.2.2.2.2.2.2.1 bt437.2.2.2.2.2.2.2).bind fun t445 => ((engrossref10_Eq.f t373 t374 t375 t376 t377 t378 t379 t380 t381 t382 t383 t384 t385 t386 t387 t388).bind fun t446 => (engrosslaw10_CellAll.j1 kj9 a2 (t445 != t446) t373 t374 t375 t376 t377 t378 t379 t380 t389 t390 t391))))) else (engrosslaw10_CellAll.j1 kj9 a2 false t373 t374 t375 t376 t377 t378 t379 t380 t389 t390 t391))) else (none))))) = some r := H
       have A61 := Aside0.mk A610
       clear A610
       replace H := Option.bind_eq_some_iff.mp H
       obtain ⟨⟨t421, t422, t423⟩, A620, H⟩ := H
       replace H : ((engrossref10_See.f t373 t374 t375 t376 t377 t378 t379 t380 a2).bind fun bt424 => ((engrossref1_EqVal.f t421 t422 t423 bt424.1 bt424.2.1 bt424.2.2).bind fun t427 => (if t427 = true then ((engrossref10_May.f t381 t382 t383 t384 t385 t386 t387 t388).bind fun t428 => (if t428 = true then ((engrosslaw10_Of.f t373 t374 t375 t376 t377 t378 t379 t380).bind fun bt429 => ((engrosslaw10_Of.f t381 t382 t383 t384 t385 t386 t387 t388).bind fun bt437 => ((cell_Eq.f bt429.1 bt429.2.1 bt429.2.2.1 bt429.2.2.2.1 bt429.2.2.2.2.1 bt429.2.2.2.2.2.1 bt429.2.2.2.2.2.2.1 bt429.2.2.2.2.2.2.2 bt437.1 bt437.2.1 bt437.2.2.1 bt437.2.2.2.1 bt437.2.2.2.2.1 bt437.2.2.2.2.2.1 bt437.2.2.2.2.2.2.1 bt437.2.2.2.2.2.2.2).bind fun t445 => ((engrossref10_Eq.f t373 t374 t375 t376 t377 t378 t379 t380 t381 t382 t383 t384 t385 t386 t387 t388).bind fun t446 => (engrosslaw10_CellAll.j1 kj9 a2 (t445 != t446) t373 t374 t375 t376 t377 t378 t379 t380 t389 t390 t391))))) else (engrosslaw10_CellAll.j1 kj9 a2 false t373 t374 t375 t376 t377 t378 t379 t380 t389 t390 t391))) else (none)))) = some r := H
       have A62 := Aside0.mk A620
       clear A620
       replace H := Option.bind_eq_some_iff.mp H
       obtain ⟨⟨t424, t425, t426⟩, A630, H⟩ := H
       replace H : ((engrossref1_EqVal.f t421 t422 t423 t424 t425 t426).bind fun t427 => (if t427 = true then ((engrossref10_May.f t381 t382 t383 t384 t385 t386 t387 t388).bind fun t428 => (if t428 = true then ((engrosslaw10_Of.f t373 t374 t375 t376 t377 t378 t379 t380).bind fun bt429 => ((engrosslaw10_Of.f t381 t382 t383 t384 t385 t386 t387 t388).bind fun bt437 => ((cell_Eq.f bt429.1 bt429.2.1 bt429.2.2.1 bt429.2.2.2.1 bt429.2.2.2.2.1 bt429.2.2.2.2.2.1 bt429.2.2.2.2.2.2.1 bt429.2.2.2.2.2.2.2 bt437.1 bt437.2.1 bt437.2.2.1 bt437.2.2.2.1 bt437.2.2.2.2.1 bt437.2.2.2.2.2.1 bt437.2.2.2.2.2.2.1 bt437.2.2.2.2.2.2.2).bind fun t445 => ((engrossref10_Eq.f t373 t374 t375 t376 t377 t378 t379 t380 t381 t382 t383 t384 t385 t386 t387 t388).bind fun t446 => (engrosslaw10_CellAll.j1 kj9 a2 (t445 != t446) t373 t374 t375 t376 t377 t378 t379 t380 t389 t390 t391))))) else (engrosslaw10_CellAll.j1 kj9 a2 false t373 t374 t375 t376 t377 t378 t379 t380 t389 t390 t391))) else (none))) = some r := H
       have A63 := Aside0.mk A630
       clear A630
       replace H := Option.bind_eq_some_iff.mp H
       obtain ⟨t427, A640, H⟩ := H
       replace H : (if t427 = true then ((engrossref10_May.f t381 t382 t383 t384 t385 t386 t387 t388).bind fun t428 => (if t428 = true then ((engrosslaw10_Of.f t373 t374 t375 t376 t377 t378 t379 t380).bind fun bt429 => ((engrosslaw10_Of.f t381 t382 t383 t384 t385 t386 t387 t388).bind fun bt437 => ((cell_Eq.f bt429.1 bt429.2.1 bt429.2.2.1 bt429.2.2.2.1 bt429.2.2.2.2.1 bt429.2.2.2.2.2.1 bt429.2.2.2.2.2.2.1 bt429.2.2.2.2.2.2.2 bt437.1 bt437.2.1 bt437.2.2.1 bt437.2.2.2.1 bt437.2.2.2.2.1 bt437.2.2.2.2.2.1 bt437.2.2.2.2.2.2.1 bt437.2.2.2.2.2.2.2).bind fun t445 => ((engrossref10_Eq.f t373 t374 t375 t376 t377 t378 t379 t380 t381 t382 t383 t384 t385 t386 t387 t388).bind fun t446 => (engrosslaw10_CellAll.j1 kj9 a2 (t445 != t446) t373 t374 t375 t376 t377 t378 t379 t380 t389 t390 t391))))) else (engrosslaw10_CellAll.j1 kj9 a2 false t373 t374 t375 t376 t377 t378 t379 t380 t389 t390 t391))) else (none)) = some r := H
       have A64 := Aside0.mk A640
       clear A640
       by_cases c65 : t427 = true
       ·subst c65
        have H1 : ((engrossref10_May.f t381 t382 t383 t384 t385 t386 t387 t388).bind fun t428 => (if t428 = true then ((engrosslaw10_Of.f t373 t374 t375 t376 t377 t378 t379 t380).bind fun bt429 => ((engrosslaw10_Of.f t381 t382 t383 t384 t385 t386 t387 t388).bind fun bt437 => ((cell_Eq.f bt429.1 bt429.2.1 bt429.2.2.1 bt429.2.2.2.1 bt429.2.2.2.2.1 bt429.2.2.2.2.2.1 bt429.2.2.2.2.2.2.1 bt429.2.2.2.2.2.2.2 bt437.1 bt437.2.1 bt437.2.2.1 bt437.2.2.2.1 bt437.2.2.2.2.1 bt437.2.2.2.2.2.1 bt437.2.2.2.2.2.2.1 bt437.2.2.2.2.2.2.2).bind fun t445 => ((engrossref10_Eq.f t373 t374 t375 t376 t377 t378 t379 t380 t381 t382 t383 t384 t385 t386 t387 t388).bind fun t446 => (engrosslaw10_CellAll.j1 kj9 a2 (t445 != t446) t373 t374 t375 t376 t377 t378 t379 t380 t389 t390 t391))))) else (engrosslaw10_CellAll.j1 kj9 a2 false t373 t374 t375 t376 t377 t378 t379 t380 t389 t390 t391))) = some r := by rw [if_pos rfl] at H; exact H
        clear H
        have H := H1
        clear H1
        replace H := Option.bind_eq_some_iff.mp H
        obtain ⟨t428, A660, H⟩ := H
        replace H : (if t428 = true then ((engrosslaw10_Of.f t373 t374 t375 t376 t377 t378 t379 t380).bind fun bt429 => ((engrosslaw10_Of.f t381 t382 t383 t384 t385 t386 t387 t388).bind fun bt437 => ((cell_Eq.f bt429.1 bt429.2.1 bt429.2.2.1 bt429.2.2.2.1 bt429.2.2.2.2.1 bt429.2.2.2.2.2.1 bt429.2.2.2.2.2.2.1 bt429.2.2.2.2.2.2.2 bt437.1 bt437.2.1 bt437.2.2.1 bt437.2.2.2.1 bt437.2.2.2.2.1 bt437.2.2.2.2.2.1 bt437.2.2.2.2.2.2.1 bt437.2.2.2.2.2.2.2).bind fun t445 => ((engrossref10_Eq.f t373 t374 t375 t376 t377 t378 t379 t380 t381 t382 t383 t384 t385 t386 t387 t388).bind fun t446 => (engrosslaw10_CellAll.j1 kj9 a2 (t445 != t446) t373 t374 t375 t376 t377 t378 t379 t380 t389 t390 t391))))) else (engrosslaw10_CellAll.j1 kj9 a2 false t373 t374 t375 t376 t377 t378 t379 t380 t389 t390 t391)) = some r := H
        have A66 := Aside0.mk A660
        clear A660
        by_cases c67 : t428 = true
        ·subst c67
         have H1 : ((engrosslaw10_Of.f t373 t374 t375 t376 t377 t378 t379 t380).bind fun bt429 => ((engrosslaw10_Of.f t381 t382 t383 t384 t385 t386 t387 t388).bind fun bt437 => ((cell_Eq.f bt429.1 bt429.2.1 bt429.2.2.1 bt429.2.2.2.1 bt429.2.2.2.2.1 bt429.2.2.2.2.2.1 bt429.2.2.2.2.2.2.1 bt429.2.2.2.2.2.2.2 bt437.1 bt437.2.1 bt437.2.2.1 bt437.2.2.2.1 bt437.2.2.2.2.1 bt437.2.2.2.2.2.1 bt437.2.2.2.2.2.2.1 bt437.2.2.2.2.2.2.2).bind fun t445 => ((engrossref10_Eq.f t373 t374 t375 t376 t377 t378 t379 t380 t381 t382 t383 t384 t385 t386 t387 t388).bind fun t446 => (engrosslaw10_CellAll.j1 kj9 a2 (t445 != t446) t373 t374 t375 t376 t377 t378 t379 t380 t389 t390 t391))))) = some r := by rw [if_pos rfl] at H; exact H
         clear H
         have H := H1
         clear H1
         replace H := Option.bind_eq_some_iff.mp H
         obtain ⟨⟨t429, t430, t431, t432, t433, t434, t435, t436⟩, A680, H⟩ := H
         replace H : ((engrosslaw10_Of.f t381 t382 t383 t384 t385 t386 t387 t388).bind fun bt437 => ((cell_Eq.f t429 t430 t431 t432 t433 t434 t435 t436 bt437.1 bt437.2.1 bt437.2.2.1 bt437.2.2.2.1 bt437.2.2.2.2.1 bt437.2.2.2.2.2.1 bt437.2.2.2.2.2.2.1 bt437.2.2.2.2.2.2.2).bind fun t445 => ((engrossref10_Eq.f t373 t374 t375 t376 t377 t378 t379 t380 t381 t382 t383 t384 t385 t386 t387 t388).bind fun t446 => (engrosslaw10_CellAll.j1 kj9 a2 (t445 != t446) t373 t374 t375 t376 t377 t378 t379 t380 t389 t390 t391)))) = some r := H
         have A68 := Aside0.mk A680
         clear A680
         have EA68 := Option.some.inj (A61.out.symm.trans A68.out)
         simp only [Prod.mk.injEq] at EA68
         obtain ⟨eA68_0, eA68_1, eA68_2, eA68_3, eA68_4, eA68_5, eA68_6, eA68_7⟩ := EA68
         subst eA68_0
         subst eA68_1
         subst eA68_2
         subst eA68_3
         subst eA68_4
         subst eA68_5
         subst eA68_6
         subst eA68_7
         replace H := Option.bind_eq_some_iff.mp H
         obtain ⟨⟨t437, t438, t439, t440, t441, t442, t443, t444⟩, A690, H⟩ := H
         replace H : ((cell_Eq.f t413 t414 t415 t416 t417 t418 t419 t420 t437 t438 t439 t440 t441 t442 t443 t444).bind fun t445 => ((engrossref10_Eq.f t373 t374 t375 t376 t377 t378 t379 t380 t381 t382 t383 t384 t385 t386 t387 t388).bind fun t446 => (engrosslaw10_CellAll.j1 kj9 a2 (t445 != t446) t373 t374 t375 t376 t377 t378 t379 t380 t389 t390 t391))) = some r := H
         have A69 := Aside0.mk A690
         clear A690
         replace H := Option.bind_eq_some_iff.mp H
         obtain ⟨t445, A700, H⟩ := H
         replace H : ((engrossref10_Eq.f t373 t374 t375 t376 t377 t378 t379 t380 t381 t382 t383 t384 t385 t386 t387 t388).bind fun t446 => (engrosslaw10_CellAll.j1 kj9 a2 (t445 != t446) t373 t374 t375 t376 t377 t378 t379 t380 t389 t390 t391)) = some r := H
         have A70 := Aside0.mk A700
         clear A700
         replace H := Option.bind_eq_some_iff.mp H
         obtain ⟨t446, A710, H⟩ := H
         replace H : (engrosslaw10_CellAll.j1 kj9 a2 (t445 != t446) t373 t374 t375 t376 t377 t378 t379 t380 t389 t390 t391) = some r := H
         have A71 := Aside0.mk A710
         clear A710
         have H' := Aside0.mk H
         clear H
         try go_wp2
         replace BK369 := Aside0.mk (blk_drew BK369.out)
         replace BK370 := Aside0.mk (blk_drew BK370.out)
         replace BK371 := Aside0.mk (blk_drew BK371.out)
         replace HB := Aside0.mk (below_drew1 HB.out)
         refine start_ (n := 24) (S := fun w' => w'.cell? ⟨gb369, 0, none⟩ = some (.string t373) ∧ w'.cell? ⟨gb369, 1, none⟩ = some (.int .i64 t374) ∧ w'.cell? ⟨gb369, 2, none⟩ = some (.float .f64 t375) ∧ w'.cell? ⟨gb369, 3, none⟩ = some (.string t376) ∧ w'.cell? ⟨gb369, 4, none⟩ = some (.int .i64 t377) ∧ w'.cell? ⟨gb369, 5, none⟩ = some (.int .i64 t378) ∧ w'.cell? ⟨gb369, 6, none⟩ = some (.float .f64 t379) ∧ w'.cell? ⟨gb369, 7, none⟩ = some (.string t380) ∧ w'.cell? ⟨gb370, 0, none⟩ = some (.string t381) ∧ w'.cell? ⟨gb370, 1, none⟩ = some (.int .i64 t382) ∧ w'.cell? ⟨gb370, 2, none⟩ = some (.float .f64 t383) ∧ w'.cell? ⟨gb370, 3, none⟩ = some (.string t384) ∧ w'.cell? ⟨gb370, 4, none⟩ = some (.int .i64 t385) ∧ w'.cell? ⟨gb370, 5, none⟩ = some (.int .i64 t386) ∧ w'.cell? ⟨gb370, 6, none⟩ = some (.float .f64 t387) ∧ w'.cell? ⟨gb370, 7, none⟩ = some (.string t388)) (ds := []) #[false, false, false, false, false, false, false, false, false, false, false, false, false, false, false, false, false, false, false, false, false, false, false, false] (by kernel_rfl) rfl rfl (bn8 BK369 (be8 BK370)) (fun hHeld => ?_); refine with_tabW engrosslaw10_CellAll.tab9 engrosslaw10_CellAll.bits9 (fun HT_ HW_ => ?_)
         generalize w60.drew = w72 at BK369 BK370 BK371 HB hHeld ⊢
         refine pure_ (i := 2) (N := some 47) (v := ?_) (a' := ?_) #[false, false, true, false, false, false, false, false, false, false, false, false, false, false, false, false, false, false, false, false, false, false, false, false] rfl rfl (any_of HT_.out (by kernel_rfl)) (fun _ _ _ h => h) (Or.inl ⟨by rfl, ?_⟩) ?_ ?_
         rotate_left
         ·intro w'
          go_simp
          with_reducible rfl
         rotate_left
         ·simp only [Act.put, List.setIfInBounds_toArray, List.set_cons_zero, List.set_cons_succ, i64_w, i32_w]
          rfl
         refine pure_ (i := 5) (N := some 50) (v := ?_) (a' := ?_) #[false, false, true, false, false, true, false, false, false, false, false, false, false, false, false, false, false, false, false, false, false, false, false, false] rfl rfl (any_of HT_.out (by kernel_rfl)) (fun _ _ _ h => h) (Or.inl ⟨by rfl, ?_⟩) ?_ ?_
         rotate_left
         ·intro w'
          go_simp
          with_reducible rfl
         rotate_left
         ·simp only [Act.put, List.setIfInBounds_toArray, List.set_cons_zero, List.set_cons_succ, i64_w, i32_w]
          rfl
         refine take_ (i := 0) (N := some 45) (v := ?_) (a' := ?_) #[true, false, true, false, false, true, false, false, false, false, false, false, false, false, false, false, false, false, false, false, false, false, false, false] rfl rfl (take_ofW HT_.out HW_.out (by kernel_rfl)) (fun _ _ _ h => h) (Or.inl ⟨by rfl, ?_⟩) hHeld ?_ ?_
         rotate_left
         ·rintro w' ⟨s0, s1, s2, s3, s4, s5, s6, s7, s8, s9, s10, s11, s12, s13, s14, s15⟩
          go_simp
          with_reducible rfl
         rotate_left
         ·simp only [Act.put, List.setIfInBounds_toArray, List.set_cons_zero, List.set_cons_succ, i64_w, i32_w]
          rfl
         refine take_ (i := 4) (N := some 49) (v := ?_) (a' := ?_) #[true, false, true, false, true, true, false, false, false, false, false, false, false, false, false, false, false, false, false, false, false, false, false, false] rfl rfl (take_ofW HT_.out HW_.out (by kernel_rfl)) (fun _ _ _ h => h) (Or.inl ⟨by rfl, ?_⟩) hHeld ?_ ?_
         rotate_left
         ·rintro w' ⟨s0, s1, s2, s3, s4, s5, s6, s7, s8, s9, s10, s11, s12, s13, s14, s15⟩
          go_simp
          with_reducible rfl
         rotate_left
         ·simp only [Act.put, List.setIfInBounds_toArray, List.set_cons_zero, List.set_cons_succ, i64_w, i32_w]
          rfl
         refine one_ (i := 1) (N := some 46) #[true, true, true, false, true, true, false, false, false, false, false, false, false, false, false, false, false, false, false, false, false, false, false, false] rfl rfl (one_of HT_.out (by kernel_rfl)) (by decide) (fun K hK => ?_)
         refine goes_ Try.func14 (by kernel_rfl) rfl #[.agg #[.string t373, .int .i64 t374, .float .f64 t375, .string t376, .int .i64 t377, .int .i64 t378, .float .f64 t379, .string t380]] (by rfl) rfl rfl (by (try simp only [List.map_toArray, List.map_cons, List.map_nil]); first | done | rfl | (simp only [List.length_drop, List.length_take]; rfl)) ?_
         with_reducible refine (engrosslaw10_Of.calls t373 t374 t375 t376 t377 t378 t379 t380 t413 t414 t415 t416 t417 t418 t419 t420 _ A61.out).mono ?_
         rintro e w73 ⟨rfl, hb⟩
         refine ⟨_, rfl, ?_⟩
         replace BK369 := bB BK369 hb
         replace BK370 := bB BK370 hb
         replace BK371 := bB BK371 hb
         replace HB := bW HB hb
         (try clear hb)
         (try clear hb2)
         (try clear hk)
         (try clear hi)
         refine hK.out _ _ (bn8 BK369 (be8 BK370)) (fun hHeld => ?_)
         clear hK K
         refine norm_ (a' := ?_) ?_ ?_
         rotate_left
         ·show Act.put _ (some 46) _ = _
          simp only [Act.put, List.setIfInBounds_toArray, List.set_cons_zero, List.set_cons_succ, i64_w, i32_w]
          rfl
         refine one_ (i := 3) (N := some 48) #[true, true, true, true, true, true, false, false, false, false, false, false, false, false, false, false, false, false, false, false, false, false, false, false] rfl rfl (one_of HT_.out (by kernel_rfl)) (by decide) (fun K hK => ?_)
         refine goes_ Try.func17 (by kernel_rfl) rfl #[.agg #[.string t413, .int .i64 t414, .float .f64 t415, .string t416, .int .i64 t417, .int .i64 t418, .float .f64 t419, .string t420], .int .i64 a2] (by rfl) rfl rfl (by (try simp only [List.map_toArray, List.map_cons, List.map_nil]); first | done | rfl | (simp only [List.length_drop, List.length_take]; rfl)) ?_
         with_reducible refine (cell_See.calls t413 t414 t415 t416 t417 t418 t419 t420 a2 t421 t422 t423 _ A62.out).mono ?_
         rintro e w74 ⟨rfl, hb⟩
         refine ⟨_, rfl, ?_⟩
         replace BK369 := bB BK369 hb
         replace BK370 := bB BK370 hb
         replace BK371 := bB BK371 hb
         replace HB := bW HB hb
         (try clear hb)
         (try clear hb2)
         (try clear hk)
         (try clear hi)
         refine hK.out _ _ (bn8 BK369 (be8 BK370)) (fun hHeld => ?_)
         clear hK K
         refine norm_ (a' := ?_) ?_ ?_
         rotate_left
         ·show Act.put _ (some 48) _ = _
          simp only [Act.put, List.setIfInBounds_toArray, List.set_cons_zero, List.set_cons_succ, i64_w, i32_w]
          rfl
         refine one_ (i := 6) (N := some 51) #[true, true, true, true, true, true, true, false, false, false, false, false, false, false, false, false, false, false, false, false, false, false, false, false] rfl rfl (one_of HT_.out (by kernel_rfl)) (by decide) (fun K hK => ?_)
         refine goes_ Try.func18 (by kernel_rfl) rfl #[.agg #[.string t373, .int .i64 t374, .float .f64 t375, .string t376, .int .i64 t377, .int .i64 t378, .float .f64 t379, .string t380], .int .i64 a2] (by rfl) rfl rfl (by (try simp only [List.map_toArray, List.map_cons, List.map_nil]); first | done | rfl | (simp only [List.length_drop, List.length_take]; rfl)) ?_
         with_reducible refine (engrossref10_See.calls t373 t374 t375 t376 t377 t378 t379 t380 a2 t424 t425 t426 _ A63.out).mono ?_
         rintro e w75 ⟨rfl, hb⟩
         refine ⟨_, rfl, ?_⟩
         replace BK369 := bB BK369 hb
         replace BK370 := bB BK370 hb
         replace BK371 := bB BK371 hb
         replace HB := bW HB hb
         (try clear hb)
         (try clear hb2)
         (try clear hk)
         (try clear hi)
         refine hK.out _ _ (bn8 BK369 (be8 BK370)) (fun hHeld => ?_)
         clear hK K
         refine norm_ (a' := ?_) ?_ ?_
         rotate_left
         ·show Act.put _ (some 51) _ = _
          simp only [Act.put, List.setIfInBounds_toArray, List.set_cons_zero, List.set_cons_succ, i64_w, i32_w]
          rfl
         refine one_ (i := 7) (N := some 52) #[true, true, true, true, true, true, true, true, false, false, false, false, false, false, false, false, false, false, false, false, false, false, false, false] rfl rfl (one_of HT_.out (by kernel_rfl)) (by decide) (fun K hK => ?_)
         refine goes_ Try.func16 (by kernel_rfl) rfl #[.agg #[.int .i64 t421, .float .f64 t422, .string t423], .agg #[.int .i64 t424, .float .f64 t425, .string t426]] (by rfl) rfl rfl (by (try simp only [List.map_toArray, List.map_cons, List.map_nil]); first | done | rfl | (simp only [List.length_drop, List.length_take]; rfl)) ?_
         with_reducible refine (engrossref1_EqVal.calls t421 t422 t423 t424 t425 t426 true _ A64.out).mono ?_
         rintro e w76 ⟨rfl, hb⟩
         refine ⟨_, rfl, ?_⟩
         replace BK369 := bB BK369 hb
         replace BK370 := bB BK370 hb
         replace BK371 := bB BK371 hb
         replace HB := bW HB hb
         (try clear hb)
         (try clear hb2)
         (try clear hk)
         (try clear hi)
         refine hK.out _ _ (bn8 BK369 (be8 BK370)) (fun hHeld => ?_)
         clear hK K
         refine norm_ (a' := ?_) ?_ ?_
         rotate_left
         ·show Act.put _ (some 52) _ = _
          simp only [Act.put, List.setIfInBounds_toArray, List.set_cons_zero, List.set_cons_succ, i64_w, i32_w]
          rfl
         refine pure_ (i := 8) (N := some 53) (v := ?_) (a' := ?_) #[true, true, true, true, true, true, true, true, true, false, false, false, false, false, false, false, false, false, false, false, false, false, false, false] rfl rfl (any_of HT_.out (by kernel_rfl)) (fun _ _ _ h => h) (Or.inl ⟨by rfl, ?_⟩) ?_ ?_
         rotate_left
         ·intro w'
          go_simp
          with_reducible rfl
         rotate_left
         ·simp only [Act.put, List.setIfInBounds_toArray, List.set_cons_zero, List.set_cons_succ, i64_w, i32_w]
          rfl
         refine pure_ (i := 9) (N := some 54) (v := ?_) (a' := ?_) #[true, true, true, true, true, true, true, true, true, true, false, false, false, false, false, false, false, false, false, false, false, false, false, false] rfl rfl (any_of HT_.out (by kernel_rfl)) (fun _ _ _ h => h) (Or.inl ⟨by rfl, ?_⟩) ?_ ?_
         rotate_left
         ·intro w'
          go_simp
          with_reducible rfl
         rotate_left
         ·simp only [Act.put, List.setIfInBounds_toArray, List.set_cons_zero, List.set_cons_succ, i64_w, i32_w]
          rfl
         refine take_ (i := 10) (N := some 55) (v := ?_) (a' := ?_) #[true, true, true, true, true, true, true, true, true, true, true, false, false, false, false, false, false, false, false, false, false, false, false, false] rfl rfl (take_ofW HT_.out HW_.out (by kernel_rfl)) (fun _ _ _ h => h) (Or.inl ⟨by rfl, ?_⟩) hHeld ?_ ?_
         rotate_left
         ·rintro w' ⟨s0, s1, s2, s3, s4, s5, s6, s7, s8, s9, s10, s11, s12, s13, s14, s15⟩
          go_simp
          with_reducible rfl
         rotate_left
         ·simp only [Act.put, List.setIfInBounds_toArray, List.set_cons_zero, List.set_cons_succ, i64_w, i32_w]
          rfl
         refine one_ (i := 11) (N := some 56) #[true, true, true, true, true, true, true, true, true, true, true, true, false, false, false, false, false, false, false, false, false, false, false, false] rfl rfl (one_of HT_.out (by kernel_rfl)) (by decide) (fun K hK => ?_)
         refine goes_ Try.func15 (by kernel_rfl) rfl #[.agg #[.string t381, .int .i64 t382, .float .f64 t383, .string t384, .int .i64 t385, .int .i64 t386, .float .f64 t387, .string t388]] (by rfl) rfl rfl (by (try simp only [List.map_toArray, List.map_cons, List.map_nil]); first | done | rfl | (simp only [List.length_drop, List.length_take]; rfl)) ?_
         with_reducible refine (engrossref10_May.calls t381 t382 t383 t384 t385 t386 t387 t388 true _ A66.out).mono ?_
         rintro e w77 ⟨rfl, hb⟩
         refine ⟨_, rfl, ?_⟩
         replace BK369 := bB BK369 hb
         replace BK370 := bB BK370 hb
         replace BK371 := bB BK371 hb
         replace HB := bW HB hb
         (try clear hb)
         (try clear hb2)
         (try clear hk)
         (try clear hi)
         refine hK.out _ _ (bn8 BK369 (be8 BK370)) (fun hHeld => ?_)
         clear hK K
         refine norm_ (a' := ?_) ?_ ?_
         rotate_left
         ·show Act.put _ (some 56) _ = _
          simp only [Act.put, List.setIfInBounds_toArray, List.set_cons_zero, List.set_cons_succ, i64_w, i32_w]
          rfl
         refine pure_ (i := 12) (N := some 57) (v := ?_) (a' := ?_) #[true, true, true, true, true, true, true, true, true, true, true, true, true, false, false, false, false, false, false, false, false, false, false, false] rfl rfl (any_of HT_.out (by kernel_rfl)) (fun _ _ _ h => h) (Or.inl ⟨by rfl, ?_⟩) ?_ ?_
         rotate_left
         ·intro w'
          go_simp
          with_reducible rfl
         rotate_left
         ·simp only [Act.put, List.setIfInBounds_toArray, List.set_cons_zero, List.set_cons_succ, i64_w, i32_w]
          rfl
         refine take_ (i := 13) (N := some 58) (v := ?_) (a' := ?_) #[true, true, true, true, true, true, true, true, true, true, true, true, true, true, false, false, false, false, false, false, false, false, false, false] rfl rfl (take_ofW HT_.out HW_.out (by kernel_rfl)) (fun _ _ _ h => h) (Or.inl ⟨by rfl, ?_⟩) hHeld ?_ ?_
         rotate_left
         ·rintro w' ⟨s0, s1, s2, s3, s4, s5, s6, s7, s8, s9, s10, s11, s12, s13, s14, s15⟩
          go_simp
          with_reducible rfl
         rotate_left
         ·simp only [Act.put, List.setIfInBounds_toArray, List.set_cons_zero, List.set_cons_succ, i64_w, i32_w]
          rfl
         refine take_ (i := 15) (N := some 60) (v := ?_) (a' := ?_) #[true, true, true, true, true, true, true, true, true, true, true, true, true, true, false, true, false, false, false, false, false, false, false, false] rfl rfl (take_ofW HT_.out HW_.out (by kernel_rfl)) (fun _ _ _ h => h) (Or.inl ⟨by rfl, ?_⟩) hHeld ?_ ?_
         rotate_left
         ·rintro w' ⟨s0, s1, s2, s3, s4, s5, s6, s7, s8, s9, s10, s11, s12, s13, s14, s15⟩
          go_simp
          with_reducible rfl
         rotate_left
         ·simp only [Act.put, List.setIfInBounds_toArray, List.set_cons_zero, List.set_cons_succ, i64_w, i32_w]
          rfl
         refine take_ (i := 18) (N := some 63) (v := ?_) (a' := ?_) #[true, true, true, true, true, true, true, true, true, true, true, true, true, true, false, true, false, false, true, false, false, false, false, false] rfl rfl (take_ofW HT_.out HW_.out (by kernel_rfl)) (fun _ _ _ h => h) (Or.inl ⟨by rfl, ?_⟩) hHeld ?_ ?_
         rotate_left
         ·rintro w' ⟨s0, s1, s2, s3, s4, s5, s6, s7, s8, s9, s10, s11, s12, s13, s14, s15⟩
          go_simp
          with_reducible rfl
         rotate_left
         ·simp only [Act.put, List.setIfInBounds_toArray, List.set_cons_zero, List.set_cons_succ, i64_w, i32_w]
          rfl
         refine take_ (i := 19) (N := some 64) (v := ?_) (a' := ?_) #[true, true, true, true, true, true, true, true, true, true, true, true, true, true, false, true, false, false, true, true, false, false, false, false] rfl rfl (take_ofW HT_.out HW_.out (by kernel_rfl)) (fun _ _ _ h => h) (Or.inl ⟨by rfl, ?_⟩) hHeld ?_ ?_
         rotate_left
         ·rintro w' ⟨s0, s1, s2, s3, s4, s5, s6, s7, s8, s9, s10, s11, s12, s13, s14, s15⟩
          go_simp
          with_reducible rfl
         rotate_left
         ·simp only [Act.put, List.setIfInBounds_toArray, List.set_cons_zero, List.set_cons_succ, i64_w, i32_w]
          rfl
         refine one_ (i := 14) (N := some 59) #[true, true, true, true, true, true, true, true, true, true, true, true, true, true, true, true, false, false, true, true, false, false, false, false] rfl rfl (one_of HT_.out (by kernel_rfl)) (by decide) (fun K hK => ?_)
         refine goes_ Try.func14 (by kernel_rfl) rfl #[.agg #[.string t373, .int .i64 t374, .float .f64 t375, .string t376, .int .i64 t377, .int .i64 t378, .float .f64 t379, .string t380]] (by rfl) rfl rfl (by (try simp only [List.map_toArray, List.map_cons, List.map_nil]); first | done | rfl | (simp only [List.length_drop, List.length_take]; rfl)) ?_
         with_reducible refine (engrosslaw10_Of.calls t373 t374 t375 t376 t377 t378 t379 t380 t413 t414 t415 t416 t417 t418 t419 t420 _ A68.out).mono ?_
         rintro e w78 ⟨rfl, hb⟩
         refine ⟨_, rfl, ?_⟩
         replace BK369 := bB BK369 hb
         replace BK370 := bB BK370 hb
         replace BK371 := bB BK371 hb
         replace HB := bW HB hb
         (try clear hb)
         (try clear hb2)
         (try clear hk)
         (try clear hi)
         refine hK.out _ _ (bn8 BK369 (be8 BK370)) (fun hHeld => ?_)
         clear hK K
         refine norm_ (a' := ?_) ?_ ?_
         rotate_left
         ·show Act.put _ (some 59) _ = _
          simp only [Act.put, List.setIfInBounds_toArray, List.set_cons_zero, List.set_cons_succ, i64_w, i32_w]
          rfl
         refine one_ (i := 16) (N := some 61) #[true, true, true, true, true, true, true, true, true, true, true, true, true, true, true, true, true, false, true, true, false, false, false, false] rfl rfl (one_of HT_.out (by kernel_rfl)) (by decide) (fun K hK => ?_)
         refine goes_ Try.func14 (by kernel_rfl) rfl #[.agg #[.string t381, .int .i64 t382, .float .f64 t383, .string t384, .int .i64 t385, .int .i64 t386, .float .f64 t387, .string t388]] (by rfl) rfl rfl (by (try simp only [List.map_toArray, List.map_cons, List.map_nil]); first | done | rfl | (simp only [List.length_drop, List.length_take]; rfl)) ?_
         with_reducible refine (engrosslaw10_Of.calls t381 t382 t383 t384 t385 t386 t387 t388 t437 t438 t439 t440 t441 t442 t443 t444 _ A69.out).mono ?_
         rintro e w79 ⟨rfl, hb⟩
         refine ⟨_, rfl, ?_⟩
         replace BK369 := bB BK369 hb
         replace BK370 := bB BK370 hb
         replace BK371 := bB BK371 hb
         replace HB := bW HB hb
         (try clear hb)
         (try clear hb2)
         (try clear hk)
         (try clear hi)
         refine hK.out _ _ (bn8 BK369 (be8 BK370)) (fun hHeld => ?_)
         clear hK K
         refine norm_ (a' := ?_) ?_ ?_
         rotate_left
         ·show Act.put _ (some 61) _ = _
          simp only [Act.put, List.setIfInBounds_toArray, List.set_cons_zero, List.set_cons_succ, i64_w, i32_w]
          rfl
         refine one_ (i := 17) (N := some 62) #[true, true, true, true, true, true, true, true, true, true, true, true, true, true, true, true, true, true, true, true, false, false, false, false] rfl rfl (one_of HT_.out (by kernel_rfl)) (by decide) (fun K hK => ?_)
         refine goes_ Try.func19 (by kernel_rfl) rfl #[.agg #[.string t413, .int .i64 t414, .float .f64 t415, .string t416, .int .i64 t417, .int .i64 t418, .float .f64 t419, .string t420], .agg #[.string t437, .int .i64 t438, .float .f64 t439, .string t440, .int .i64 t441, .int .i64 t442, .float .f64 t443, .string t444]] (by rfl) rfl rfl (by (try simp only [List.map_toArray, List.map_cons, List.map_nil]); first | done | rfl | (simp only [List.length_drop, List.length_take]; rfl)) ?_
         with_reducible refine (cell_Eq.calls t413 t414 t415 t416 t417 t418 t419 t420 t437 t438 t439 t440 t441 t442 t443 t444 t445 _ A70.out).mono ?_
         rintro e w80 ⟨rfl, hb⟩
         refine ⟨_, rfl, ?_⟩
         replace BK369 := bB BK369 hb
         replace BK370 := bB BK370 hb
         replace BK371 := bB BK371 hb
         replace HB := bW HB hb
         (try clear hb)
         (try clear hb2)
         (try clear hk)
         (try clear hi)
         refine hK.out _ _ (bn8 BK369 (be8 BK370)) (fun hHeld => ?_)
         clear hK K
         refine norm_ (a' := ?_) ?_ ?_
         rotate_left
         ·show Act.put _ (some 62) _ = _
          simp only [Act.put, List.setIfInBounds_toArray, List.set_cons_zero, List.set_cons_succ, i64_w, i32_w]
          rfl
         refine one_ (i := 20) (N := some 65) #[true, true, true, true, true, true, true, true, true, true, true, true, true, true, true, true, true, true, true, true, true, false, false, false] rfl rfl (one_of HT_.out (by kernel_rfl)) (by decide) (fun K hK => ?_)
         refine goes_ Try.func20 (by kernel_rfl) rfl #[.agg #[.string t373, .int .i64 t374, .float .f64 t375, .string t376, .int .i64 t377, .int .i64 t378, .float .f64 t379, .string t380], .agg #[.string t381, .int .i64 t382, .float .f64 t383, .string t384, .int .i64 t385, .int .i64 t386, .float .f64 t387, .string t388]] (by rfl) rfl rfl (by (try simp only [List.map_toArray, List.map_cons, List.map_nil]); first | done | rfl | (simp only [List.length_drop, List.length_take]; rfl)) ?_
         with_reducible refine (engrossref10_Eq.calls t373 t374 t375 t376 t377 t378 t379 t380 t381 t382 t383 t384 t385 t386 t387 t388 t446 _ A71.out).mono ?_
         rintro e w81 ⟨rfl, hb⟩
         refine ⟨_, rfl, ?_⟩
         replace BK369 := bB BK369 hb
         replace BK370 := bB BK370 hb
         replace BK371 := bB BK371 hb
         replace HB := bW HB hb
         (try clear hb)
         (try clear hb2)
         (try clear hk)
         (try clear hi)
         refine hK.out _ _ (bn8 BK369 (be8 BK370)) (fun hHeld => ?_)
         clear hK K
         refine norm_ (a' := ?_) ?_ ?_
         rotate_left
         ·show Act.put _ (some 65) _ = _
          simp only [Act.put, List.setIfInBounds_toArray, List.set_cons_zero, List.set_cons_succ, i64_w, i32_w]
          rfl
         refine pure_ (i := 21) (N := some 66) (v := ?_) (a' := ?_) #[true, true, true, true, true, true, true, true, true, true, true, true, true, true, true, true, true, true, true, true, true, true, false, false] rfl rfl (any_of HT_.out (by kernel_rfl)) (fun _ _ _ h => h) (Or.inl ⟨by rfl, ?_⟩) ?_ ?_
         rotate_left
         ·intro w'
          go_simp
          with_reducible rfl
         rotate_left
         ·simp only [Act.put, List.setIfInBounds_toArray, List.set_cons_zero, List.set_cons_succ, i64_w, i32_w]
          rfl
         refine pure_ (i := 22) (N := some 67) (v := ?_) (a' := ?_) #[true, true, true, true, true, true, true, true, true, true, true, true, true, true, true, true, true, true, true, true, true, true, true, false] rfl rfl (any_of HT_.out (by kernel_rfl)) (fun _ _ _ h => h) (Or.inl ⟨by rfl, ?_⟩) ?_ ?_
         rotate_left
         ·intro w'
          go_simp
          with_reducible rfl
         rotate_left
         ·simp only [Act.put, List.setIfInBounds_toArray, List.set_cons_zero, List.set_cons_succ, i64_w, i32_w]
          rfl
         refine pure_ (i := 23) (N := some 68) (v := ?_) (a' := ?_) #[true, true, true, true, true, true, true, true, true, true, true, true, true, true, true, true, true, true, true, true, true, true, true, true] rfl rfl (any_of HT_.out (by kernel_rfl)) (fun _ _ _ h => h) (Or.inl ⟨by rfl, ?_⟩) ?_ ?_
         rotate_left
         ·intro w'
          go_simp
          with_reducible rfl
         rotate_left
         ·simp only [Act.put, List.setIfInBounds_toArray, List.set_cons_zero, List.set_cons_succ, i64_w, i32_w]
          rfl
         refine done_ (done_of HT_.out (by kernel_rfl)) ?_
         try go_wp2
         go_meet
         case rel => exact ⟨_, ((t445 != t446)), (by first | rfl | (simp; done) | (simp [*]; done)), H', ⟨by have := HJ9.out; first | omega | exact Nat.le_refl _⟩, ⟨by (with_reducible repeat (first | refine blk_drewN ?_ _ | refine blk_drew ?_ | refine blk_alloc ?_ _)); exact BK369.out⟩, ⟨by (with_reducible repeat (first | refine blk_drewN ?_ _ | refine blk_drew ?_ | refine blk_alloc ?_ _)); exact BK370.out⟩, ⟨by (with_reducible repeat (first | refine blk_drewN ?_ _ | refine blk_drew ?_ | refine blk_alloc ?_ _)); exact BK371.out⟩, ⟨by repeat (first | (with_reducible first | exact HB.out | apply below_alloc | apply pw_below_drewN | apply below_drew1 | refine below_set ?_ GE369.out | refine below_set ?_ GE370.out | refine below_set ?_ GE371.out) | exact HB.out)⟩⟩
        ·replace c67 := Bool.eq_false_iff.mpr c67
         subst c67
         have H1 : (engrosslaw10_CellAll.j1 kj9 a2 false t373 t374 t375 t376 t377 t378 t379 t380 t389 t390 t391) = some r := by rw [if_neg (show ¬ (false = true) by decide)] at H; exact H
         clear H
         have H := H1
         clear H1
         have H' := Aside0.mk H
         clear H
         try go_wp2
         replace BK369 := Aside0.mk (blk_drew BK369.out)
         replace BK370 := Aside0.mk (blk_drew BK370.out)
         replace BK371 := Aside0.mk (blk_drew BK371.out)
         replace HB := Aside0.mk (below_drew1 HB.out)
         refine start_ (n := 24) (S := fun w' => w'.cell? ⟨gb369, 0, none⟩ = some (.string t373) ∧ w'.cell? ⟨gb369, 1, none⟩ = some (.int .i64 t374) ∧ w'.cell? ⟨gb369, 2, none⟩ = some (.float .f64 t375) ∧ w'.cell? ⟨gb369, 3, none⟩ = some (.string t376) ∧ w'.cell? ⟨gb369, 4, none⟩ = some (.int .i64 t377) ∧ w'.cell? ⟨gb369, 5, none⟩ = some (.int .i64 t378) ∧ w'.cell? ⟨gb369, 6, none⟩ = some (.float .f64 t379) ∧ w'.cell? ⟨gb369, 7, none⟩ = some (.string t380) ∧ w'.cell? ⟨gb370, 0, none⟩ = some (.string t381) ∧ w'.cell? ⟨gb370, 1, none⟩ = some (.int .i64 t382) ∧ w'.cell? ⟨gb370, 2, none⟩ = some (.float .f64 t383) ∧ w'.cell? ⟨gb370, 3, none⟩ = some (.string t384) ∧ w'.cell? ⟨gb370, 4, none⟩ = some (.int .i64 t385) ∧ w'.cell? ⟨gb370, 5, none⟩ = some (.int .i64 t386) ∧ w'.cell? ⟨gb370, 6, none⟩ = some (.float .f64 t387) ∧ w'.cell? ⟨gb370, 7, none⟩ = some (.string t388)) (ds := []) #[false, false, false, false, false, false, false, false, false, false, false, false, false, false, false, false, false, false, false, false, false, false, false, false] (by kernel_rfl) rfl rfl (bn8 BK369 (be8 BK370)) (fun hHeld => ?_); refine with_tabW engrosslaw10_CellAll.tab9 engrosslaw10_CellAll.bits9 (fun HT_ HW_ => ?_)
         generalize w60.drew = w82 at BK369 BK370 BK371 HB hHeld ⊢
         refine pure_ (i := 2) (N := some 47) (v := ?_) (a' := ?_) #[false, false, true, false, false, false, false, false, false, false, false, false, false, false, false, false, false, false, false, false, false, false, false, false] rfl rfl (any_of HT_.out (by kernel_rfl)) (fun _ _ _ h => h) (Or.inl ⟨by rfl, ?_⟩) ?_ ?_
         rotate_left
         ·intro w'
          go_simp
          with_reducible rfl
         rotate_left
         ·simp only [Act.put, List.setIfInBounds_toArray, List.set_cons_zero, List.set_cons_succ, i64_w, i32_w]
          rfl
         refine pure_ (i := 5) (N := some 50) (v := ?_) (a' := ?_) #[false, false, true, false, false, true, false, false, false, false, false, false, false, false, false, false, false, false, false, false, false, false, false, false] rfl rfl (any_of HT_.out (by kernel_rfl)) (fun _ _ _ h => h) (Or.inl ⟨by rfl, ?_⟩) ?_ ?_
         rotate_left
         ·intro w'
          go_simp
          with_reducible rfl
         rotate_left
         ·simp only [Act.put, List.setIfInBounds_toArray, List.set_cons_zero, List.set_cons_succ, i64_w, i32_w]
          rfl
         refine take_ (i := 0) (N := some 45) (v := ?_) (a' := ?_) #[true, false, true, false, false, true, false, false, false, false, false, false, false, false, false, false, false, false, false, false, false, false, false, false] rfl rfl (take_ofW HT_.out HW_.out (by kernel_rfl)) (fun _ _ _ h => h) (Or.inl ⟨by rfl, ?_⟩) hHeld ?_ ?_
         rotate_left
         ·rintro w' ⟨s0, s1, s2, s3, s4, s5, s6, s7, s8, s9, s10, s11, s12, s13, s14, s15⟩
          go_simp
          with_reducible rfl
         rotate_left
         ·simp only [Act.put, List.setIfInBounds_toArray, List.set_cons_zero, List.set_cons_succ, i64_w, i32_w]
          rfl
         refine take_ (i := 4) (N := some 49) (v := ?_) (a' := ?_) #[true, false, true, false, true, true, false, false, false, false, false, false, false, false, false, false, false, false, false, false, false, false, false, false] rfl rfl (take_ofW HT_.out HW_.out (by kernel_rfl)) (fun _ _ _ h => h) (Or.inl ⟨by rfl, ?_⟩) hHeld ?_ ?_
         rotate_left
         ·rintro w' ⟨s0, s1, s2, s3, s4, s5, s6, s7, s8, s9, s10, s11, s12, s13, s14, s15⟩
          go_simp
          with_reducible rfl
         rotate_left
         ·simp only [Act.put, List.setIfInBounds_toArray, List.set_cons_zero, List.set_cons_succ, i64_w, i32_w]
          rfl
         refine one_ (i := 1) (N := some 46) #[true, true, true, false, true, true, false, false, false, false, false, false, false, false, false, false, false, false, false, false, false, false, false, false] rfl rfl (one_of HT_.out (by kernel_rfl)) (by decide) (fun K hK => ?_)
         refine goes_ Try.func14 (by kernel_rfl) rfl #[.agg #[.string t373, .int .i64 t374, .float .f64 t375, .string t376, .int .i64 t377, .int .i64 t378, .float .f64 t379, .string t380]] (by rfl) rfl rfl (by (try simp only [List.map_toArray, List.map_cons, List.map_nil]); first | done | rfl | (simp only [List.length_drop, List.length_take]; rfl)) ?_
         with_reducible refine (engrosslaw10_Of.calls t373 t374 t375 t376 t377 t378 t379 t380 t413 t414 t415 t416 t417 t418 t419 t420 _ A61.out).mono ?_
         rintro e w83 ⟨rfl, hb⟩
         refine ⟨_, rfl, ?_⟩
         replace BK369 := bB BK369 hb
         replace BK370 := bB BK370 hb
         replace BK371 := bB BK371 hb
         replace HB := bW HB hb
         (try clear hb)
         (try clear hb2)
         (try clear hk)
         (try clear hi)
         refine hK.out _ _ (bn8 BK369 (be8 BK370)) (fun hHeld => ?_)
         clear hK K
         refine norm_ (a' := ?_) ?_ ?_
         rotate_left
         ·show Act.put _ (some 46) _ = _
          simp only [Act.put, List.setIfInBounds_toArray, List.set_cons_zero, List.set_cons_succ, i64_w, i32_w]
          rfl
         refine one_ (i := 3) (N := some 48) #[true, true, true, true, true, true, false, false, false, false, false, false, false, false, false, false, false, false, false, false, false, false, false, false] rfl rfl (one_of HT_.out (by kernel_rfl)) (by decide) (fun K hK => ?_)
         refine goes_ Try.func17 (by kernel_rfl) rfl #[.agg #[.string t413, .int .i64 t414, .float .f64 t415, .string t416, .int .i64 t417, .int .i64 t418, .float .f64 t419, .string t420], .int .i64 a2] (by rfl) rfl rfl (by (try simp only [List.map_toArray, List.map_cons, List.map_nil]); first | done | rfl | (simp only [List.length_drop, List.length_take]; rfl)) ?_
         with_reducible refine (cell_See.calls t413 t414 t415 t416 t417 t418 t419 t420 a2 t421 t422 t423 _ A62.out).mono ?_
         rintro e w84 ⟨rfl, hb⟩
         refine ⟨_, rfl, ?_⟩
         replace BK369 := bB BK369 hb
         replace BK370 := bB BK370 hb
         replace BK371 := bB BK371 hb
         replace HB := bW HB hb
         (try clear hb)
         (try clear hb2)
         (try clear hk)
         (try clear hi)
         refine hK.out _ _ (bn8 BK369 (be8 BK370)) (fun hHeld => ?_)
         clear hK K
         refine norm_ (a' := ?_) ?_ ?_
         rotate_left
         ·show Act.put _ (some 48) _ = _
          simp only [Act.put, List.setIfInBounds_toArray, List.set_cons_zero, List.set_cons_succ, i64_w, i32_w]
          rfl
         refine one_ (i := 6) (N := some 51) #[true, true, true, true, true, true, true, false, false, false, false, false, false, false, false, false, false, false, false, false, false, false, false, false] rfl rfl (one_of HT_.out (by kernel_rfl)) (by decide) (fun K hK => ?_)
         refine goes_ Try.func18 (by kernel_rfl) rfl #[.agg #[.string t373, .int .i64 t374, .float .f64 t375, .string t376, .int .i64 t377, .int .i64 t378, .float .f64 t379, .string t380], .int .i64 a2] (by rfl) rfl rfl (by (try simp only [List.map_toArray, List.map_cons, List.map_nil]); first | done | rfl | (simp only [List.length_drop, List.length_take]; rfl)) ?_
         with_reducible refine (engrossref10_See.calls t373 t374 t375 t376 t377 t378 t379 t380 a2 t424 t425 t426 _ A63.out).mono ?_
         rintro e w85 ⟨rfl, hb⟩
         refine ⟨_, rfl, ?_⟩
         replace BK369 := bB BK369 hb
         replace BK370 := bB BK370 hb
         replace BK371 := bB BK371 hb
         replace HB := bW HB hb
         (try clear hb)
         (try clear hb2)
         (try clear hk)
         (try clear hi)
         refine hK.out _ _ (bn8 BK369 (be8 BK370)) (fun hHeld => ?_)
         clear hK K
         refine norm_ (a' := ?_) ?_ ?_
         rotate_left
         ·show Act.put _ (some 51) _ = _
          simp only [Act.put, List.setIfInBounds_toArray, List.set_cons_zero, List.set_cons_succ, i64_w, i32_w]
          rfl
         refine one_ (i := 7) (N := some 52) #[true, true, true, true, true, true, true, true, false, false, false, false, false, false, false, false, false, false, false, false, false, false, false, false] rfl rfl (one_of HT_.out (by kernel_rfl)) (by decide) (fun K hK => ?_)
         refine goes_ Try.func16 (by kernel_rfl) rfl #[.agg #[.int .i64 t421, .float .f64 t422, .string t423], .agg #[.int .i64 t424, .float .f64 t425, .string t426]] (by rfl) rfl rfl (by (try simp only [List.map_toArray, List.map_cons, List.map_nil]); first | done | rfl | (simp only [List.length_drop, List.length_take]; rfl)) ?_
         with_reducible refine (engrossref1_EqVal.calls t421 t422 t423 t424 t425 t426 true _ A64.out).mono ?_
         rintro e w86 ⟨rfl, hb⟩
         refine ⟨_, rfl, ?_⟩
         replace BK369 := bB BK369 hb
         replace BK370 := bB BK370 hb
         replace BK371 := bB BK371 hb
         replace HB := bW HB hb
         (try clear hb)
         (try clear hb2)
         (try clear hk)
         (try clear hi)
         refine hK.out _ _ (bn8 BK369 (be8 BK370)) (fun hHeld => ?_)
         clear hK K
         refine norm_ (a' := ?_) ?_ ?_
         rotate_left
         ·show Act.put _ (some 52) _ = _
          simp only [Act.put, List.setIfInBounds_toArray, List.set_cons_zero, List.set_cons_succ, i64_w, i32_w]
          rfl
         refine pure_ (i := 8) (N := some 53) (v := ?_) (a' := ?_) #[true, true, true, true, true, true, true, true, true, false, false, false, false, false, false, false, false, false, false, false, false, false, false, false] rfl rfl (any_of HT_.out (by kernel_rfl)) (fun _ _ _ h => h) (Or.inl ⟨by rfl, ?_⟩) ?_ ?_
         rotate_left
         ·intro w'
          go_simp
          with_reducible rfl
         rotate_left
         ·simp only [Act.put, List.setIfInBounds_toArray, List.set_cons_zero, List.set_cons_succ, i64_w, i32_w]
          rfl
         refine pure_ (i := 9) (N := some 54) (v := ?_) (a' := ?_) #[true, true, true, true, true, true, true, true, true, true, false, false, false, false, false, false, false, false, false, false, false, false, false, false] rfl rfl (any_of HT_.out (by kernel_rfl)) (fun _ _ _ h => h) (Or.inl ⟨by rfl, ?_⟩) ?_ ?_
         rotate_left
         ·intro w'
          go_simp
          with_reducible rfl
         rotate_left
         ·simp only [Act.put, List.setIfInBounds_toArray, List.set_cons_zero, List.set_cons_succ, i64_w, i32_w]
          rfl
         refine take_ (i := 10) (N := some 55) (v := ?_) (a' := ?_) #[true, true, true, true, true, true, true, true, true, true, true, false, false, false, false, false, false, false, false, false, false, false, false, false] rfl rfl (take_ofW HT_.out HW_.out (by kernel_rfl)) (fun _ _ _ h => h) (Or.inl ⟨by rfl, ?_⟩) hHeld ?_ ?_
         rotate_left
         ·rintro w' ⟨s0, s1, s2, s3, s4, s5, s6, s7, s8, s9, s10, s11, s12, s13, s14, s15⟩
          go_simp
          with_reducible rfl
         rotate_left
         ·simp only [Act.put, List.setIfInBounds_toArray, List.set_cons_zero, List.set_cons_succ, i64_w, i32_w]
          rfl
         refine one_ (i := 11) (N := some 56) #[true, true, true, true, true, true, true, true, true, true, true, true, false, false, false, false, false, false, false, false, false, false, false, false] rfl rfl (one_of HT_.out (by kernel_rfl)) (by decide) (fun K hK => ?_)
         refine goes_ Try.func15 (by kernel_rfl) rfl #[.agg #[.string t381, .int .i64 t382, .float .f64 t383, .string t384, .int .i64 t385, .int .i64 t386, .float .f64 t387, .string t388]] (by rfl) rfl rfl (by (try simp only [List.map_toArray, List.map_cons, List.map_nil]); first | done | rfl | (simp only [List.length_drop, List.length_take]; rfl)) ?_
         with_reducible refine (engrossref10_May.calls t381 t382 t383 t384 t385 t386 t387 t388 false _ A66.out).mono ?_
         rintro e w87 ⟨rfl, hb⟩
         refine ⟨_, rfl, ?_⟩
         replace BK369 := bB BK369 hb
         replace BK370 := bB BK370 hb
         replace BK371 := bB BK371 hb
         replace HB := bW HB hb
         (try clear hb)
         (try clear hb2)
         (try clear hk)
         (try clear hi)
         refine hK.out _ _ (bn8 BK369 (be8 BK370)) (fun hHeld => ?_)
         clear hK K
         refine norm_ (a' := ?_) ?_ ?_
         rotate_left
         ·show Act.put _ (some 56) _ = _
          simp only [Act.put, List.setIfInBounds_toArray, List.set_cons_zero, List.set_cons_succ, i64_w, i32_w]
          rfl
         refine pure_ (i := 12) (N := some 57) (v := ?_) (a' := ?_) #[true, true, true, true, true, true, true, true, true, true, true, true, true, false, false, false, false, false, false, false, false, false, false, false] rfl rfl (any_of HT_.out (by kernel_rfl)) (fun _ _ _ h => h) (Or.inl ⟨by rfl, ?_⟩) ?_ ?_
         rotate_left
         ·intro w'
          go_simp
          with_reducible rfl
         rotate_left
         ·simp only [Act.put, List.setIfInBounds_toArray, List.set_cons_zero, List.set_cons_succ, i64_w, i32_w]
          rfl
         refine pure_ (i := 13) (N := some 58) (v := undef) (a' := ?_) #[true, true, true, true, true, true, true, true, true, true, true, true, true, true, false, false, false, false, false, false, false, false, false, false] rfl rfl (any_of HT_.out (by kernel_rfl)) (fun _ _ _ h => h) (Or.inr ⟨by rfl, rfl⟩) ?_ ?_
         rotate_left
         ·simp only [Act.put, List.setIfInBounds_toArray, List.set_cons_zero, List.set_cons_succ, i64_w, i32_w]
          rfl
         refine pure_ (i := 14) (N := some 59) (v := undef) (a' := ?_) #[true, true, true, true, true, true, true, true, true, true, true, true, true, true, true, false, false, false, false, false, false, false, false, false] rfl rfl (any_of HT_.out (by kernel_rfl)) (fun _ _ _ h => h) (Or.inr ⟨by rfl, rfl⟩) ?_ ?_
         rotate_left
         ·simp only [Act.put, List.setIfInBounds_toArray, List.set_cons_zero, List.set_cons_succ, i64_w, i32_w]
          rfl
         refine pure_ (i := 15) (N := some 60) (v := undef) (a' := ?_) #[true, true, true, true, true, true, true, true, true, true, true, true, true, true, true, true, false, false, false, false, false, false, false, false] rfl rfl (any_of HT_.out (by kernel_rfl)) (fun _ _ _ h => h) (Or.inr ⟨by rfl, rfl⟩) ?_ ?_
         rotate_left
         ·simp only [Act.put, List.setIfInBounds_toArray, List.set_cons_zero, List.set_cons_succ, i64_w, i32_w]
          rfl
         refine pure_ (i := 16) (N := some 61) (v := undef) (a' := ?_) #[true, true, true, true, true, true, true, true, true, true, true, true, true, true, true, true, true, false, false, false, false, false, false, false] rfl rfl (any_of HT_.out (by kernel_rfl)) (fun _ _ _ h => h) (Or.inr ⟨by rfl, rfl⟩) ?_ ?_
         rotate_left
         ·simp only [Act.put, List.setIfInBounds_toArray, List.set_cons_zero, List.set_cons_succ, i64_w, i32_w]
          rfl
         refine pure_ (i := 17) (N := some 62) (v := undef) (a' := ?_) #[true, true, true, true, true, true, true, true, true, true, true, true, true, true, true, true, true, true, false, false, false, false, false, false] rfl rfl (any_of HT_.out (by kernel_rfl)) (fun _ _ _ h => h) (Or.inr ⟨by rfl, rfl⟩) ?_ ?_
         rotate_left
         ·simp only [Act.put, List.setIfInBounds_toArray, List.set_cons_zero, List.set_cons_succ, i64_w, i32_w]
          rfl
         refine pure_ (i := 18) (N := some 63) (v := undef) (a' := ?_) #[true, true, true, true, true, true, true, true, true, true, true, true, true, true, true, true, true, true, true, false, false, false, false, false] rfl rfl (any_of HT_.out (by kernel_rfl)) (fun _ _ _ h => h) (Or.inr ⟨by rfl, rfl⟩) ?_ ?_
         rotate_left
         ·simp only [Act.put, List.setIfInBounds_toArray, List.set_cons_zero, List.set_cons_succ, i64_w, i32_w]
          rfl
         refine pure_ (i := 19) (N := some 64) (v := undef) (a' := ?_) #[true, true, true, true, true, true, true, true, true, true, true, true, true, true, true, true, true, true, true, true, false, false, false, false] rfl rfl (any_of HT_.out (by kernel_rfl)) (fun _ _ _ h => h) (Or.inr ⟨by rfl, rfl⟩) ?_ ?_
         rotate_left
         ·simp only [Act.put, List.setIfInBounds_toArray, List.set_cons_zero, List.set_cons_succ, i64_w, i32_w]
          rfl
         refine pure_ (i := 20) (N := some 65) (v := undef) (a' := ?_) #[true, true, true, true, true, true, true, true, true, true, true, true, true, true, true, true, true, true, true, true, true, false, false, false] rfl rfl (any_of HT_.out (by kernel_rfl)) (fun _ _ _ h => h) (Or.inr ⟨by rfl, rfl⟩) ?_ ?_
         rotate_left
         ·simp only [Act.put, List.setIfInBounds_toArray, List.set_cons_zero, List.set_cons_succ, i64_w, i32_w]
          rfl
         refine pure_ (i := 21) (N := some 66) (v := undef) (a' := ?_) #[true, true, true, true, true, true, true, true, true, true, true, true, true, true, true, true, true, true, true, true, true, true, false, false] rfl rfl (any_of HT_.out (by kernel_rfl)) (fun _ _ _ h => h) (Or.inr ⟨by rfl, rfl⟩) ?_ ?_
         rotate_left
         ·simp only [Act.put, List.setIfInBounds_toArray, List.set_cons_zero, List.set_cons_succ, i64_w, i32_w]
          rfl
         refine pure_ (i := 22) (N := some 67) (v := ?_) (a' := ?_) #[true, true, true, true, true, true, true, true, true, true, true, true, true, true, true, true, true, true, true, true, true, true, true, false] rfl rfl (any_of HT_.out (by kernel_rfl)) (fun _ _ _ h => h) (Or.inl ⟨by rfl, ?_⟩) ?_ ?_
         rotate_left
         ·intro w'
          go_simp
          with_reducible rfl
         rotate_left
         ·simp only [Act.put, List.setIfInBounds_toArray, List.set_cons_zero, List.set_cons_succ, i64_w, i32_w]
          rfl
         refine pure_ (i := 23) (N := some 68) (v := ?_) (a' := ?_) #[true, true, true, true, true, true, true, true, true, true, true, true, true, true, true, true, true, true, true, true, true, true, true, true] rfl rfl (any_of HT_.out (by kernel_rfl)) (fun _ _ _ h => h) (Or.inl ⟨by rfl, ?_⟩) ?_ ?_
         rotate_left
         ·intro w'
          go_simp
          with_reducible rfl
         rotate_left
         ·simp only [Act.put, List.setIfInBounds_toArray, List.set_cons_zero, List.set_cons_succ, i64_w, i32_w]
          rfl
         refine done_ (done_of HT_.out (by kernel_rfl)) ?_
         try go_wp2
         go_meet
         case rel => exact ⟨_, (false), (by first | rfl | (simp; done) | (simp [*]; done)), H', ⟨by have := HJ9.out; first | omega | exact Nat.le_refl _⟩, ⟨by (with_reducible repeat (first | refine blk_drewN ?_ _ | refine blk_drew ?_ | refine blk_alloc ?_ _)); exact BK369.out⟩, ⟨by (with_reducible repeat (first | refine blk_drewN ?_ _ | refine blk_drew ?_ | refine blk_alloc ?_ _)); exact BK370.out⟩, ⟨by (with_reducible repeat (first | refine blk_drewN ?_ _ | refine blk_drew ?_ | refine blk_alloc ?_ _)); exact BK371.out⟩, ⟨by repeat (first | (with_reducible first | exact HB.out | apply below_alloc | apply pw_below_drewN | apply below_drew1 | refine below_set ?_ GE369.out | refine below_set ?_ GE370.out | refine below_set ?_ GE371.out) | exact HB.out)⟩⟩
       ·replace c65 := Bool.eq_false_iff.mpr c65
        subst c65
        have H1 : (none) = some r := by rw [if_neg (show ¬ (false = true) by decide)] at H; exact H
        clear H
        have H := H1
        clear H1
        exact absurd H (by simp)
      case rest =>
       clear HC56
       try clear c1
       try clear c2
       try clear p2
       try clear c6
       try clear c14
       try clear c15
       try clear c16
       try clear c17
       try clear c18
       try clear c19
       try clear c20
       try clear c65
       try clear c67
       obtain ⟨kq, x68_55, rfl, HA, HJ55, BK369, BK370, BK371, HB⟩ := hcut
       cases kq with
       | zero => exact absurd HA.out (by simp [engrosslaw10_CellAll.j1])
       | succ kj55 =>
        have H := HA.out
        clear HA
        simp only [engrosslaw10_CellAll.j1] at H
        by_cases c88 : x68_55 = true
        ·subst c88
         have H1 : (none) = some r := by rw [if_pos rfl] at H; exact H
         clear H
         have H := H1
         clear H1
         exact absurd H (by simp)
        ·replace c88 := Bool.eq_false_iff.mpr c88
         subst c88
         have H1 : ((engrosslaw10_Of.f t373 t374 t375 t376 t377 t378 t379 t380).bind fun bt447 => ((cell_Commit.f bt447.1 bt447.2.1 bt447.2.2.1 bt447.2.2.2.1 bt447.2.2.2.2.1 bt447.2.2.2.2.2.1 bt447.2.2.2.2.2.2.1 bt447.2.2.2.2.2.2.2).bind fun bt455 => ((engrossref10_Commit.f t373 t374 t375 t376 t377 t378 t379 t380).bind fun bt465 => ((engrosslaw10_Of.f t373 t374 t375 t376 t377 t378 t379 t380).bind fun bt475 => ((cell_Undo.f bt475.1 bt475.2.1 bt475.2.2.1 bt475.2.2.2.1 bt475.2.2.2.2.1 bt475.2.2.2.2.2.1 bt475.2.2.2.2.2.2.1 bt475.2.2.2.2.2.2.2).bind fun bt483 => ((engrossref10_Undo.f t373 t374 t375 t376 t377 t378 t379 t380).bind fun bt493 => (if (bt455.2.2.2.2.2.2.2.2 != bt465.2.2.2.2.2.2.2.2) = true then (none) else (if (bt483.2.2.2.2.2.2.2.2 != bt493.2.2.2.2.2.2.2.2) = true then (none) else ((engrosslaw10_Back.f bt455.1 bt455.2.1 bt455.2.2.1 bt455.2.2.2.1 bt455.2.2.2.2.1 bt455.2.2.2.2.2.1 bt455.2.2.2.2.2.2.1 bt455.2.2.2.2.2.2.2.1).bind fun bt503 => ((engrossref10_Eq.f bt503.1 bt503.2.1 bt503.2.2.1 bt503.2.2.2.1 bt503.2.2.2.2.1 bt503.2.2.2.2.2.1 bt503.2.2.2.2.2.2.1 bt503.2.2.2.2.2.2.2 bt465.1 bt465.2.1 bt465.2.2.1 bt465.2.2.2.1 bt465.2.2.2.2.1 bt465.2.2.2.2.2.1 bt465.2.2.2.2.2.2.1 bt465.2.2.2.2.2.2.2.1).bind fun t511 => (if t511 = true then ((engrosslaw10_Back.f bt483.1 bt483.2.1 bt483.2.2.1 bt483.2.2.2.1 bt483.2.2.2.2.1 bt483.2.2.2.2.2.1 bt483.2.2.2.2.2.2.1 bt483.2.2.2.2.2.2.2.1).bind fun bt512 => ((engrossref10_Eq.f bt512.1 bt512.2.1 bt512.2.2.1 bt512.2.2.2.1 bt512.2.2.2.2.1 bt512.2.2.2.2.2.1 bt512.2.2.2.2.2.2.1 bt512.2.2.2.2.2.2.2 bt493.1 bt493.2.1 bt493.2.2.1 bt493.2.2.2.1 bt493.2.2.2.2.1 bt493.2.2.2.2.2.1 bt493.2.2.2.2.2.2.1 bt493.2.2.2.2.2.2.2.1).bind fun t520 => (engrosslaw10_CellAll.j2 kj55 a2 (!t520) t373 t374 t375 t376 t377 t378 t379 t380 t389 t390 t391))) else (none)))))))))))) = some r := by rw [if_neg (show ¬ (false = true) by decide)] at H; exact H
         clear H
         have H := H1
         clear H1
         replace H := Option.bind_eq_some_iff.mp H
         obtain ⟨⟨t447, t448, t449, t450, t451, t452, t453, t454⟩, A890, H⟩ := H
         replace H : ((cell_Commit.f t447 t448 t449 t450 t451 t452 t453 t454).bind fun bt455 => ((engrossref10_Commit.f t373 t374 t375 t376 t377 t378 t379 t380).bind fun bt465 => ((engrosslaw10_Of.f t373 t374 t375 t376 t377 t378 t379 t380).bind fun bt475 => ((cell_Undo.f bt475.1 bt475.2.1 bt475.2.2.1 bt475.2.2.2.1 bt475.2.2.2.2.1 bt475.2.2.2.2.2.1 bt475.2.2.2.2.2.2.1 bt475.2.2.2.2.2.2.2).bind fun bt483 => ((engrossref10_Undo.f t373 t374 t375 t376 t377 t378 t379 t380).bind fun bt493 => (if (bt455.2.2.2.2.2.2.2.2 != bt465.2.2.2.2.2.2.2.2) = true then (none) else (if (bt483.2.2.2.2.2.2.2.2 != bt493.2.2.2.2.2.2.2.2) = true then (none) else ((engrosslaw10_Back.f bt455.1 bt455.2.1 bt455.2.2.1 bt455.2.2.2.1 bt455.2.2.2.2.1 bt455.2.2.2.2.2.1 bt455.2.2.2.2.2.2.1 bt455.2.2.2.2.2.2.2.1).bind fun bt503 => ((engrossref10_Eq.f bt503.1 bt503.2.1 bt503.2.2.1 bt503.2.2.2.1 bt503.2.2.2.2.1 bt503.2.2.2.2.2.1 bt503.2.2.2.2.2.2.1 bt503.2.2.2.2.2.2.2 bt465.1 bt465.2.1 bt465.2.2.1 bt465.2.2.2.1 bt465.2.2.2.2.1 bt465.2.2.2.2.2.1 bt465.2.2.2.2.2.2.1 bt465.2.2.2.2.2.2.2.1).bind fun t511 => (if t511 = true then ((engrosslaw10_Back.f bt483.1 bt483.2.1 bt483.2.2.1 bt483.2.2.2.1 bt483.2.2.2.2.1 bt483.2.2.2.2.2.1 bt483.2.2.2.2.2.2.1 bt483.2.2.2.2.2.2.2.1).bind fun bt512 => ((engrossref10_Eq.f bt512.1 bt512.2.1 bt512.2.2.1 bt512.2.2.2.1 bt512.2.2.2.2.1 bt512.2.2.2.2.2.1 bt512.2.2.2.2.2.2.1 bt512.2.2.2.2.2.2.2 bt493.1 bt493.2.1 bt493.2.2.1 bt493.2.2.2.1 bt493.2.2.2.2.1 bt493.2.2.2.2.2.1 bt493.2.2.2.2.2.2.1 bt493.2.2.2.2.2.2.2.1).bind fun t520 => (engrosslaw10_CellAll.j2 kj55 a2 (!t520) t373 t374 t375 t376 t377 t378 t379 t380 t389 t390 t391))) else (none))))))))))) = some r := H
         have A89 := Aside0.mk A890
         clear A890
         replace H := Option.bind_eq_some_iff.mp H
         obtain ⟨⟨t455, t456, t457, t458, t459, t460, t461, t462, t463⟩, A900, H⟩ := H
         replace H : ((engrossref10_Commit.f t373 t374 t375 t376 t377 t378 t379 t380).bind fun bt465 => ((engrosslaw10_Of.f t373 t374 t375 t376 t377 t378 t379 t380).bind fun bt475 => ((cell_Undo.f bt475.1 bt475.2.1 bt475.2.2.1 bt475.2.2.2.1 bt475.2.2.2.2.1 bt475.2.2.2.2.2.1 bt475.2.2.2.2.2.2.1 bt475.2.2.2.2.2.2.2).bind fun bt483 => ((engrossref10_Undo.f t373 t374 t375 t376 t377 t378 t379 t380).bind fun bt493 => (if (t463 != bt465.2.2.2.2.2.2.2.2) = true then (none) else (if (bt483.2.2.2.2.2.2.2.2 != bt493.2.2.2.2.2.2.2.2) = true then (none) else ((engrosslaw10_Back.f t455 t456 t457 t458 t459 t460 t461 t462).bind fun bt503 => ((engrossref10_Eq.f bt503.1 bt503.2.1 bt503.2.2.1 bt503.2.2.2.1 bt503.2.2.2.2.1 bt503.2.2.2.2.2.1 bt503.2.2.2.2.2.2.1 bt503.2.2.2.2.2.2.2 bt465.1 bt465.2.1 bt465.2.2.1 bt465.2.2.2.1 bt465.2.2.2.2.1 bt465.2.2.2.2.2.1 bt465.2.2.2.2.2.2.1 bt465.2.2.2.2.2.2.2.1).bind fun t511 => (if t511 = true then ((engrosslaw10_Back.f bt483.1 bt483.2.1 bt483.2.2.1 bt483.2.2.2.1 bt483.2.2.2.2.1 bt483.2.2.2.2.2.1 bt483.2.2.2.2.2.2.1 bt483.2.2.2.2.2.2.2.1).bind fun bt512 => ((engrossref10_Eq.f bt512.1 bt512.2.1 bt512.2.2.1 bt512.2.2.2.1 bt512.2.2.2.2.1 bt512.2.2.2.2.2.1 bt512.2.2.2.2.2.2.1 bt512.2.2.2.2.2.2.2 bt493.1 bt493.2.1 bt493.2.2.1 bt493.2.2.2.1 bt493.2.2.2.2.1 bt493.2.2.2.2.2.1 bt493.2.2.2.2.2.2.1 bt493.2.2.2.2.2.2.2.1).bind fun t520 => (engrosslaw10_CellAll.j2 kj55 a2 (!t520) t373 t374 t375 t376 t377 t378 t379 t380 t389 t390 t391))) else (none)))))))))) = some r := H
         have A90 := Aside0.mk A900
         clear A900
         replace H := Option.bind_eq_some_iff.mp H
         obtain ⟨⟨t465, t466, t467, t468, t469, t470, t471, t472, t473⟩, A910, H⟩ := H
         replace H : ((engrosslaw10_Of.f t373 t374 t375 t376 t377 t378 t379 t380).bind fun bt475 => ((cell_Undo.f bt475.1 bt475.2.1 bt475.2.2.1 bt475.2.2.2.1 bt475.2.2.2.2.1 bt475.2.2.2.2.2.1 bt475.2.2.2.2.2.2.1 bt475.2.2.2.2.2.2.2).bind fun bt483 => ((engrossref10_Undo.f t373 t374 t375 t376 t377 t378 t379 t380).bind fun bt493 => (if (t463 != t473) = true then (none) else (if (bt483.2.2.2.2.2.2.2.2 != bt493.2.2.2.2.2.2.2.2) = true then (none) else ((engrosslaw10_Back.f t455 t456 t457 t458 t459 t460 t461 t462).bind fun bt503 => ((engrossref10_Eq.f bt503.1 bt503.2.1 bt503.2.2.1 bt503.2.2.2.1 bt503.2.2.2.2.1 bt503.2.2.2.2.2.1 bt503.2.2.2.2.2.2.1 bt503.2.2.2.2.2.2.2 t465 t466 t467 t468 t469 t470 t471 t472).bind fun t511 => (if t511 = true then ((engrosslaw10_Back.f bt483.1 bt483.2.1 bt483.2.2.1 bt483.2.2.2.1 bt483.2.2.2.2.1 bt483.2.2.2.2.2.1 bt483.2.2.2.2.2.2.1 bt483.2.2.2.2.2.2.2.1).bind fun bt512 => ((engrossref10_Eq.f bt512.1 bt512.2.1 bt512.2.2.1 bt512.2.2.2.1 bt512.2.2.2.2.1 bt512.2.2.2.2.2.1 bt512.2.2.2.2.2.2.1 bt512.2.2.2.2.2.2.2 bt493.1 bt493.2.1 bt493.2.2.1 bt493.2.2.2.1 bt493.2.2.2.2.1 bt493.2.2.2.2.2.1 bt493.2.2.2.2.2.2.1 bt493.2.2.2.2.2.2.2.1).bind fun t520 => (engrosslaw10_CellAll.j2 kj55 a2 (!t520) t373 t374 t375 t376 t377 t378 t379 t380 t389 t390 t391))) else (none))))))))) = some r := H
         have A91 := Aside0.mk A910
         clear A910
         replace H := Option.bind_eq_some_iff.mp H
         obtain ⟨⟨t475, t476, t477, t478, t479, t480, t481, t482⟩, A920, H⟩ := H
         replace H : ((cell_Undo.f t475 t476 t477 t478 t479 t480 t481 t482).bind fun bt483 => ((engrossref10_Undo.f t373 t374 t375 t376 t377 t378 t379 t380).bind fun bt493 => (if (t463 != t473) = true then (none) else (if (bt483.2.2.2.2.2.2.2.2 != bt493.2.2.2.2.2.2.2.2) = true then (none) else ((engrosslaw10_Back.f t455 t456 t457 t458 t459 t460 t461 t462).bind fun bt503 => ((engrossref10_Eq.f bt503.1 bt503.2.1 bt503.2.2.1 bt503.2.2.2.1 bt503.2.2.2.2.1 bt503.2.2.2.2.2.1 bt503.2.2.2.2.2.2.1 bt503.2.2.2.2.2.2.2 t465 t466 t467 t468 t469 t470 t471 t472).bind fun t511 => (if t511 = true then ((engrosslaw10_Back.f bt483.1 bt483.2.1 bt483.2.2.1 bt483.2.2.2.1 bt483.2.2.2.2.1 bt483.2.2.2.2.2.1 bt483.2.2.2.2.2.2.1 bt483.2.2.2.2.2.2.2.1).bind fun bt512 => ((engrossref10_Eq.f bt512.1 bt512.2.1 bt512.2.2.1 bt512.2.2.2.1 bt512.2.2.2.2.1 bt512.2.2.2.2.2.1 bt512.2.2.2.2.2.2.1 bt512.2.2.2.2.2.2.2 bt493.1 bt493.2.1 bt493.2.2.1 bt493.2.2.2.1 bt493.2.2.2.2.1 bt493.2.2.2.2.2.1 bt493.2.2.2.2.2.2.1 bt493.2.2.2.2.2.2.2.1).bind fun t520 => (engrosslaw10_CellAll.j2 kj55 a2 (!t520) t373 t374 t375 t376 t377 t378 t379 t380 t389 t390 t391))) else (none)))))))) = some r := H
         have A92 := Aside0.mk A920
         clear A920
         have EA92 := Option.some.inj (A89.out.symm.trans A92.out)
         simp only [Prod.mk.injEq] at EA92
         obtain ⟨eA92_0, eA92_1, eA92_2, eA92_3, eA92_4, eA92_5, eA92_6, eA92_7⟩ := EA92
         subst eA92_0
         subst eA92_1
         subst eA92_2
         subst eA92_3
         subst eA92_4
         subst eA92_5
         subst eA92_6
         subst eA92_7
         replace H := Option.bind_eq_some_iff.mp H
         obtain ⟨⟨t483, t484, t485, t486, t487, t488, t489, t490, t491⟩, A930, H⟩ := H
         replace H : ((engrossref10_Undo.f t373 t374 t375 t376 t377 t378 t379 t380).bind fun bt493 => (if (t463 != t473) = true then (none) else (if (t491 != bt493.2.2.2.2.2.2.2.2) = true then (none) else ((engrosslaw10_Back.f t455 t456 t457 t458 t459 t460 t461 t462).bind fun bt503 => ((engrossref10_Eq.f bt503.1 bt503.2.1 bt503.2.2.1 bt503.2.2.2.1 bt503.2.2.2.2.1 bt503.2.2.2.2.2.1 bt503.2.2.2.2.2.2.1 bt503.2.2.2.2.2.2.2 t465 t466 t467 t468 t469 t470 t471 t472).bind fun t511 => (if t511 = true then ((engrosslaw10_Back.f t483 t484 t485 t486 t487 t488 t489 t490).bind fun bt512 => ((engrossref10_Eq.f bt512.1 bt512.2.1 bt512.2.2.1 bt512.2.2.2.1 bt512.2.2.2.2.1 bt512.2.2.2.2.2.1 bt512.2.2.2.2.2.2.1 bt512.2.2.2.2.2.2.2 bt493.1 bt493.2.1 bt493.2.2.1 bt493.2.2.2.1 bt493.2.2.2.2.1 bt493.2.2.2.2.2.1 bt493.2.2.2.2.2.2.1 bt493.2.2.2.2.2.2.2.1).bind fun t520 => (engrosslaw10_CellAll.j2 kj55 a2 (!t520) t373 t374 t375 t376 t377 t378 t379 t380 t389 t390 t391))) else (none))))))) = some r := H
         have A93 := Aside0.mk A930
         clear A930
         replace H := Option.bind_eq_some_iff.mp H
         obtain ⟨⟨t493, t494, t495, t496, t497, t498, t499, t500, t501⟩, A940, H⟩ := H
         replace H : (if (t463 != t473) = true then (none) else (if (t491 != t501) = true then (none) else ((engrosslaw10_Back.f t455 t456 t457 t458 t459 t460 t461 t462).bind fun bt503 => ((engrossref10_Eq.f bt503.1 bt503.2.1 bt503.2.2.1 bt503.2.2.2.1 bt503.2.2.2.2.1 bt503.2.2.2.2.2.1 bt503.2.2.2.2.2.2.1 bt503.2.2.2.2.2.2.2 t465 t466 t467 t468 t469 t470 t471 t472).bind fun t511 => (if t511 = true then ((engrosslaw10_Back.f t483 t484 t485 t486 t487 t488 t489 t490).bind fun bt512 => ((engrossref10_Eq.f bt512.1 bt512.2.1 bt512.2.2.1 bt512.2.2.2.1 bt512.2.2.2.2.1 bt512.2.2.2.2.2.1 bt512.2.2.2.2.2.2.1 bt512.2.2.2.2.2.2.2 t493 t494 t495 t496 t497 t498 t499 t500).bind fun t520 => (engrosslaw10_CellAll.j2 kj55 a2 (!t520) t373 t374 t375 t376 t377 t378 t379 t380 t389 t390 t391))) else (none)))))) = some r := H
         have A94 := Aside0.mk A940
         clear A940
         have HC95 := Aside0.mk H
         clear H
         have hnb96 := NB369_370.out
         have hnc96 := NB370_369.out
         have hnb97 := NB369_371.out
         have hnc97 := NB371_369.out
         obtain ⟨hcz98_0, hcz98_1, hcz98_2, hcz98_3, hcz98_4, hcz98_5, hcz98_6, hcz98_7, hfz98_0, hfz98_1, hfz98_2, hfz98_3, hfz98_4, hfz98_5, hfz98_6, hfz98_7⟩ := bf8 (w := wc) BK369
         go_upto_region 15 with (first | ((with_reducible refine gate_callee (f := 14) rfl ?_); refine goesL_ (some 71) rfl rfl Try.func14 (by kernel_rfl) rfl #[.agg #[.string t373, .int .i64 t374, .float .f64 t375, .string t376, .int .i64 t377, .int .i64 t378, .float .f64 t379, .string t380]] rfl (by (try simp only [List.map_toArray, List.map_cons, List.map_nil]); first | done | rfl | (simp only [List.length_drop, List.length_take]; rfl)) ?_; (with_reducible refine (engrosslaw10_Of.calls t373 t374 t375 t376 t377 t378 t379 t380 t447 t448 t449 t450 t451 t452 t453 t454 _ A89.out).mono ?_); rintro e w99 ⟨rfl, hb⟩; refine ⟨_, rfl, ?_⟩; replace BK369 := bB BK369 hb; replace BK370 := bB BK370 hb; replace BK371 := bB BK371 hb; replace HB := bW HB hb; (try clear hb); (try clear hb2); (try clear hk); (try clear hi)) | ((with_reducible refine gate_callee (f := 21) rfl ?_); refine goesL_ (some 72) rfl rfl Try.func21 (by kernel_rfl) rfl #[.agg #[.string t447, .int .i64 t448, .float .f64 t449, .string t450, .int .i64 t451, .int .i64 t452, .float .f64 t453, .string t454]] rfl (by (try simp only [List.map_toArray, List.map_cons, List.map_nil]); first | done | rfl | (simp only [List.length_drop, List.length_take]; rfl)) ?_; (with_reducible refine (cell_Commit.calls t447 t448 t449 t450 t451 t452 t453 t454 t455 t456 t457 t458 t459 t460 t461 t462 t463 _ A90.out).mono ?_); rintro e w100 ⟨rfl, hb⟩; refine ⟨_, rfl, ?_⟩; replace BK369 := bB BK369 hb; replace BK370 := bB BK370 hb; replace BK371 := bB BK371 hb; replace HB := bW HB hb; (try clear hb); (try clear hb2); (try clear hk); (try clear hi)) | ((with_reducible refine gate_dst (N := 10) rfl ?_); refine box_event ?hg (N := 10) ?hd (cs := #[.string (⟨#[]⟩ : ByteArray), .int .i64 0, .float .f64 0, .string (⟨#[]⟩ : ByteArray), .int .i64 0, .int .i64 0, .float .f64 0, .string (⟨#[]⟩ : ByteArray)]) (t := 31) ?hr ?_; (case hd => rfl); (case hg => rfl); (case hr => first | (go_simp; done) | (go_simp; rfl)); intro gb464 hg w101 hbox hb; have BK464 := Aside0.mk (hbox); have GW464 := bZ HB hg; have GE464 := bZ HB hg; have NB369_464 := bL BK369 hg; have NB464_369 := bG BK369 hg; have NB370_464 := bL BK370 hg; have NB464_370 := bG BK370 hg; have NB371_464 := bL BK371 hg; have NB464_371 := bG BK371 hg; replace BK369 := bB BK369 hb; replace BK370 := bB BK370 hb; replace BK371 := bB BK371 hb; replace HB := bW HB hb; clear hb hbox hg; have hnb102 := NB464_369.out; have hnc102 := NB369_464.out; have hnb103 := NB464_370.out; have hnc103 := NB370_464.out; have hnb104 := NB464_371.out; have hnc104 := NB371_464.out; obtain ⟨hcz105_0, hcz105_1, hcz105_2, hcz105_3, hcz105_4, hcz105_5, hcz105_6, hcz105_7, hfz105_0, hfz105_1, hfz105_2, hfz105_3, hfz105_4, hfz105_5, hfz105_6, hfz105_7⟩ := bf8 (w := w101) BK464; obtain ⟨hcz106_0, hcz106_1, hcz106_2, hcz106_3, hcz106_4, hcz106_5, hcz106_6, hcz106_7, hfz106_0, hfz106_1, hfz106_2, hfz106_3, hfz106_4, hfz106_5, hfz106_6, hfz106_7⟩ := bf8 (w := w101) BK369) | ((with_reducible refine gate_callee (f := 22) rfl ?_); refine goesL_ (some 77) rfl rfl Try.func22 (by kernel_rfl) rfl #[.agg #[.string t373, .int .i64 t374, .float .f64 t375, .string t376, .int .i64 t377, .int .i64 t378, .float .f64 t379, .string t380]] rfl (by (try simp only [List.map_toArray, List.map_cons, List.map_nil]); first | done | rfl | (simp only [List.length_drop, List.length_take]; rfl)) ?_; (with_reducible refine (engrossref10_Commit.calls t373 t374 t375 t376 t377 t378 t379 t380 t465 t466 t467 t468 t469 t470 t471 t472 t473 _ A91.out).mono ?_); rintro e w107 ⟨rfl, hb⟩; refine ⟨_, rfl, ?_⟩; replace BK369 := bB BK369 hb; replace BK370 := bB BK370 hb; replace BK371 := bB BK371 hb; replace BK464 := Aside0.mk (blk_below (g := gb464) (o := .cells #[.string t455, .int .i64 t456, .float .f64 t457, .string t458, .int .i64 t459, .int .i64 t460, .float .f64 t461, .string t462] 31 (0, 0)) (bR BK464) hb); replace HB := bW HB hb; (try clear hb); (try clear hb2); (try clear hk); (try clear hi)) | ((with_reducible refine gate_dst (N := 12) rfl ?_); refine box_event ?hg (N := 12) ?hd (cs := #[.string (⟨#[]⟩ : ByteArray), .int .i64 0, .float .f64 0, .string (⟨#[]⟩ : ByteArray), .int .i64 0, .int .i64 0, .float .f64 0, .string (⟨#[]⟩ : ByteArray)]) (t := 26) ?hr ?_; (case hd => rfl); (case hg => rfl); (case hr => first | (go_simp; done) | (go_simp; rfl)); intro gb474 hg w108 hbox hb; have BK474 := Aside0.mk (hbox); have GW474 := bZ HB hg; have GE474 := bZ HB hg; have NB369_474 := bL BK369 hg; have NB474_369 := bG BK369 hg; have NB370_474 := bL BK370 hg; have NB474_370 := bG BK370 hg; have NB371_474 := bL BK371 hg; have NB474_371 := bG BK371 hg; have NB464_474 := bL BK464 hg; have NB474_464 := bG BK464 hg; replace BK369 := bB BK369 hb; replace BK370 := bB BK370 hb; replace BK371 := bB BK371 hb; replace BK464 := bB BK464 hb; replace HB := bW HB hb; clear hb hbox hg; have hnb109 := NB474_369.out; have hnc109 := NB369_474.out; have hnb110 := NB474_370.out; have hnc110 := NB370_474.out; have hnb111 := NB474_371.out; have hnc111 := NB371_474.out; have hnb112 := NB474_464.out; have hnc112 := NB464_474.out; obtain ⟨hcz113_0, hcz113_1, hcz113_2, hcz113_3, hcz113_4, hcz113_5, hcz113_6, hcz113_7, hfz113_0, hfz113_1, hfz113_2, hfz113_3, hfz113_4, hfz113_5, hfz113_6, hfz113_7⟩ := bf8 (w := w108) BK474; obtain ⟨hcz114_0, hcz114_1, hcz114_2, hcz114_3, hcz114_4, hcz114_5, hcz114_6, hcz114_7, hfz114_0, hfz114_1, hfz114_2, hfz114_3, hfz114_4, hfz114_5, hfz114_6, hfz114_7⟩ := bf8 (w := w108) BK369) | ((with_reducible refine gate_callee (f := 14) rfl ?_); refine goesL_ (some 82) rfl rfl Try.func14 (by kernel_rfl) rfl #[.agg #[.string t373, .int .i64 t374, .float .f64 t375, .string t376, .int .i64 t377, .int .i64 t378, .float .f64 t379, .string t380]] rfl (by (try simp only [List.map_toArray, List.map_cons, List.map_nil]); first | done | rfl | (simp only [List.length_drop, List.length_take]; rfl)) ?_; (with_reducible refine (engrosslaw10_Of.calls t373 t374 t375 t376 t377 t378 t379 t380 t447 t448 t449 t450 t451 t452 t453 t454 _ A92.out).mono ?_); rintro e w115 ⟨rfl, hb⟩; refine ⟨_, rfl, ?_⟩; replace BK369 := bB BK369 hb; replace BK370 := bB BK370 hb; replace BK371 := bB BK371 hb; replace BK464 := bB BK464 hb; replace BK474 := Aside0.mk (blk_below (g := gb474) (o := .cells #[.string t465, .int .i64 t466, .float .f64 t467, .string t468, .int .i64 t469, .int .i64 t470, .float .f64 t471, .string t472] 26 (0, 0)) (bR BK474) hb); replace HB := bW HB hb; (try clear hb); (try clear hb2); (try clear hk); (try clear hi)) | ((with_reducible refine gate_callee (f := 23) rfl ?_); refine goesL_ (some 83) rfl rfl Try.func23 (by kernel_rfl) rfl #[.agg #[.string t447, .int .i64 t448, .float .f64 t449, .string t450, .int .i64 t451, .int .i64 t452, .float .f64 t453, .string t454]] rfl (by (try simp only [List.map_toArray, List.map_cons, List.map_nil]); first | done | rfl | (simp only [List.length_drop, List.length_take]; rfl)) ?_; (with_reducible refine (cell_Undo.calls t447 t448 t449 t450 t451 t452 t453 t454 t483 t484 t485 t486 t487 t488 t489 t490 t491 _ A93.out).mono ?_); rintro e w116 ⟨rfl, hb⟩; refine ⟨_, rfl, ?_⟩; replace BK369 := bB BK369 hb; replace BK370 := bB BK370 hb; replace BK371 := bB BK371 hb; replace BK464 := bB BK464 hb; replace BK474 := bB BK474 hb; replace HB := bW HB hb; (try clear hb); (try clear hb2); (try clear hk); (try clear hi)) | ((with_reducible refine gate_dst (N := 14) rfl ?_); refine box_event ?hg (N := 14) ?hd (cs := #[.string (⟨#[]⟩ : ByteArray), .int .i64 0, .float .f64 0, .string (⟨#[]⟩ : ByteArray), .int .i64 0, .int .i64 0, .float .f64 0, .string (⟨#[]⟩ : ByteArray)]) (t := 31) ?hr ?_; (case hd => rfl); (case hg => rfl); (case hr => first | (go_simp; done) | (go_simp; rfl)); intro gb492 hg w117 hbox hb; have BK492 := Aside0.mk (hbox); have GW492 := bZ HB hg; have GE492 := bZ HB hg; have NB369_492 := bL BK369 hg; have NB492_369 := bG BK369 hg; have NB370_492 := bL BK370 hg; have NB492_370 := bG BK370 hg; have NB371_492 := bL BK371 hg; have NB492_371 := bG BK371 hg; have NB464_492 := bL BK464 hg; have NB492_464 := bG BK464 hg; have NB474_492 := bL BK474 hg; have NB492_474 := bG BK474 hg; replace BK369 := bB BK369 hb; replace BK370 := bB BK370 hb; replace BK371 := bB BK371 hb; replace BK464 := bB BK464 hb; replace BK474 := bB BK474 hb; replace HB := bW HB hb; clear hb hbox hg; have hnb118 := NB492_369.out; have hnc118 := NB369_492.out; have hnb119 := NB492_370.out; have hnc119 := NB370_492.out; have hnb120 := NB492_371.out; have hnc120 := NB371_492.out; have hnb121 := NB492_464.out; have hnc121 := NB464_492.out; have hnb122 := NB492_474.out; have hnc122 := NB474_492.out; obtain ⟨hcz123_0, hcz123_1, hcz123_2, hcz123_3, hcz123_4, hcz123_5, hcz123_6, hcz123_7, hfz123_0, hfz123_1, hfz123_2, hfz123_3, hfz123_4, hfz123_5, hfz123_6, hfz123_7⟩ := bf8 (w := w117) BK492; obtain ⟨hcz124_0, hcz124_1, hcz124_2, hcz124_3, hcz124_4, hcz124_5, hcz124_6, hcz124_7, hfz124_0, hfz124_1, hfz124_2, hfz124_3, hfz124_4, hfz124_5, hfz124_6, hfz124_7⟩ := bf8 (w := w117) BK369) | ((with_reducible refine gate_callee (f := 24) rfl ?_); refine goesL_ (some 88) rfl rfl Try.func24 (by kernel_rfl) rfl #[.agg #[.string t373, .int .i64 t374, .float .f64 t375, .string t376, .int .i64 t377, .int .i64 t378, .float .f64 t379, .string t380]] rfl (by (try simp only [List.map_toArray, List.map_cons, List.map_nil]); first | done | rfl | (simp only [List.length_drop, List.length_take]; rfl)) ?_; (with_reducible refine (engrossref10_Undo.calls t373 t374 t375 t376 t377 t378 t379 t380 t493 t494 t495 t496 t497 t498 t499 t500 t501 _ A94.out).mono ?_); rintro e w125 ⟨rfl, hb⟩; refine ⟨_, rfl, ?_⟩; replace BK369 := bB BK369 hb; replace BK370 := bB BK370 hb; replace BK371 := bB BK371 hb; replace BK464 := bB BK464 hb; replace BK474 := bB BK474 hb; replace BK492 := Aside0.mk (blk_below (g := gb492) (o := .cells #[.string t483, .int .i64 t484, .float .f64 t485, .string t486, .int .i64 t487, .int .i64 t488, .float .f64 t489, .string t490] 31 (0, 0)) (bR BK492) hb); replace HB := bW HB hb; (try clear hb); (try clear hb2); (try clear hk); (try clear hi)) | ((with_reducible refine gate_dst (N := 16) rfl ?_); refine box_event ?hg (N := 16) ?hd (cs := #[.string (⟨#[]⟩ : ByteArray), .int .i64 0, .float .f64 0, .string (⟨#[]⟩ : ByteArray), .int .i64 0, .int .i64 0, .float .f64 0, .string (⟨#[]⟩ : ByteArray)]) (t := 26) ?hr ?_; (case hd => rfl); (case hg => rfl); (case hr => first | (go_simp; done) | (go_simp; rfl)); intro gb502 hg w126 hbox hb; have BK502 := Aside0.mk (hbox); have GW502 := bZ HB hg; have GE502 := bZ HB hg; have NB369_502 := bL BK369 hg; have NB502_369 := bG BK369 hg; have NB370_502 := bL BK370 hg; have NB502_370 := bG BK370 hg; have NB371_502 := bL BK371 hg; have NB502_371 := bG BK371 hg; have NB464_502 := bL BK464 hg; have NB502_464 := bG BK464 hg; have NB474_502 := bL BK474 hg; have NB502_474 := bG BK474 hg; have NB492_502 := bL BK492 hg; have NB502_492 := bG BK492 hg; replace BK369 := bB BK369 hb; replace BK370 := bB BK370 hb; replace BK371 := bB BK371 hb; replace BK464 := bB BK464 hb; replace BK474 := bB BK474 hb; replace BK492 := bB BK492 hb; replace HB := bW HB hb; clear hb hbox hg; have hnb127 := NB502_369.out; have hnc127 := NB369_502.out; have hnb128 := NB502_370.out; have hnc128 := NB370_502.out; have hnb129 := NB502_371.out; have hnc129 := NB371_502.out; have hnb130 := NB502_464.out; have hnc130 := NB464_502.out; have hnb131 := NB502_474.out; have hnc131 := NB474_502.out; have hnb132 := NB502_492.out; have hnc132 := NB492_502.out; obtain ⟨hcz133_0, hcz133_1, hcz133_2, hcz133_3, hcz133_4, hcz133_5, hcz133_6, hcz133_7, hfz133_0, hfz133_1, hfz133_2, hfz133_3, hfz133_4, hfz133_5, hfz133_6, hfz133_7⟩ := bf8 (w := w126) BK502))
         (try simp only [Act.put, List.setIfInBounds_toArray, List.set_cons_zero, List.set_cons_succ])
         go_cut [112] (fun v112 wc => ∃ (kq : Nat) (x112_94 : Bool), v112 = .bool x112_94 ∧ Aside0 (engrosslaw10_CellAll.j2 kq a2 x112_94 t373 t374 t375 t376 t377 t378 t379 t380 t389 t390 t391 = some r) ∧ Aside0 (kq ≤ kj55) ∧ Aside0 (wc.heap[gb369]? = some (.cells #[.string t373, .int .i64 t374, .float .f64 t375, .string t376, .int .i64 t377, .int .i64 t378, .float .f64 t379, .string t380] 26 (0, 0))) ∧ Aside0 (wc.heap[gb370]? = some (.cells #[.string t381, .int .i64 t382, .float .f64 t383, .string t384, .int .i64 t385, .int .i64 t386, .float .f64 t387, .string t388] 26 (0, 0))) ∧ Aside0 (wc.heap[gb371]? = some (.cells #[.int .i64 t389, .float .f64 t390, .string t391] 24 (0, 0))) ∧ Aside0 (wc.heap[gb464]? = some (.cells #[.string t455, .int .i64 t456, .float .f64 t457, .string t458, .int .i64 t459, .int .i64 t460, .float .f64 t461, .string t462] 31 (0, 0))) ∧ Aside0 (wc.heap[gb474]? = some (.cells #[.string t465, .int .i64 t466, .float .f64 t467, .string t468, .int .i64 t469, .int .i64 t470, .float .f64 t471, .string t472] 26 (0, 0))) ∧ Aside0 (wc.heap[gb492]? = some (.cells #[.string t483, .int .i64 t484, .float .f64 t485, .string t486, .int .i64 t487, .int .i64 t488, .float .f64 t489, .string t490] 31 (0, 0))) ∧ Aside0 (wc.heap[gb502]? = some (.cells #[.string t493, .int .i64 t494, .float .f64 t495, .string t496, .int .i64 t497, .int .i64 t498, .float .f64 t499, .string t500] 26 (0, 0))) ∧ Aside0 (Below w.heap.size w wc))
         case first =>
          have H := HC95.out
          clear HC95
          by_cases c134 : (t463 != t473) = true
          ·rw [if_pos c134] at H
           have c134b0 : (t463 != t473) = true := c134
           (try (have c134b1 : decide (t463 = t473) = false := by simpa using c134))
           (try (have c134b2 : (t463 == t473) = false := by simpa using c134))
           (try (have c134b3 : ¬ (t463 = t473) := by simpa using c134))
           clear c134
           (first | rw [c134b0] | (simp only [i64_w, i32_w]; rw [c134b0]) | skip)
           exact absurd H (by simp)
          ·rw [if_neg c134] at H
           have c134b0 : (t463 != t473) = false := by simpa using c134
           (try (have c134b1 : decide (t463 = t473) = true := by simpa using c134))
           (try (have c134b2 : (t463 == t473) = true := by simpa using c134))
           clear c134
           (first | rw [c134b0] | (simp only [i64_w, i32_w]; rw [c134b0]) | skip)
           by_cases c135 : (t491 != t501) = true
           ·rw [if_pos c135] at H
            have c135b0 : (t491 != t501) = true := c135
            (try (have c135b1 : decide (t491 = t501) = false := by simpa using c135))
            (try (have c135b2 : (t491 == t501) = false := by simpa using c135))
            (try (have c135b3 : ¬ (t491 = t501) := by simpa using c135))
            clear c135
            exact absurd H (by simp)
           ·rw [if_neg c135] at H
            have c135b0 : (t491 != t501) = false := by simpa using c135
            (try (have c135b1 : decide (t491 = t501) = true := by simpa using c135))
            (try (have c135b2 : (t491 == t501) = true := by simpa using c135))
            clear c135
            replace H := Option.bind_eq_some_iff.mp H
            obtain ⟨⟨t503, t504, t505, t506, t507, t508, t509, t510⟩, A1360, H⟩ := H
            replace H : ((engrossref10_Eq.f t503 t504 t505 t506 t507 t508 t509 t510 t465 t466 t467 t468 t469 t470 t471 t472).bind fun t511 => (if t511 = true then ((engrosslaw10_Back.f t483 t484 t485 t486 t487 t488 t489 t490).bind fun bt512 => ((engrossref10_Eq.f bt512.1 bt512.2.1 bt512.2.2.1 bt512.2.2.2.1 bt512.2.2.2.2.1 bt512.2.2.2.2.2.1 bt512.2.2.2.2.2.2.1 bt512.2.2.2.2.2.2.2 t493 t494 t495 t496 t497 t498 t499 t500).bind fun t520 => (engrosslaw10_CellAll.j2 kj55 a2 (!t520) t373 t374 t375 t376 t377 t378 t379 t380 t389 t390 t391))) else (none))) = some r := H
            have A136 := Aside0.mk A1360
            clear A1360
            replace H := Option.bind_eq_some_iff.mp H
            obtain ⟨t511, A1370, H⟩ := H
            replace H : (if t511 = true then ((engrosslaw10_Back.f t483 t484 t485 t486 t487 t488 t489 t490).bind fun bt512 => ((engrossref10_Eq.f bt512.1 bt512.2.1 bt512.2.2.1 bt512.2.2.2.1 bt512.2.2.2.2.1 bt512.2.2.2.2.2.1 bt512.2.2.2.2.2.2.1 bt512.2.2.2.2.2.2.2 t493 t494 t495 t496 t497 t498 t499 t500).bind fun t520 => (engrosslaw10_CellAll.j2 kj55 a2 (!t520) t373 t374 t375 t376 t377 t378 t379 t380 t389 t390 t391))) else (none)) = some r := H
            have A137 := Aside0.mk A1370
            clear A1370
            by_cases c138 : t511 = true
            ·subst c138
             have H1 : ((engrosslaw10_Back.f t483 t484 t485 t486 t487 t488 t489 t490).bind fun bt512 => ((engrossref10_Eq.f bt512.1 bt512.2.1 bt512.2.2.1 bt512.2.2.2.1 bt512.2.2.2.2.1 bt512.2.2.2.2.2.1 bt512.2.2.2.2.2.2.1 bt512.2.2.2.2.2.2.2 t493 t494 t495 t496 t497 t498 t499 t500).bind fun t520 => (engrosslaw10_CellAll.j2 kj55 a2 (!t520) t373 t374 t375 t376 t377 t378 t379 t380 t389 t390 t391))) = some r := by rw [if_pos rfl] at H; exact H
             clear H
             have H := H1
             clear H1
             replace H := Option.bind_eq_some_iff.mp H
             obtain ⟨⟨t512, t513, t514, t515, t516, t517, t518, t519⟩, A1390, H⟩ := H
             replace H : ((engrossref10_Eq.f t512 t513 t514 t515 t516 t517 t518 t519 t493 t494 t495 t496 t497 t498 t499 t500).bind fun t520 => (engrosslaw10_CellAll.j2 kj55 a2 (!t520) t373 t374 t375 t376 t377 t378 t379 t380 t389 t390 t391)) = some r := H
             have A139 := Aside0.mk A1390
             clear A1390
             replace H := Option.bind_eq_some_iff.mp H
             obtain ⟨t520, A1400, H⟩ := H
             replace H : (engrosslaw10_CellAll.j2 kj55 a2 (!t520) t373 t374 t375 t376 t377 t378 t379 t380 t389 t390 t391) = some r := H
             have A140 := Aside0.mk A1400
             clear A1400
             have H' := Aside0.mk H
             clear H
             try go_wp2
             have n0_ : Aside0 (((((((((w126.setCell ⟨gb502, 0, none⟩ (.string t493)).setCell ⟨gb502, 1, none⟩ (.int .i64 t494)).setCell ⟨gb502, 2, none⟩ (.float .f64 t495)).setCell ⟨gb502, 3, none⟩ (.string t496)).setCell ⟨gb502, 4, none⟩ (.int .i64 t497)).setCell ⟨gb502, 5, none⟩ (.int .i64 t498)).setCell ⟨gb502, 6, none⟩ (.float .f64 t499)).setCell ⟨gb502, 7, none⟩ (.string t500)).heap[gb369]? = some (.cells #[.string t373, .int .i64 t374, .float .f64 t375, .string t376, .int .i64 t377, .int .i64 t378, .float .f64 t379, .string t380] 26 (0, 0))) := bS BK369
             have n1_ : Aside0 (((((((((w126.setCell ⟨gb502, 0, none⟩ (.string t493)).setCell ⟨gb502, 1, none⟩ (.int .i64 t494)).setCell ⟨gb502, 2, none⟩ (.float .f64 t495)).setCell ⟨gb502, 3, none⟩ (.string t496)).setCell ⟨gb502, 4, none⟩ (.int .i64 t497)).setCell ⟨gb502, 5, none⟩ (.int .i64 t498)).setCell ⟨gb502, 6, none⟩ (.float .f64 t499)).setCell ⟨gb502, 7, none⟩ (.string t500)).heap[gb370]? = some (.cells #[.string t381, .int .i64 t382, .float .f64 t383, .string t384, .int .i64 t385, .int .i64 t386, .float .f64 t387, .string t388] 26 (0, 0))) := bS BK370
             have n2_ : Aside0 (((((((((w126.setCell ⟨gb502, 0, none⟩ (.string t493)).setCell ⟨gb502, 1, none⟩ (.int .i64 t494)).setCell ⟨gb502, 2, none⟩ (.float .f64 t495)).setCell ⟨gb502, 3, none⟩ (.string t496)).setCell ⟨gb502, 4, none⟩ (.int .i64 t497)).setCell ⟨gb502, 5, none⟩ (.int .i64 t498)).setCell ⟨gb502, 6, none⟩ (.float .f64 t499)).setCell ⟨gb502, 7, none⟩ (.string t500)).heap[gb371]? = some (.cells #[.int .i64 t389, .float .f64 t390, .string t391] 24 (0, 0))) := bS BK371
             have n3_ : Aside0 (((((((((w126.setCell ⟨gb502, 0, none⟩ (.string t493)).setCell ⟨gb502, 1, none⟩ (.int .i64 t494)).setCell ⟨gb502, 2, none⟩ (.float .f64 t495)).setCell ⟨gb502, 3, none⟩ (.string t496)).setCell ⟨gb502, 4, none⟩ (.int .i64 t497)).setCell ⟨gb502, 5, none⟩ (.int .i64 t498)).setCell ⟨gb502, 6, none⟩ (.float .f64 t499)).setCell ⟨gb502, 7, none⟩ (.string t500)).heap[gb464]? = some (.cells #[.string t455, .int .i64 t456, .float .f64 t457, .string t458, .int .i64 t459, .int .i64 t460, .float .f64 t461, .string t462] 31 (0, 0))) := bS BK464
             have n4_ : Aside0 (((((((((w126.setCell ⟨gb502, 0, none⟩ (.string t493)).setCell ⟨gb502, 1, none⟩ (.int .i64 t494)).setCell ⟨gb502, 2, none⟩ (.float .f64 t495)).setCell ⟨gb502, 3, none⟩ (.string t496)).setCell ⟨gb502, 4, none⟩ (.int .i64 t497)).setCell ⟨gb502, 5, none⟩ (.int .i64 t498)).setCell ⟨gb502, 6, none⟩ (.float .f64 t499)).setCell ⟨gb502, 7, none⟩ (.string t500)).heap[gb474]? = some (.cells #[.string t465, .int .i64 t466, .float .f64 t467, .string t468, .int .i64 t469, .int .i64 t470, .float .f64 t471, .string t472] 26 (0, 0))) := bS BK474
             have n5_ : Aside0 (((((((((w126.setCell ⟨gb502, 0, none⟩ (.string t493)).setCell ⟨gb502, 1, none⟩ (.int .i64 t494)).setCell ⟨gb502, 2, none⟩ (.float .f64 t495)).setCell ⟨gb502, 3, none⟩ (.string t496)).setCell ⟨gb502, 4, none⟩ (.int .i64 t497)).setCell ⟨gb502, 5, none⟩ (.int .i64 t498)).setCell ⟨gb502, 6, none⟩ (.float .f64 t499)).setCell ⟨gb502, 7, none⟩ (.string t500)).heap[gb492]? = some (.cells #[.string t483, .int .i64 t484, .float .f64 t485, .string t486, .int .i64 t487, .int .i64 t488, .float .f64 t489, .string t490] 31 (0, 0))) := bS BK492
             have n6_ : Aside0 (((((((((w126.setCell ⟨gb502, 0, none⟩ (.string t493)).setCell ⟨gb502, 1, none⟩ (.int .i64 t494)).setCell ⟨gb502, 2, none⟩ (.float .f64 t495)).setCell ⟨gb502, 3, none⟩ (.string t496)).setCell ⟨gb502, 4, none⟩ (.int .i64 t497)).setCell ⟨gb502, 5, none⟩ (.int .i64 t498)).setCell ⟨gb502, 6, none⟩ (.float .f64 t499)).setCell ⟨gb502, 7, none⟩ (.string t500)).heap[gb502]? = some (.cells #[.string t493, .int .i64 t494, .float .f64 t495, .string t496, .int .i64 t497, .int .i64 t498, .float .f64 t499, .string t500] 26 (0, 0))) := ⟨by (with_reducible repeat (first | refine blk_drewN ?_ _ | refine blk_drew ?_ | refine blk_alloc ?_ _)); refine blk_put (cs := #[.string t493, .int .i64 t494, .float .f64 t495, .string t496, .int .i64 t497, .int .i64 t498, .float .f64 t499, .string (⟨#[]⟩ : ByteArray)]) ?_ 7 _ rfl; (with_reducible repeat (first | refine blk_drewN ?_ _ | refine blk_drew ?_ | refine blk_alloc ?_ _)); refine blk_put (cs := #[.string t493, .int .i64 t494, .float .f64 t495, .string t496, .int .i64 t497, .int .i64 t498, .float .f64 0, .string (⟨#[]⟩ : ByteArray)]) ?_ 6 _ rfl; (with_reducible repeat (first | refine blk_drewN ?_ _ | refine blk_drew ?_ | refine blk_alloc ?_ _)); refine blk_put (cs := #[.string t493, .int .i64 t494, .float .f64 t495, .string t496, .int .i64 t497, .int .i64 0, .float .f64 0, .string (⟨#[]⟩ : ByteArray)]) ?_ 5 _ rfl; (with_reducible repeat (first | refine blk_drewN ?_ _ | refine blk_drew ?_ | refine blk_alloc ?_ _)); refine blk_put (cs := #[.string t493, .int .i64 t494, .float .f64 t495, .string t496, .int .i64 0, .int .i64 0, .float .f64 0, .string (⟨#[]⟩ : ByteArray)]) ?_ 4 _ rfl; (with_reducible repeat (first | refine blk_drewN ?_ _ | refine blk_drew ?_ | refine blk_alloc ?_ _)); refine blk_put (cs := #[.string t493, .int .i64 t494, .float .f64 t495, .string (⟨#[]⟩ : ByteArray), .int .i64 0, .int .i64 0, .float .f64 0, .string (⟨#[]⟩ : ByteArray)]) ?_ 3 _ rfl; (with_reducible repeat (first | refine blk_drewN ?_ _ | refine blk_drew ?_ | refine blk_alloc ?_ _)); refine blk_put (cs := #[.string t493, .int .i64 t494, .float .f64 0, .string (⟨#[]⟩ : ByteArray), .int .i64 0, .int .i64 0, .float .f64 0, .string (⟨#[]⟩ : ByteArray)]) ?_ 2 _ rfl; (with_reducible repeat (first | refine blk_drewN ?_ _ | refine blk_drew ?_ | refine blk_alloc ?_ _)); refine blk_put (cs := #[.string t493, .int .i64 0, .float .f64 0, .string (⟨#[]⟩ : ByteArray), .int .i64 0, .int .i64 0, .float .f64 0, .string (⟨#[]⟩ : ByteArray)]) ?_ 1 _ rfl; (with_reducible repeat (first | refine blk_drewN ?_ _ | refine blk_drew ?_ | refine blk_alloc ?_ _)); refine blk_put (cs := #[.string (⟨#[]⟩ : ByteArray), .int .i64 0, .float .f64 0, .string (⟨#[]⟩ : ByteArray), .int .i64 0, .int .i64 0, .float .f64 0, .string (⟨#[]⟩ : ByteArray)]) ?_ 0 _ rfl; (with_reducible repeat (first | refine blk_drewN ?_ _ | refine blk_drew ?_ | refine blk_alloc ?_ _)); exact BK502.out⟩
             have n7_ : Aside0 (Below w.heap.size w ((((((((w126.setCell ⟨gb502, 0, none⟩ (.string t493)).setCell ⟨gb502, 1, none⟩ (.int .i64 t494)).setCell ⟨gb502, 2, none⟩ (.float .f64 t495)).setCell ⟨gb502, 3, none⟩ (.string t496)).setCell ⟨gb502, 4, none⟩ (.int .i64 t497)).setCell ⟨gb502, 5, none⟩ (.int .i64 t498)).setCell ⟨gb502, 6, none⟩ (.float .f64 t499)).setCell ⟨gb502, 7, none⟩ (.string t500))) := ⟨by repeat (first | (with_reducible first | exact HB.out | apply below_alloc | apply pw_below_drewN | apply below_drew1 | refine below_set ?_ GE369.out | refine below_set ?_ GE370.out | refine below_set ?_ GE371.out | refine below_set ?_ GE464.out | refine below_set ?_ GE474.out | refine below_set ?_ GE492.out | refine below_set ?_ GE502.out) | exact HB.out)⟩
             (try clear BK369)
             (try clear BK370)
             (try clear BK371)
             (try clear BK464)
             (try clear BK474)
             (try clear BK492)
             (try clear BK502)
             (try clear HB)
             generalize ((((((((w126.setCell ⟨gb502, 0, none⟩ (.string t493)).setCell ⟨gb502, 1, none⟩ (.int .i64 t494)).setCell ⟨gb502, 2, none⟩ (.float .f64 t495)).setCell ⟨gb502, 3, none⟩ (.string t496)).setCell ⟨gb502, 4, none⟩ (.int .i64 t497)).setCell ⟨gb502, 5, none⟩ (.int .i64 t498)).setCell ⟨gb502, 6, none⟩ (.float .f64 t499)).setCell ⟨gb502, 7, none⟩ (.string t500)) = w141 at n0_ n1_ n2_ n3_ n4_ n5_ n6_ n7_ ⊢
             have BK369 := n0_
             have BK370 := n1_
             have BK371 := n2_
             have BK464 := n3_
             have BK474 := n4_
             have BK492 := n5_
             have BK502 := n6_
             have HB := n7_
             clear n0_ n1_ n2_ n3_ n4_ n5_ n6_ n7_
             replace BK369 := Aside0.mk (blk_drew BK369.out)
             replace BK370 := Aside0.mk (blk_drew BK370.out)
             replace BK371 := Aside0.mk (blk_drew BK371.out)
             replace BK464 := Aside0.mk (blk_drew BK464.out)
             replace BK474 := Aside0.mk (blk_drew BK474.out)
             replace BK492 := Aside0.mk (blk_drew BK492.out)
             replace BK502 := Aside0.mk (blk_drew BK502.out)
             replace HB := Aside0.mk (below_drew1 HB.out)
             refine start_ (n := 22) (S := fun w' => w'.cell? ⟨gb464, 0, none⟩ = some (.string t455) ∧ w'.cell? ⟨gb464, 1, none⟩ = some (.int .i64 t456) ∧ w'.cell? ⟨gb464, 2, none⟩ = some (.float .f64 t457) ∧ w'.cell? ⟨gb464, 3, none⟩ = some (.string t458) ∧ w'.cell? ⟨gb464, 4, none⟩ = some (.int .i64 t459) ∧ w'.cell? ⟨gb464, 5, none⟩ = some (.int .i64 t460) ∧ w'.cell? ⟨gb464, 6, none⟩ = some (.float .f64 t461) ∧ w'.cell? ⟨gb464, 7, none⟩ = some (.string t462) ∧ w'.cell? ⟨gb474, 0, none⟩ = some (.string t465) ∧ w'.cell? ⟨gb474, 1, none⟩ = some (.int .i64 t466) ∧ w'.cell? ⟨gb474, 2, none⟩ = some (.float .f64 t467) ∧ w'.cell? ⟨gb474, 3, none⟩ = some (.string t468) ∧ w'.cell? ⟨gb474, 4, none⟩ = some (.int .i64 t469) ∧ w'.cell? ⟨gb474, 5, none⟩ = some (.int .i64 t470) ∧ w'.cell? ⟨gb474, 6, none⟩ = some (.float .f64 t471) ∧ w'.cell? ⟨gb474, 7, none⟩ = some (.string t472) ∧ w'.cell? ⟨gb492, 0, none⟩ = some (.string t483) ∧ w'.cell? ⟨gb492, 1, none⟩ = some (.int .i64 t484) ∧ w'.cell? ⟨gb492, 2, none⟩ = some (.float .f64 t485) ∧ w'.cell? ⟨gb492, 3, none⟩ = some (.string t486) ∧ w'.cell? ⟨gb492, 4, none⟩ = some (.int .i64 t487) ∧ w'.cell? ⟨gb492, 5, none⟩ = some (.int .i64 t488) ∧ w'.cell? ⟨gb492, 6, none⟩ = some (.float .f64 t489) ∧ w'.cell? ⟨gb492, 7, none⟩ = some (.string t490) ∧ w'.cell? ⟨gb502, 0, none⟩ = some (.string t493) ∧ w'.cell? ⟨gb502, 1, none⟩ = some (.int .i64 t494) ∧ w'.cell? ⟨gb502, 2, none⟩ = some (.float .f64 t495) ∧ w'.cell? ⟨gb502, 3, none⟩ = some (.string t496) ∧ w'.cell? ⟨gb502, 4, none⟩ = some (.int .i64 t497) ∧ w'.cell? ⟨gb502, 5, none⟩ = some (.int .i64 t498) ∧ w'.cell? ⟨gb502, 6, none⟩ = some (.float .f64 t499) ∧ w'.cell? ⟨gb502, 7, none⟩ = some (.string t500)) (ds := []) #[false, false, false, false, false, false, false, false, false, false, false, false, false, false, false, false, false, false, false, false, false, false] (by kernel_rfl) rfl rfl (bn8 BK464 (bn8 BK474 (bn8 BK492 (be8 BK502)))) (fun hHeld => ?_); refine with_tabW engrosslaw10_CellAll.tab15 engrosslaw10_CellAll.bits15 (fun HT_ HW_ => ?_)
             generalize w141.drew = w142 at BK369 BK370 BK371 BK464 BK474 BK492 BK502 HB hHeld ⊢
             refine pure_ (i := 0) (N := some 91) (v := ?_) (a' := ?_) #[true, false, false, false, false, false, false, false, false, false, false, false, false, false, false, false, false, false, false, false, false, false] rfl rfl (any_of HT_.out (by kernel_rfl)) (fun _ _ _ h => h) (Or.inl ⟨by rfl, ?_⟩) ?_ ?_
             rotate_left
             ·intro w'
              go_simp
              with_reducible rfl
             rotate_left
             ·simp only [Act.put, List.setIfInBounds_toArray, List.set_cons_zero, List.set_cons_succ, i64_w, i32_w]
              rfl
             refine pure_ (i := 1) (N := some 92) (v := ?_) (a' := ?_) #[true, true, false, false, false, false, false, false, false, false, false, false, false, false, false, false, false, false, false, false, false, false] rfl rfl (any_of HT_.out (by kernel_rfl)) (fun _ _ _ h => h) (Or.inl ⟨by rfl, ?_⟩) ?_ ?_
             rotate_left
             ·intro w'
              go_simp
              with_reducible rfl
             rotate_left
             ·simp only [Act.put, List.setIfInBounds_toArray, List.set_cons_zero, List.set_cons_succ, i64_w, i32_w]
              rfl
             refine pure_ (i := 2) (N := some 93) (v := ?_) (a' := ?_) #[true, true, true, false, false, false, false, false, false, false, false, false, false, false, false, false, false, false, false, false, false, false] rfl rfl (any_of HT_.out (by kernel_rfl)) (fun _ _ _ h => h) (Or.inl ⟨by rfl, ?_⟩) ?_ ?_
             rotate_left
             ·intro w'
              go_simp
              with_reducible rfl
             rotate_left
             ·simp only [Act.put, List.setIfInBounds_toArray, List.set_cons_zero, List.set_cons_succ, i64_w, i32_w]
              rfl
             refine pure_ (i := 3) (N := some 94) (v := ?_) (a' := ?_) #[true, true, true, true, false, false, false, false, false, false, false, false, false, false, false, false, false, false, false, false, false, false] rfl rfl (any_of HT_.out (by kernel_rfl)) (fun _ _ _ h => h) (Or.inl ⟨by rfl, ?_⟩) ?_ ?_
             rotate_left
             ·intro w'
              go_simp
              with_reducible rfl
             rotate_left
             ·simp only [Act.put, List.setIfInBounds_toArray, List.set_cons_zero, List.set_cons_succ, i64_w, i32_w]
              rfl
             refine pure_ (i := 4) (N := some 95) (v := ?_) (a' := ?_) #[true, true, true, true, true, false, false, false, false, false, false, false, false, false, false, false, false, false, false, false, false, false] rfl rfl (any_of HT_.out (by kernel_rfl)) (fun _ _ _ h => h) (Or.inl ⟨by rfl, ?_⟩) ?_ ?_
             rotate_left
             ·intro w'
              go_simp
              with_reducible rfl
             rotate_left
             ·simp only [Act.put, List.setIfInBounds_toArray, List.set_cons_zero, List.set_cons_succ, i64_w, i32_w]
              rfl
             refine pure_ (i := 5) (N := some 96) (v := ?_) (a' := ?_) #[true, true, true, true, true, true, false, false, false, false, false, false, false, false, false, false, false, false, false, false, false, false] rfl rfl (any_of HT_.out (by kernel_rfl)) (fun _ _ _ h => h) (Or.inl ⟨by rfl, ?_⟩) ?_ ?_
             rotate_left
             ·intro w'
              go_simp
              with_reducible rfl
             rotate_left
             ·simp only [Act.put, List.setIfInBounds_toArray, List.set_cons_zero, List.set_cons_succ, i64_w, i32_w]
              rfl
             refine pure_ (i := 6) (N := some 97) (v := ?_) (a' := ?_) #[true, true, true, true, true, true, true, false, false, false, false, false, false, false, false, false, false, false, false, false, false, false] rfl rfl (any_of HT_.out (by kernel_rfl)) (fun _ _ _ h => h) (Or.inl ⟨by rfl, ?_⟩) ?_ ?_
             rotate_left
             ·intro w'
              go_simp
              with_reducible rfl
             rotate_left
             ·simp only [Act.put, List.setIfInBounds_toArray, List.set_cons_zero, List.set_cons_succ, i64_w, i32_w]
              rfl
             refine pure_ (i := 7) (N := some 98) (v := ?_) (a' := ?_) #[true, true, true, true, true, true, true, true, false, false, false, false, false, false, false, false, false, false, false, false, false, false] rfl rfl (any_of HT_.out (by kernel_rfl)) (fun _ _ _ h => h) (Or.inl ⟨by rfl, ?_⟩) ?_ ?_
             rotate_left
             ·intro w'
              go_simp
              with_reducible rfl
             rotate_left
             ·simp only [Act.put, List.setIfInBounds_toArray, List.set_cons_zero, List.set_cons_succ, i64_w, i32_w]
              rfl
             refine pure_ (i := 8) (N := some 99) (v := ?_) (a' := ?_) #[true, true, true, true, true, true, true, true, true, false, false, false, false, false, false, false, false, false, false, false, false, false] rfl rfl (any_of HT_.out (by kernel_rfl)) (fun _ _ _ h => h) (Or.inl ⟨by rfl, ?_⟩) ?_ ?_
             rotate_left
             ·intro w'
              go_simp
              with_reducible rfl
             rotate_left
             ·simp only [Act.put, List.setIfInBounds_toArray, List.set_cons_zero, List.set_cons_succ, i64_w, i32_w]
              rfl
             refine take_ (i := 9) (N := some 100) (v := ?_) (a' := ?_) #[true, true, true, true, true, true, true, true, true, true, false, false, false, false, false, false, false, false, false, false, false, false] rfl rfl (take_ofW HT_.out HW_.out (by kernel_rfl)) (fun _ _ _ h => h) (Or.inl ⟨by rfl, ?_⟩) hHeld ?_ ?_
             rotate_left
             ·rintro w' ⟨s0, s1, s2, s3, s4, s5, s6, s7, s8, s9, s10, s11, s12, s13, s14, s15, s16, s17, s18, s19, s20, s21, s22, s23, s24, s25, s26, s27, s28, s29, s30, s31⟩
              go_simp
              with_reducible rfl
             rotate_left
             ·simp only [Act.put, List.setIfInBounds_toArray, List.set_cons_zero, List.set_cons_succ, i64_w, i32_w]
              rfl
             refine take_ (i := 11) (N := some 102) (v := ?_) (a' := ?_) #[true, true, true, true, true, true, true, true, true, true, false, true, false, false, false, false, false, false, false, false, false, false] rfl rfl (take_ofW HT_.out HW_.out (by kernel_rfl)) (fun _ _ _ h => h) (Or.inl ⟨by rfl, ?_⟩) hHeld ?_ ?_
             rotate_left
             ·rintro w' ⟨s0, s1, s2, s3, s4, s5, s6, s7, s8, s9, s10, s11, s12, s13, s14, s15, s16, s17, s18, s19, s20, s21, s22, s23, s24, s25, s26, s27, s28, s29, s30, s31⟩
              go_simp
              with_reducible rfl
             rotate_left
             ·simp only [Act.put, List.setIfInBounds_toArray, List.set_cons_zero, List.set_cons_succ, i64_w, i32_w]
              rfl
             refine one_ (i := 10) (N := some 101) #[true, true, true, true, true, true, true, true, true, true, true, true, false, false, false, false, false, false, false, false, false, false] rfl rfl (one_of HT_.out (by kernel_rfl)) (by decide) (fun K hK => ?_)
             refine goes_ Try.func25 (by kernel_rfl) rfl #[.agg #[.string t455, .int .i64 t456, .float .f64 t457, .string t458, .int .i64 t459, .int .i64 t460, .float .f64 t461, .string t462]] (by rfl) rfl rfl (by (try simp only [List.map_toArray, List.map_cons, List.map_nil]); first | done | rfl | (simp only [List.length_drop, List.length_take]; rfl)) ?_
             with_reducible refine (engrosslaw10_Back.calls t455 t456 t457 t458 t459 t460 t461 t462 t503 t504 t505 t506 t507 t508 t509 t510 _ A136.out).mono ?_
             rintro e w143 ⟨rfl, hb⟩
             refine ⟨_, rfl, ?_⟩
             replace BK369 := bB BK369 hb
             replace BK370 := bB BK370 hb
             replace BK371 := bB BK371 hb
             replace BK464 := bB BK464 hb
             replace BK474 := bB BK474 hb
             replace BK492 := bB BK492 hb
             replace BK502 := bB BK502 hb
             replace HB := bW HB hb
             (try clear hb)
             (try clear hb2)
             (try clear hk)
             (try clear hi)
             refine hK.out _ _ (bn8 BK464 (bn8 BK474 (bn8 BK492 (be8 BK502)))) (fun hHeld => ?_)
             clear hK K
             refine norm_ (a' := ?_) ?_ ?_
             rotate_left
             ·show Act.put _ (some 101) _ = _
              simp only [Act.put, List.setIfInBounds_toArray, List.set_cons_zero, List.set_cons_succ, i64_w, i32_w]
              rfl
             refine one_ (i := 12) (N := some 103) #[true, true, true, true, true, true, true, true, true, true, true, true, true, false, false, false, false, false, false, false, false, false] rfl rfl (one_of HT_.out (by kernel_rfl)) (by decide) (fun K hK => ?_)
             refine goes_ Try.func20 (by kernel_rfl) rfl #[.agg #[.string t503, .int .i64 t504, .float .f64 t505, .string t506, .int .i64 t507, .int .i64 t508, .float .f64 t509, .string t510], .agg #[.string t465, .int .i64 t466, .float .f64 t467, .string t468, .int .i64 t469, .int .i64 t470, .float .f64 t471, .string t472]] (by rfl) rfl rfl (by (try simp only [List.map_toArray, List.map_cons, List.map_nil]); first | done | rfl | (simp only [List.length_drop, List.length_take]; rfl)) ?_
             with_reducible refine (engrossref10_Eq.calls t503 t504 t505 t506 t507 t508 t509 t510 t465 t466 t467 t468 t469 t470 t471 t472 true _ A137.out).mono ?_
             rintro e w144 ⟨rfl, hb⟩
             refine ⟨_, rfl, ?_⟩
             replace BK369 := bB BK369 hb
             replace BK370 := bB BK370 hb
             replace BK371 := bB BK371 hb
             replace BK464 := bB BK464 hb
             replace BK474 := bB BK474 hb
             replace BK492 := bB BK492 hb
             replace BK502 := bB BK502 hb
             replace HB := bW HB hb
             (try clear hb)
             (try clear hb2)
             (try clear hk)
             (try clear hi)
             refine hK.out _ _ (bn8 BK464 (bn8 BK474 (bn8 BK492 (be8 BK502)))) (fun hHeld => ?_)
             clear hK K
             refine norm_ (a' := ?_) ?_ ?_
             rotate_left
             ·show Act.put _ (some 103) _ = _
              simp only [Act.put, List.setIfInBounds_toArray, List.set_cons_zero, List.set_cons_succ, i64_w, i32_w]
              rfl
             refine pure_ (i := 13) (N := some 104) (v := ?_) (a' := ?_) #[true, true, true, true, true, true, true, true, true, true, true, true, true, true, false, false, false, false, false, false, false, false] rfl rfl (any_of HT_.out (by kernel_rfl)) (fun _ _ _ h => h) (Or.inl ⟨by rfl, ?_⟩) ?_ ?_
             rotate_left
             ·intro w'
              go_simp
              with_reducible rfl
             rotate_left
             ·simp only [Act.put, List.setIfInBounds_toArray, List.set_cons_zero, List.set_cons_succ, i64_w, i32_w]
              rfl
             refine pure_ (i := 14) (N := some 105) (v := ?_) (a' := ?_) #[true, true, true, true, true, true, true, true, true, true, true, true, true, true, true, false, false, false, false, false, false, false] rfl rfl (any_of HT_.out (by kernel_rfl)) (fun _ _ _ h => h) (Or.inl ⟨by rfl, ?_⟩) ?_ ?_
             rotate_left
             ·intro w'
              go_simp
              with_reducible rfl
             rotate_left
             ·simp only [Act.put, List.setIfInBounds_toArray, List.set_cons_zero, List.set_cons_succ, i64_w, i32_w]
              rfl
             refine pure_ (i := 15) (N := some 106) (v := ?_) (a' := ?_) #[true, true, true, true, true, true, true, true, true, true, true, true, true, true, true, true, false, false, false, false, false, false] rfl rfl (any_of HT_.out (by kernel_rfl)) (fun _ _ _ h => h) (Or.inl ⟨by rfl, ?_⟩) ?_ ?_
             rotate_left
             ·intro w'
              go_simp
              with_reducible rfl
             rotate_left
             ·simp only [Act.put, List.setIfInBounds_toArray, List.set_cons_zero, List.set_cons_succ, i64_w, i32_w]
              rfl
             refine take_ (i := 16) (N := some 107) (v := ?_) (a' := ?_) #[true, true, true, true, true, true, true, true, true, true, true, true, true, true, true, true, true, false, false, false, false, false] rfl rfl (take_ofW HT_.out HW_.out (by kernel_rfl)) (fun _ _ _ h => h) (Or.inl ⟨by rfl, ?_⟩) hHeld ?_ ?_
             rotate_left
             ·rintro w' ⟨s0, s1, s2, s3, s4, s5, s6, s7, s8, s9, s10, s11, s12, s13, s14, s15, s16, s17, s18, s19, s20, s21, s22, s23, s24, s25, s26, s27, s28, s29, s30, s31⟩
              go_simp
              with_reducible rfl
             rotate_left
             ·simp only [Act.put, List.setIfInBounds_toArray, List.set_cons_zero, List.set_cons_succ, i64_w, i32_w]
              rfl
             refine take_ (i := 18) (N := some 109) (v := ?_) (a' := ?_) #[true, true, true, true, true, true, true, true, true, true, true, true, true, true, true, true, true, false, true, false, false, false] rfl rfl (take_ofW HT_.out HW_.out (by kernel_rfl)) (fun _ _ _ h => h) (Or.inl ⟨by rfl, ?_⟩) hHeld ?_ ?_
             rotate_left
             ·rintro w' ⟨s0, s1, s2, s3, s4, s5, s6, s7, s8, s9, s10, s11, s12, s13, s14, s15, s16, s17, s18, s19, s20, s21, s22, s23, s24, s25, s26, s27, s28, s29, s30, s31⟩
              go_simp
              with_reducible rfl
             rotate_left
             ·simp only [Act.put, List.setIfInBounds_toArray, List.set_cons_zero, List.set_cons_succ, i64_w, i32_w]
              rfl
             refine one_ (i := 17) (N := some 108) #[true, true, true, true, true, true, true, true, true, true, true, true, true, true, true, true, true, true, true, false, false, false] rfl rfl (one_of HT_.out (by kernel_rfl)) (by decide) (fun K hK => ?_)
             refine goes_ Try.func25 (by kernel_rfl) rfl #[.agg #[.string t483, .int .i64 t484, .float .f64 t485, .string t486, .int .i64 t487, .int .i64 t488, .float .f64 t489, .string t490]] (by rfl) rfl rfl (by (try simp only [List.map_toArray, List.map_cons, List.map_nil]); first | done | rfl | (simp only [List.length_drop, List.length_take]; rfl)) ?_
             with_reducible refine (engrosslaw10_Back.calls t483 t484 t485 t486 t487 t488 t489 t490 t512 t513 t514 t515 t516 t517 t518 t519 _ A139.out).mono ?_
             rintro e w145 ⟨rfl, hb⟩
             refine ⟨_, rfl, ?_⟩
             replace BK369 := bB BK369 hb
             replace BK370 := bB BK370 hb
             replace BK371 := bB BK371 hb
             replace BK464 := bB BK464 hb
             replace BK474 := bB BK474 hb
             replace BK492 := bB BK492 hb
             replace BK502 := bB BK502 hb
             replace HB := bW HB hb
             (try clear hb)
             (try clear hb2)
             (try clear hk)
             (try clear hi)
             refine hK.out _ _ (bn8 BK464 (bn8 BK474 (bn8 BK492 (be8 BK502)))) (fun hHeld => ?_)
             clear hK K
             refine norm_ (a' := ?_) ?_ ?_
             rotate_left
             ·show Act.put _ (some 108) _ = _
              simp only [Act.put, List.setIfInBounds_toArray, List.set_cons_zero, List.set_cons_succ, i64_w, i32_w]
              rfl
             refine one_ (i := 19) (N := some 110) #[true, true, true, true, true, true, true, true, true, true, true, true, true, true, true, true, true, true, true, true, false, false] rfl rfl (one_of HT_.out (by kernel_rfl)) (by decide) (fun K hK => ?_)
             refine goes_ Try.func20 (by kernel_rfl) rfl #[.agg #[.string t512, .int .i64 t513, .float .f64 t514, .string t515, .int .i64 t516, .int .i64 t517, .float .f64 t518, .string t519], .agg #[.string t493, .int .i64 t494, .float .f64 t495, .string t496, .int .i64 t497, .int .i64 t498, .float .f64 t499, .string t500]] (by rfl) rfl rfl (by (try simp only [List.map_toArray, List.map_cons, List.map_nil]); first | done | rfl | (simp only [List.length_drop, List.length_take]; rfl)) ?_
             with_reducible refine (engrossref10_Eq.calls t512 t513 t514 t515 t516 t517 t518 t519 t493 t494 t495 t496 t497 t498 t499 t500 t520 _ A140.out).mono ?_
             rintro e w146 ⟨rfl, hb⟩
             refine ⟨_, rfl, ?_⟩
             replace BK369 := bB BK369 hb
             replace BK370 := bB BK370 hb
             replace BK371 := bB BK371 hb
             replace BK464 := bB BK464 hb
             replace BK474 := bB BK474 hb
             replace BK492 := bB BK492 hb
             replace BK502 := bB BK502 hb
             replace HB := bW HB hb
             (try clear hb)
             (try clear hb2)
             (try clear hk)
             (try clear hi)
             refine hK.out _ _ (bn8 BK464 (bn8 BK474 (bn8 BK492 (be8 BK502)))) (fun hHeld => ?_)
             clear hK K
             refine norm_ (a' := ?_) ?_ ?_
             rotate_left
             ·show Act.put _ (some 110) _ = _
              simp only [Act.put, List.setIfInBounds_toArray, List.set_cons_zero, List.set_cons_succ, i64_w, i32_w]
              rfl
             refine pure_ (i := 20) (N := some 111) (v := ?_) (a' := ?_) #[true, true, true, true, true, true, true, true, true, true, true, true, true, true, true, true, true, true, true, true, true, false] rfl rfl (any_of HT_.out (by kernel_rfl)) (fun _ _ _ h => h) (Or.inl ⟨by rfl, ?_⟩) ?_ ?_
             rotate_left
             ·intro w'
              go_simp
              with_reducible rfl
             rotate_left
             ·simp only [Act.put, List.setIfInBounds_toArray, List.set_cons_zero, List.set_cons_succ, i64_w, i32_w]
              rfl
             refine pure_ (i := 21) (N := some 112) (v := ?_) (a' := ?_) #[true, true, true, true, true, true, true, true, true, true, true, true, true, true, true, true, true, true, true, true, true, true] rfl rfl (any_of HT_.out (by kernel_rfl)) (fun _ _ _ h => h) (Or.inl ⟨by rfl, ?_⟩) ?_ ?_
             rotate_left
             ·intro w'
              go_simp
              with_reducible rfl
             rotate_left
             ·simp only [Act.put, List.setIfInBounds_toArray, List.set_cons_zero, List.set_cons_succ, i64_w, i32_w]
              rfl
             refine done_ (done_of HT_.out (by kernel_rfl)) ?_
             try go_wp2
             go_meet
             case rel => exact ⟨_, (!t520), (by first | rfl | (simp; done) | (simp [*]; done)), H', ⟨by have := HJ9.out; have := HJ55.out; first | omega | exact Nat.le_refl _⟩, ⟨by (with_reducible repeat (first | refine blk_drewN ?_ _ | refine blk_drew ?_ | refine blk_alloc ?_ _)); exact BK369.out⟩, ⟨by (with_reducible repeat (first | refine blk_drewN ?_ _ | refine blk_drew ?_ | refine blk_alloc ?_ _)); exact BK370.out⟩, ⟨by (with_reducible repeat (first | refine blk_drewN ?_ _ | refine blk_drew ?_ | refine blk_alloc ?_ _)); exact BK371.out⟩, ⟨by (with_reducible repeat (first | refine blk_drewN ?_ _ | refine blk_drew ?_ | refine blk_alloc ?_ _)); exact BK464.out⟩, ⟨by (with_reducible repeat (first | refine blk_drewN ?_ _ | refine blk_drew ?_ | refine blk_alloc ?_ _)); exact BK474.out⟩, ⟨by (with_reducible repeat (first | refine blk_drewN ?_ _ | refine blk_drew ?_ | refine blk_alloc ?_ _)); exact BK492.out⟩, ⟨by (with_reducible repeat (first | refine blk_drewN ?_ _ | refine blk_drew ?_ | refine blk_alloc ?_ _)); exact BK502.out⟩, ⟨by repeat (first | (with_reducible first | exact HB.out | apply below_alloc | apply pw_below_drewN | apply below_drew1 | refine below_set ?_ GE369.out | refine below_set ?_ GE370.out | refine below_set ?_ GE371.out | refine below_set ?_ GE464.out | refine below_set ?_ GE474.out | refine below_set ?_ GE492.out | refine below_set ?_ GE502.out) | exact HB.out)⟩⟩
            ·replace c138 := Bool.eq_false_iff.mpr c138
             subst c138
             have H1 : (none) = some r := by rw [if_neg (show ¬ (false = true) by decide)] at H; exact H
             clear H
             have H := H1
             clear H1
             exact absurd H (by simp)
         case rest =>
          clear HC95
          try clear c1
          try clear c2
          try clear p2
          try clear c6
          try clear c8
          try clear c9
          try clear c10
          try clear c11
          try clear c12
          try clear c13
          try clear c14
          try clear c15
          try clear c16
          try clear c17
          try clear c18
          try clear c19
          try clear c20
          try clear c21
          try clear c22
          try clear c23
          try clear c24
          try clear c25
          try clear c65
          try clear c67
          try clear c88
          try clear c96
          try clear c97
          try clear c102
          try clear c103
          try clear c104
          try clear c109
          try clear c110
          try clear c111
          try clear c112
          try clear c118
          try clear c119
          try clear c120
          try clear c121
          try clear c122
          try clear c127
          try clear c128
          try clear c129
          try clear c130
          try clear c131
          try clear c132
          try clear c134
          try clear c134b0
          try clear c134b1
          try clear c134b2
          try clear c135
          try clear c135b0
          try clear c135b1
          try clear c135b2
          try clear c138
          try clear hcz105_0
          try clear hcz105_1
          try clear hcz105_2
          try clear hcz105_3
          try clear hcz105_4
          try clear hcz105_5
          try clear hcz105_6
          try clear hcz105_7
          try clear hcz106_0
          try clear hcz106_1
          try clear hcz106_2
          try clear hcz106_3
          try clear hcz106_4
          try clear hcz106_5
          try clear hcz106_6
          try clear hcz106_7
          try clear hcz113_0
          try clear hcz113_1
          try clear hcz113_2
          try clear hcz113_3
          try clear hcz113_4
          try clear hcz113_5
          try clear hcz113_6
          try clear hcz113_7
          try clear hcz114_0
          try clear hcz114_1
          try clear hcz114_2
          try clear hcz114_3
          try clear hcz114_4
          try clear hcz114_5
          try clear hcz114_6
          try clear hcz114_7
          try clear hcz123_0
          try clear hcz123_1
          try clear hcz123_2
          try clear hcz123_3
          try clear hcz123_4
          try clear hcz123_5
          try clear hcz123_6
          try clear hcz123_7
          try clear hcz124_0
          try clear hcz124_1
          try clear hcz124_2
          try clear hcz124_3
          try clear hcz124_4
          try clear hcz124_5
          try clear hcz124_6
          try clear hcz124_7
          try clear hcz133_0
          try clear hcz133_1
          try clear hcz133_2
          try clear hcz133_3
          try clear hcz133_4
          try clear hcz133_5
          try clear hcz133_6
          try clear hcz133_7
          try clear hcz98_0
          try clear hcz98_1
          try clear hcz98_2
          try clear hcz98_3
          try clear hcz98_4
          try clear hcz98_5
          try clear hcz98_6
          try clear hcz98_7
          try clear hfz105_0
          try clear hfz105_1
          try clear hfz105_2
          try clear hfz105_3
          try clear hfz105_4
          try clear hfz105_5
          try clear hfz105_6
          try clear hfz105_7
          try clear hfz106_0
          try clear hfz106_1
          try clear hfz106_2
          try clear hfz106_3
          try clear hfz106_4
          try clear hfz106_5
          try clear hfz106_6
          try clear hfz106_7
          try clear hfz113_0
          try clear hfz113_1
          try clear hfz113_2
          try clear hfz113_3
          try clear hfz113_4
          try clear hfz113_5
          try clear hfz113_6
          try clear hfz113_7
          try clear hfz114_0
          try clear hfz114_1
          try clear hfz114_2
          try clear hfz114_3
          try clear hfz114_4
          try clear hfz114_5
          try clear hfz114_6
          try clear hfz114_7
          try clear hfz123_0
          try clear hfz123_1
          try clear hfz123_2
          try clear hfz123_3
          try clear hfz123_4
          try clear hfz123_5
          try clear hfz123_6
          try clear hfz123_7
          try clear hfz124_0
          try clear hfz124_1
          try clear hfz124_2
          try clear hfz124_3
          try clear hfz124_4
          try clear hfz124_5
          try clear hfz124_6
          try clear hfz124_7
          try clear hfz133_0
          try clear hfz133_1
          try clear hfz133_2
          try clear hfz133_3
          try clear hfz133_4
          try clear hfz133_5
          try clear hfz133_6
          try clear hfz133_7
          try clear hfz98_0
          try clear hfz98_1
          try clear hfz98_2
          try clear hfz98_3
          try clear hfz98_4
          try clear hfz98_5
          try clear hfz98_6
          try clear hfz98_7
          try clear p2
          obtain ⟨kq, x112_94, rfl, HA, HJ94, BK369, BK370, BK371, BK464, BK474, BK492, BK502, HB⟩ := hcut
          cases kq with
          | zero => exact absurd HA.out (by simp [engrosslaw10_CellAll.j2])
          | succ kj94 =>
           have H := HA.out
           clear HA
           simp only [engrosslaw10_CellAll.j2] at H
           by_cases c147 : x112_94 = true
           ·subst c147
            have H1 : (none) = some r := by rw [if_pos rfl] at H; exact H
            clear H
            have H := H1
            clear H1
            exact absurd H (by simp)
           ·replace c147 := Bool.eq_false_iff.mpr c147
            subst c147
            have H1 : (if a2 < 1 then (engrosslaw10_CellAll.j3 kj94 a2 true t373 t374 t375 t376 t377 t378 t379 t380 t389 t390 t391) else (if a2 > 1099511627776 then (engrosslaw10_CellAll.j3 kj94 a2 true t373 t374 t375 t376 t377 t378 t379 t380 t389 t390 t391) else ((engrossref1_MayVal.f t389 t390 t391).bind fun t521 => (engrosslaw10_CellAll.j3 kj94 a2 (!t521) t373 t374 t375 t376 t377 t378 t379 t380 t389 t390 t391)))) = some r := by rw [if_neg (show ¬ (false = true) by decide)] at H; exact H
            clear H
            have H := H1
            clear H1
            have HC148 := Aside0.mk H
            clear H
            go_upto_region 17 with (fail)
            go_cut [123] (fun v123 wc => ∃ (kq : Nat) (x123_147 : Bool), v123 = .bool x123_147 ∧ Aside0 (engrosslaw10_CellAll.j3 kq a2 x123_147 t373 t374 t375 t376 t377 t378 t379 t380 t389 t390 t391 = some r) ∧ Aside0 (kq ≤ kj94) ∧ Aside0 (wc.heap[gb369]? = some (.cells #[.string t373, .int .i64 t374, .float .f64 t375, .string t376, .int .i64 t377, .int .i64 t378, .float .f64 t379, .string t380] 26 (0, 0))) ∧ Aside0 (wc.heap[gb370]? = some (.cells #[.string t381, .int .i64 t382, .float .f64 t383, .string t384, .int .i64 t385, .int .i64 t386, .float .f64 t387, .string t388] 26 (0, 0))) ∧ Aside0 (wc.heap[gb371]? = some (.cells #[.int .i64 t389, .float .f64 t390, .string t391] 24 (0, 0))) ∧ Aside0 (wc.heap[gb464]? = some (.cells #[.string t455, .int .i64 t456, .float .f64 t457, .string t458, .int .i64 t459, .int .i64 t460, .float .f64 t461, .string t462] 31 (0, 0))) ∧ Aside0 (wc.heap[gb474]? = some (.cells #[.string t465, .int .i64 t466, .float .f64 t467, .string t468, .int .i64 t469, .int .i64 t470, .float .f64 t471, .string t472] 26 (0, 0))) ∧ Aside0 (wc.heap[gb492]? = some (.cells #[.string t483, .int .i64 t484, .float .f64 t485, .string t486, .int .i64 t487, .int .i64 t488, .float .f64 t489, .string t490] 31 (0, 0))) ∧ Aside0 (wc.heap[gb502]? = some (.cells #[.string t493, .int .i64 t494, .float .f64 t495, .string t496, .int .i64 t497, .int .i64 t498, .float .f64 t499, .string t500] 26 (0, 0))) ∧ Aside0 (Below w.heap.size w wc))
            case first =>
             have H := HC148.out
             clear HC148
             by_cases c149 : a2 < 1
             ·rw [if_pos c149] at H
              have c149b0 : decide (a2 < 1) = true := decide_eq_true c149
              clear c149
              (first | rw [c149b0] | (simp only [i64_w, i32_w]; rw [c149b0]) | skip)
              have H' := Aside0.mk H
              clear H
              go_wp2
              go_meet
              case rel => exact ⟨_, (true), (by first | rfl | (simp; done) | (simp [*]; done)), H', ⟨by have := HJ9.out; have := HJ55.out; have := HJ94.out; first | omega | exact Nat.le_refl _⟩, ⟨by (with_reducible repeat (first | refine blk_drewN ?_ _ | refine blk_drew ?_ | refine blk_alloc ?_ _)); exact BK369.out⟩, ⟨by (with_reducible repeat (first | refine blk_drewN ?_ _ | refine blk_drew ?_ | refine blk_alloc ?_ _)); exact BK370.out⟩, ⟨by (with_reducible repeat (first | refine blk_drewN ?_ _ | refine blk_drew ?_ | refine blk_alloc ?_ _)); exact BK371.out⟩, ⟨by (with_reducible repeat (first | refine blk_drewN ?_ _ | refine blk_drew ?_ | refine blk_alloc ?_ _)); exact BK464.out⟩, ⟨by (with_reducible repeat (first | refine blk_drewN ?_ _ | refine blk_drew ?_ | refine blk_alloc ?_ _)); exact BK474.out⟩, ⟨by (with_reducible repeat (first | refine blk_drewN ?_ _ | refine blk_drew ?_ | refine blk_alloc ?_ _)); exact BK492.out⟩, ⟨by (with_reducible repeat (first | refine blk_drewN ?_ _ | refine blk_drew ?_ | refine blk_alloc ?_ _)); exact BK502.out⟩, ⟨by repeat (first | (with_reducible first | exact HB.out | apply below_alloc | apply pw_below_drewN | apply below_drew1 | refine below_set ?_ GE369.out | refine below_set ?_ GE370.out | refine below_set ?_ GE371.out | refine below_set ?_ GE464.out | refine below_set ?_ GE474.out | refine below_set ?_ GE492.out | refine below_set ?_ GE502.out) | exact HB.out)⟩⟩
             ·rw [if_neg c149] at H
              have c149b0 : decide (a2 < 1) = false := decide_eq_false c149
              clear c149
              (first | rw [c149b0] | (simp only [i64_w, i32_w]; rw [c149b0]) | skip)
              by_cases c150 : a2 > 1099511627776
              ·rw [if_pos c150] at H
               have c150b0 : decide (1099511627776 < a2) = true := decide_eq_true c150
               clear c150
               have H' := Aside0.mk H
               clear H
               go_wp2
               go_meet
               case rel => exact ⟨_, (true), (by first | rfl | (simp; done) | (simp [*]; done)), H', ⟨by have := HJ9.out; have := HJ55.out; have := HJ94.out; first | omega | exact Nat.le_refl _⟩, ⟨by (with_reducible repeat (first | refine blk_drewN ?_ _ | refine blk_drew ?_ | refine blk_alloc ?_ _)); exact BK369.out⟩, ⟨by (with_reducible repeat (first | refine blk_drewN ?_ _ | refine blk_drew ?_ | refine blk_alloc ?_ _)); exact BK370.out⟩, ⟨by (with_reducible repeat (first | refine blk_drewN ?_ _ | refine blk_drew ?_ | refine blk_alloc ?_ _)); exact BK371.out⟩, ⟨by (with_reducible repeat (first | refine blk_drewN ?_ _ | refine blk_drew ?_ | refine blk_alloc ?_ _)); exact BK464.out⟩, ⟨by (with_reducible repeat (first | refine blk_drewN ?_ _ | refine blk_drew ?_ | refine blk_alloc ?_ _)); exact BK474.out⟩, ⟨by (with_reducible repeat (first | refine blk_drewN ?_ _ | refine blk_drew ?_ | refine blk_alloc ?_ _)); exact BK492.out⟩, ⟨by (with_reducible repeat (first | refine blk_drewN ?_ _ | refine blk_drew ?_ | refine blk_alloc ?_ _)); exact BK502.out⟩, ⟨by repeat (first | (with_reducible first | exact HB.out | apply below_alloc | apply pw_below_drewN | apply below_drew1 | refine below_set ?_ GE369.out | refine below_set ?_ GE370.out | refine below_set ?_ GE371.out | refine below_set ?_ GE464.out | refine below_set ?_ GE474.out | refine below_set ?_ GE492.out | refine below_set ?_ GE502.out) | exact HB.out)⟩⟩
              ·rw [if_neg c150] at H
               have c150b0 : decide (1099511627776 < a2) = false := decide_eq_false c150
               clear c150
               replace H := Option.bind_eq_some_iff.mp H
               obtain ⟨t521, A1510, H⟩ := H
               replace H : (engrosslaw10_CellAll.j3 kj94 a2 (!t521) t373 t374 t375 t376 t377 t378 t379 t380 t389 t390 t391) = some r := H
               have A151 := Aside0.mk A1510
               clear A1510
               have H' := Aside0.mk H
               clear H
               have hnb152 := NB371_369.out
               have hnc152 := NB369_371.out
               have hnb153 := NB371_370.out
               have hnc153 := NB370_371.out
               have hnb154 := NB371_464.out
               have hnc154 := NB464_371.out
               have hnb155 := NB371_474.out
               have hnc155 := NB474_371.out
               have hnb156 := NB371_492.out
               have hnc156 := NB492_371.out
               have hnb157 := NB371_502.out
               have hnc157 := NB502_371.out
               obtain ⟨hcz158_0, hcz158_1, hcz158_2, hfz158_0, hfz158_1, hfz158_2⟩ := bf3 (w := wc) BK371
               go_wp2_with (first | (go_at_call 26; (with_reducible refine (engrossref1_MayVal.calls t389 t390 t391 t521 _ A151.out).mono ?_); rintro e w159 ⟨rfl, hb⟩; replace BK369 := bB BK369 hb; replace BK370 := bB BK370 hb; replace BK371 := bB BK371 hb; replace BK464 := bB BK464 hb; replace BK474 := bB BK474 hb; replace BK492 := bB BK492 hb; replace BK502 := bB BK502 hb; replace HB := bW HB hb; (try clear hb); (try clear hb2); (try clear hk); (try clear hi)))
               go_meet
               case rel => exact ⟨_, (!t521), (by first | rfl | (simp; done) | (simp [*]; done)), H', ⟨by have := HJ9.out; have := HJ55.out; have := HJ94.out; first | omega | exact Nat.le_refl _⟩, ⟨by (with_reducible repeat (first | refine blk_drewN ?_ _ | refine blk_drew ?_ | refine blk_alloc ?_ _)); exact BK369.out⟩, ⟨by (with_reducible repeat (first | refine blk_drewN ?_ _ | refine blk_drew ?_ | refine blk_alloc ?_ _)); exact BK370.out⟩, ⟨by (with_reducible repeat (first | refine blk_drewN ?_ _ | refine blk_drew ?_ | refine blk_alloc ?_ _)); exact BK371.out⟩, ⟨by (with_reducible repeat (first | refine blk_drewN ?_ _ | refine blk_drew ?_ | refine blk_alloc ?_ _)); exact BK464.out⟩, ⟨by (with_reducible repeat (first | refine blk_drewN ?_ _ | refine blk_drew ?_ | refine blk_alloc ?_ _)); exact BK474.out⟩, ⟨by (with_reducible repeat (first | refine blk_drewN ?_ _ | refine blk_drew ?_ | refine blk_alloc ?_ _)); exact BK492.out⟩, ⟨by (with_reducible repeat (first | refine blk_drewN ?_ _ | refine blk_drew ?_ | refine blk_alloc ?_ _)); exact BK502.out⟩, ⟨by repeat (first | (with_reducible first | exact HB.out | apply below_alloc | apply pw_below_drewN | apply below_drew1 | refine below_set ?_ GE369.out | refine below_set ?_ GE370.out | refine below_set ?_ GE371.out | refine below_set ?_ GE464.out | refine below_set ?_ GE474.out | refine below_set ?_ GE492.out | refine below_set ?_ GE502.out) | exact HB.out)⟩⟩
            case rest =>
             clear HC148
             try clear c1
             try clear c2
             try clear p2
             try clear c6
             try clear c8
             try clear c9
             try clear c10
             try clear c11
             try clear c12
             try clear c13
             try clear c14
             try clear c15
             try clear c16
             try clear c17
             try clear c18
             try clear c19
             try clear c20
             try clear c21
             try clear c22
             try clear c23
             try clear c24
             try clear c25
             try clear c65
             try clear c67
             try clear c88
             try clear c96
             try clear c97
             try clear c102
             try clear c103
             try clear c104
             try clear c109
             try clear c110
             try clear c111
             try clear c112
             try clear c118
             try clear c119
             try clear c120
             try clear c121
             try clear c122
             try clear c127
             try clear c128
             try clear c129
             try clear c130
             try clear c131
             try clear c132
             try clear c134
             try clear c134b0
             try clear c134b1
             try clear c134b2
             try clear c135
             try clear c135b0
             try clear c135b1
             try clear c135b2
             try clear c138
             try clear c147
             try clear c149
             try clear c149b0
             try clear c150
             try clear c150b0
             try clear c152
             try clear c153
             try clear c154
             try clear c155
             try clear c156
             try clear c157
             try clear hcz105_0
             try clear hcz105_1
             try clear hcz105_2
             try clear hcz105_3
             try clear hcz105_4
             try clear hcz105_5
             try clear hcz105_6
             try clear hcz105_7
             try clear hcz106_0
             try clear hcz106_1
             try clear hcz106_2
             try clear hcz106_3
             try clear hcz106_4
             try clear hcz106_5
             try clear hcz106_6
             try clear hcz106_7
             try clear hcz113_0
             try clear hcz113_1
             try clear hcz113_2
             try clear hcz113_3
             try clear hcz113_4
             try clear hcz113_5
             try clear hcz113_6
             try clear hcz113_7
             try clear hcz114_0
             try clear hcz114_1
             try clear hcz114_2
             try clear hcz114_3
             try clear hcz114_4
             try clear hcz114_5
             try clear hcz114_6
             try clear hcz114_7
             try clear hcz123_0
             try clear hcz123_1
             try clear hcz123_2
             try clear hcz123_3
             try clear hcz123_4
             try clear hcz123_5
             try clear hcz123_6
             try clear hcz123_7
             try clear hcz124_0
             try clear hcz124_1
             try clear hcz124_2
             try clear hcz124_3
             try clear hcz124_4
             try clear hcz124_5
             try clear hcz124_6
             try clear hcz124_7
             try clear hcz133_0
             try clear hcz133_1
             try clear hcz133_2
             try clear hcz133_3
             try clear hcz133_4
             try clear hcz133_5
             try clear hcz133_6
             try clear hcz133_7
             try clear hcz158_0
             try clear hcz158_1
             try clear hcz158_2
             try clear hcz98_0
             try clear hcz98_1
             try clear hcz98_2
             try clear hcz98_3
             try clear hcz98_4
             try clear hcz98_5
             try clear hcz98_6
             try clear hcz98_7
             try clear hfz105_0
             try clear hfz105_1
             try clear hfz105_2
             try clear hfz105_3
             try clear hfz105_4
             try clear hfz105_5
             try clear hfz105_6
             try clear hfz105_7
             try clear hfz106_0
             try clear hfz106_1
             try clear hfz106_2
             try clear hfz106_3
             try clear hfz106_4
             try clear hfz106_5
             try clear hfz106_6
             try clear hfz106_7
             try clear hfz113_0
             try clear hfz113_1
             try clear hfz113_2
             try clear hfz113_3
             try clear hfz113_4
             try clear hfz113_5
             try clear hfz113_6
             try clear hfz113_7
             try clear hfz114_0
             try clear hfz114_1
             try clear hfz114_2
             try clear hfz114_3
             try clear hfz114_4
             try clear hfz114_5
             try clear hfz114_6
             try clear hfz114_7
             try clear hfz123_0
             try clear hfz123_1
             try clear hfz123_2
             try clear hfz123_3
             try clear hfz123_4
             try clear hfz123_5
             try clear hfz123_6
             try clear hfz123_7
             try clear hfz124_0
             try clear hfz124_1
             try clear hfz124_2
             try clear hfz124_3
             try clear hfz124_4
             try clear hfz124_5
             try clear hfz124_6
             try clear hfz124_7
             try clear hfz133_0
             try clear hfz133_1
             try clear hfz133_2
             try clear hfz133_3
             try clear hfz133_4
             try clear hfz133_5
             try clear hfz133_6
             try clear hfz133_7
             try clear hfz158_0
             try clear hfz158_1
             try clear hfz158_2
             try clear hfz98_0
             try clear hfz98_1
             try clear hfz98_2
             try clear hfz98_3
             try clear hfz98_4
             try clear hfz98_5
             try clear hfz98_6
             try clear hfz98_7
             try clear p2
             obtain ⟨kq, x123_147, rfl, HA, HJ147, BK369, BK370, BK371, BK464, BK474, BK492, BK502, HB⟩ := hcut
             cases kq with
             | zero => exact absurd HA.out (by simp [engrosslaw10_CellAll.j3])
             | succ kj147 =>
              have H := HA.out
              clear HA
              simp only [engrosslaw10_CellAll.j3] at H
              by_cases c160 : x123_147 = true
              ·subst c160
               have H1 : (some true) = some r := by rw [if_pos rfl] at H; exact H
               clear H
               have H := H1
               clear H1
               obtain rfl := Option.some.inj H
               go_wp2
               go_ret
               exact ⟨by first | rfl | (simp [errW_none, errW_some] <;> rfl) | (simp [*, errW_none, errW_some] <;> rfl), by repeat (first | (with_reducible first | exact HB.out | apply below_alloc | apply pw_below_drewN | apply below_drew1 | refine below_set ?_ GE369.out | refine below_set ?_ GE370.out | refine below_set ?_ GE371.out | refine below_set ?_ GE464.out | refine below_set ?_ GE474.out | refine below_set ?_ GE492.out | refine below_set ?_ GE502.out) | exact HB.out)⟩
              ·replace c160 := Bool.eq_false_iff.mpr c160
               subst c160
               have H1 : ((engrosslaw10_Of.f t373 t374 t375 t376 t377 t378 t379 t380).bind fun bt522 => ((cell_Write.f bt522.1 bt522.2.1 bt522.2.2.1 bt522.2.2.2.1 bt522.2.2.2.2.1 bt522.2.2.2.2.2.1 bt522.2.2.2.2.2.2.1 bt522.2.2.2.2.2.2.2 a2 t389 t390 t391).bind fun bt530 => ((engrosslaw10_Back.f bt530.1 bt530.2.1 bt530.2.2.1 bt530.2.2.2.1 bt530.2.2.2.2.1 bt530.2.2.2.2.2.1 bt530.2.2.2.2.2.2.1 bt530.2.2.2.2.2.2.2).bind fun bt538 => (if bt538.1.toList = t373.toList then (if bt538.2.2.2.2.1 = a2 then ((engrossref1_EqVal.f bt538.2.1 bt538.2.2.1 bt538.2.2.2.1 t374 t375 t376).bind fun t547 => (if t547 = true then ((engrossref1_EqVal.f bt538.2.2.2.2.2.1 bt538.2.2.2.2.2.2.1 bt538.2.2.2.2.2.2.2 t389 t390 t391).bind fun t548 => (some t548)) else (none))) else (none)) else (none))))) = some r := by rw [if_neg (show ¬ (false = true) by decide)] at H; exact H
               clear H
               have H := H1
               clear H1
               replace H := Option.bind_eq_some_iff.mp H
               obtain ⟨⟨t522, t523, t524, t525, t526, t527, t528, t529⟩, A1610, H⟩ := H
               replace H : ((cell_Write.f t522 t523 t524 t525 t526 t527 t528 t529 a2 t389 t390 t391).bind fun bt530 => ((engrosslaw10_Back.f bt530.1 bt530.2.1 bt530.2.2.1 bt530.2.2.2.1 bt530.2.2.2.2.1 bt530.2.2.2.2.2.1 bt530.2.2.2.2.2.2.1 bt530.2.2.2.2.2.2.2).bind fun bt538 => (if bt538.1.toList = t373.toList then (if bt538.2.2.2.2.1 = a2 then ((engrossref1_EqVal.f bt538.2.1 bt538.2.2.1 bt538.2.2.2.1 t374 t375 t376).bind fun t547 => (if t547 = true then ((engrossref1_EqVal.f bt538.2.2.2.2.2.1 bt538.2.2.2.2.2.2.1 bt538.2.2.2.2.2.2.2 t389 t390 t391).bind fun t548 => (some t548)) else (none))) else (none)) else (none)))) = some r := H
               have A161 := Aside0.mk A1610
               clear A1610
               replace H := Option.bind_eq_some_iff.mp H
               obtain ⟨⟨t530, t531, t532, t533, t534, t535, t536, t537⟩, A1620, H⟩ := H
               replace H : ((engrosslaw10_Back.f t530 t531 t532 t533 t534 t535 t536 t537).bind fun bt538 => (if bt538.1.toList = t373.toList then (if bt538.2.2.2.2.1 = a2 then ((engrossref1_EqVal.f bt538.2.1 bt538.2.2.1 bt538.2.2.2.1 t374 t375 t376).bind fun t547 => (if t547 = true then ((engrossref1_EqVal.f bt538.2.2.2.2.2.1 bt538.2.2.2.2.2.2.1 bt538.2.2.2.2.2.2.2 t389 t390 t391).bind fun t548 => (some t548)) else (none))) else (none)) else (none))) = some r := H
               have A162 := Aside0.mk A1620
               clear A1620
               replace H := Option.bind_eq_some_iff.mp H
               obtain ⟨⟨t538, t539, t540, t541, t542, t543, t544, t545⟩, A1630, H⟩ := H
               replace H : (if t538.toList = t373.toList then (if t542 = a2 then ((engrossref1_EqVal.f t539 t540 t541 t374 t375 t376).bind fun t547 => (if t547 = true then ((engrossref1_EqVal.f t543 t544 t545 t389 t390 t391).bind fun t548 => (some t548)) else (none))) else (none)) else (none)) = some r := H
               have A163 := Aside0.mk A1630
               clear A1630
               by_cases c164 : t538.toList = t373.toList
               ·rw [if_pos c164] at H
                have c164b0 : (t538.toList == t373.toList) = true := beq_iff_eq.mpr c164
                have c164b1 : (t538.toList != t373.toList) = false := bne_eq_false_iff_eq.mpr c164
                clear c164
                by_cases c165 : t542 = a2
                ·rw [if_pos c165] at H
                 have c165b0 : (t542 == a2) = true := beq_iff_eq.mpr c165
                 have c165b1 : (t542 != a2) = false := bne_eq_false_iff_eq.mpr c165
                 clear c165
                 replace H := Option.bind_eq_some_iff.mp H
                 obtain ⟨t547, A1660, H⟩ := H
                 replace H : (if t547 = true then ((engrossref1_EqVal.f t543 t544 t545 t389 t390 t391).bind fun t548 => (some t548)) else (none)) = some r := H
                 have A166 := Aside0.mk A1660
                 clear A1660
                 by_cases c167 : t547 = true
                 ·subst c167
                  have H1 : ((engrossref1_EqVal.f t543 t544 t545 t389 t390 t391).bind fun t548 => (some t548)) = some r := by rw [if_pos rfl] at H; exact H
                  clear H
                  have H := H1
                  clear H1
                  replace H := Option.bind_eq_some_iff.mp H
                  obtain ⟨t548, A1680, H⟩ := H
                  replace H : (some t548) = some r := H
                  have A168 := Aside0.mk A1680
                  clear A1680
                  obtain rfl := Option.some.inj H
                  try go_wp2
                  replace BK369 := Aside0.mk (blk_drew BK369.out)
                  replace BK370 := Aside0.mk (blk_drew BK370.out)
                  replace BK371 := Aside0.mk (blk_drew BK371.out)
                  replace BK464 := Aside0.mk (blk_drew BK464.out)
                  replace BK474 := Aside0.mk (blk_drew BK474.out)
                  replace BK492 := Aside0.mk (blk_drew BK492.out)
                  replace BK502 := Aside0.mk (blk_drew BK502.out)
                  replace HB := Aside0.mk (below_drew1 HB.out)
                  refine start_ (n := 8) (S := fun w' => w'.cell? ⟨gb369, 0, none⟩ = some (.string t373) ∧ w'.cell? ⟨gb369, 1, none⟩ = some (.int .i64 t374) ∧ w'.cell? ⟨gb369, 2, none⟩ = some (.float .f64 t375) ∧ w'.cell? ⟨gb369, 3, none⟩ = some (.string t376) ∧ w'.cell? ⟨gb369, 4, none⟩ = some (.int .i64 t377) ∧ w'.cell? ⟨gb369, 5, none⟩ = some (.int .i64 t378) ∧ w'.cell? ⟨gb369, 6, none⟩ = some (.float .f64 t379) ∧ w'.cell? ⟨gb369, 7, none⟩ = some (.string t380) ∧ w'.cell? ⟨gb371, 0, none⟩ = some (.int .i64 t389) ∧ w'.cell? ⟨gb371, 1, none⟩ = some (.float .f64 t390) ∧ w'.cell? ⟨gb371, 2, none⟩ = some (.string t391)) (ds := []) #[false, false, false, false, false, false, false, false] (by kernel_rfl) rfl rfl (bn8 BK369 (be3 BK371)) (fun hHeld => ?_); refine with_tabW engrosslaw10_CellAll.tab19 engrosslaw10_CellAll.bits19 (fun HT_ HW_ => ?_)
                  generalize wc.drew = w169 at BK369 BK370 BK371 BK464 BK474 BK492 BK502 HB hHeld ⊢
                  refine pure_ (i := 2) (N := some 126) (v := ?_) (a' := ?_) #[false, false, true, false, false, false, false, false] rfl rfl (any_of HT_.out (by kernel_rfl)) (fun _ _ _ h => h) (Or.inl ⟨by rfl, ?_⟩) ?_ ?_
                  rotate_left
                  ·intro w'
                   go_simp
                   with_reducible rfl
                  rotate_left
                  ·simp only [Act.put, List.setIfInBounds_toArray, List.set_cons_zero, List.set_cons_succ, i64_w, i32_w]
                   rfl
                  refine take_ (i := 0) (N := some 124) (v := ?_) (a' := ?_) #[true, false, true, false, false, false, false, false] rfl rfl (take_ofW HT_.out HW_.out (by kernel_rfl)) (fun _ _ _ h => h) (Or.inl ⟨by rfl, ?_⟩) hHeld ?_ ?_
                  rotate_left
                  ·rintro w' ⟨s0, s1, s2, s3, s4, s5, s6, s7, s8, s9, s10⟩
                   go_simp
                   with_reducible rfl
                  rotate_left
                  ·simp only [Act.put, List.setIfInBounds_toArray, List.set_cons_zero, List.set_cons_succ, i64_w, i32_w]
                   rfl
                  refine take_ (i := 3) (N := some 127) (v := ?_) (a' := ?_) #[true, false, true, true, false, false, false, false] rfl rfl (take_ofW HT_.out HW_.out (by kernel_rfl)) (fun _ _ _ h => h) (Or.inl ⟨by rfl, ?_⟩) hHeld ?_ ?_
                  rotate_left
                  ·rintro w' ⟨s0, s1, s2, s3, s4, s5, s6, s7, s8, s9, s10⟩
                   go_simp
                   with_reducible rfl
                  rotate_left
                  ·simp only [Act.put, List.setIfInBounds_toArray, List.set_cons_zero, List.set_cons_succ, i64_w, i32_w]
                   rfl
                  refine join_ (σ := Nat) 1 #[true, true, true, true, true, true, true, false] (fun s_ => [(125, .agg #[.string t522, .int .i64 t523, .float .f64 t524, .string t525, .int .i64 t526, .int .i64 t527, .float .f64 t528, .string t529]), (128, .agg #[.string t530, .int .i64 t531, .float .f64 t532, .string t533, .int .i64 t534, .int .i64 t535, .float .f64 t536, .string t537]), (129, .agg #[.string t538, .int .i64 t539, .float .f64 t540, .string t541, .int .i64 t542, .int .i64 t543, .float .f64 t544, .string t545]), (18, .pointer (some ⟨s_, 0, none⟩))]) (fun s_ w' => (w'.cell? ⟨gb369, 0, none⟩ = some (.string t373) ∧ w'.cell? ⟨gb369, 1, none⟩ = some (.int .i64 t374) ∧ w'.cell? ⟨gb369, 2, none⟩ = some (.float .f64 t375) ∧ w'.cell? ⟨gb369, 3, none⟩ = some (.string t376) ∧ w'.cell? ⟨gb369, 4, none⟩ = some (.int .i64 t377) ∧ w'.cell? ⟨gb369, 5, none⟩ = some (.int .i64 t378) ∧ w'.cell? ⟨gb369, 6, none⟩ = some (.float .f64 t379) ∧ w'.cell? ⟨gb369, 7, none⟩ = some (.string t380) ∧ w'.cell? ⟨gb371, 0, none⟩ = some (.int .i64 t389) ∧ w'.cell? ⟨gb371, 1, none⟩ = some (.float .f64 t390) ∧ w'.cell? ⟨gb371, 2, none⟩ = some (.string t391)) ∧ (w'.heap[gb369]? = some (.cells #[.string t373, .int .i64 t374, .float .f64 t375, .string t376, .int .i64 t377, .int .i64 t378, .float .f64 t379, .string t380] 26 (0, 0))) ∧ (w'.heap[gb370]? = some (.cells #[.string t381, .int .i64 t382, .float .f64 t383, .string t384, .int .i64 t385, .int .i64 t386, .float .f64 t387, .string t388] 26 (0, 0))) ∧ (w'.heap[gb371]? = some (.cells #[.int .i64 t389, .float .f64 t390, .string t391] 24 (0, 0))) ∧ (w'.heap[gb464]? = some (.cells #[.string t455, .int .i64 t456, .float .f64 t457, .string t458, .int .i64 t459, .int .i64 t460, .float .f64 t461, .string t462] 31 (0, 0))) ∧ (w'.heap[gb474]? = some (.cells #[.string t465, .int .i64 t466, .float .f64 t467, .string t468, .int .i64 t469, .int .i64 t470, .float .f64 t471, .string t472] 26 (0, 0))) ∧ (w'.heap[gb492]? = some (.cells #[.string t483, .int .i64 t484, .float .f64 t485, .string t486, .int .i64 t487, .int .i64 t488, .float .f64 t489, .string t490] 31 (0, 0))) ∧ (w'.heap[gb502]? = some (.cells #[.string t493, .int .i64 t494, .float .f64 t495, .string t496, .int .i64 t497, .int .i64 t498, .float .f64 t499, .string t500] 26 (0, 0))) ∧ (w'.heap[s_]? = some (.cells #[.string (⟨#[]⟩ : ByteArray), .int .i64 0, .float .f64 0, .string (⟨#[]⟩ : ByteArray), .int .i64 0, .int .i64 0, .float .f64 0, .string (⟨#[]⟩ : ByteArray)] 26 (0, 0))) ∧ (w.heap.size ≤ s_) ∧ (w.heap.size ≤ s_) ∧ (gb369 ≠ s_) ∧ (s_ ≠ gb369) ∧ (gb370 ≠ s_) ∧ (s_ ≠ gb370) ∧ (gb371 ≠ s_) ∧ (s_ ≠ gb371) ∧ (gb464 ≠ s_) ∧ (s_ ≠ gb464) ∧ (gb474 ≠ s_) ∧ (s_ ≠ gb474) ∧ (gb492 ≠ s_) ∧ (s_ ≠ gb492) ∧ (gb502 ≠ s_) ∧ (s_ ≠ gb502) ∧ (Below w.heap.size w w')) ?_ ?_
                  rotate_left
                  ·intro hCont
                   refine two_ (i := 1) (j := 6) (Ni := some 125) (Nj := some 18) #[true, true, true, true, false, false, false, false] #[true, false, true, true, false, false, true, false] rfl rfl rfl rfl (two_of HT_.out (by kernel_rfl)) (by decide) (by decide) (fun K hK => ?_) (fun K hK => ?_)
                   ·skip
                    refine goes_ Try.func14 (by kernel_rfl) rfl #[.agg #[.string t373, .int .i64 t374, .float .f64 t375, .string t376, .int .i64 t377, .int .i64 t378, .float .f64 t379, .string t380]] (by rfl) rfl rfl (by (try simp only [List.map_toArray, List.map_cons, List.map_nil]); first | done | rfl | (simp only [List.length_drop, List.length_take]; rfl)) ?_
                    with_reducible refine (engrosslaw10_Of.calls t373 t374 t375 t376 t377 t378 t379 t380 t522 t523 t524 t525 t526 t527 t528 t529 _ A161.out).mono ?_
                    rintro e w170 ⟨rfl, hb⟩
                    refine ⟨_, rfl, ?_⟩
                    replace BK369 := bB BK369 hb
                    replace BK370 := bB BK370 hb
                    replace BK371 := bB BK371 hb
                    replace BK464 := bB BK464 hb
                    replace BK474 := bB BK474 hb
                    replace BK492 := bB BK492 hb
                    replace BK502 := bB BK502 hb
                    replace HB := bW HB hb
                    (try clear hb)
                    (try clear hb2)
                    (try clear hk)
                    (try clear hi)
                    refine hK.out _ _ (bn8 BK369 (be3 BK371)) (fun hHeld => ?_)
                    clear hK K
                    refine norm_ (a' := ?_) ?_ ?_
                    rotate_left
                    ·show Act.put _ (some 125) _ = _
                     simp only [Act.put, List.setIfInBounds_toArray, List.set_cons_zero, List.set_cons_succ, i64_w, i32_w]
                     rfl
                    refine two_ (i := 4) (j := 6) (Ni := some 128) (Nj := some 18) #[true, true, true, true, true, false, false, false] #[true, true, true, true, false, false, true, false] rfl rfl rfl rfl (two_of HT_.out (by kernel_rfl)) (by decide) (by decide) (fun K hK => ?_) (fun K hK => ?_)
                    ·skip
                     refine goes_ Try.func27 (by kernel_rfl) rfl #[.agg #[.string t522, .int .i64 t523, .float .f64 t524, .string t525, .int .i64 t526, .int .i64 t527, .float .f64 t528, .string t529], .int .i64 a2, .agg #[.int .i64 t389, .float .f64 t390, .string t391]] (by rfl) rfl rfl (by (try simp only [List.map_toArray, List.map_cons, List.map_nil]); first | done | rfl | (simp only [List.length_drop, List.length_take]; rfl)) ?_
                     with_reducible refine (cell_Write.calls t522 t523 t524 t525 t526 t527 t528 t529 a2 t389 t390 t391 t530 t531 t532 t533 t534 t535 t536 t537 _ A162.out).mono ?_
                     rintro e w171 ⟨rfl, hb⟩
                     refine ⟨_, rfl, ?_⟩
                     replace BK369 := bB BK369 hb
                     replace BK370 := bB BK370 hb
                     replace BK371 := bB BK371 hb
                     replace BK464 := bB BK464 hb
                     replace BK474 := bB BK474 hb
                     replace BK492 := bB BK492 hb
                     replace BK502 := bB BK502 hb
                     replace HB := bW HB hb
                     (try clear hb)
                     (try clear hb2)
                     (try clear hk)
                     (try clear hi)
                     refine hK.out _ _ (bn8 BK369 (be3 BK371)) (fun hHeld => ?_)
                     clear hK K
                     refine norm_ (a' := ?_) ?_ ?_
                     rotate_left
                     ·show Act.put _ (some 128) _ = _
                      simp only [Act.put, List.setIfInBounds_toArray, List.set_cons_zero, List.set_cons_succ, i64_w, i32_w]
                      rfl
                     refine two_ (i := 5) (j := 6) (Ni := some 129) (Nj := some 18) #[true, true, true, true, true, true, false, false] #[true, true, true, true, true, false, true, false] rfl rfl rfl rfl (two_of HT_.out (by kernel_rfl)) (by decide) (by decide) (fun K hK => ?_) (fun K hK => ?_)
                     ·skip
                      refine goes_ Try.func25 (by kernel_rfl) rfl #[.agg #[.string t530, .int .i64 t531, .float .f64 t532, .string t533, .int .i64 t534, .int .i64 t535, .float .f64 t536, .string t537]] (by rfl) rfl rfl (by (try simp only [List.map_toArray, List.map_cons, List.map_nil]); first | done | rfl | (simp only [List.length_drop, List.length_take]; rfl)) ?_
                      with_reducible refine (engrosslaw10_Back.calls t530 t531 t532 t533 t534 t535 t536 t537 t538 t539 t540 t541 t542 t543 t544 t545 _ A163.out).mono ?_
                      rintro e w172 ⟨rfl, hb⟩
                      refine ⟨_, rfl, ?_⟩
                      replace BK369 := bB BK369 hb
                      replace BK370 := bB BK370 hb
                      replace BK371 := bB BK371 hb
                      replace BK464 := bB BK464 hb
                      replace BK474 := bB BK474 hb
                      replace BK492 := bB BK492 hb
                      replace BK502 := bB BK502 hb
                      replace HB := bW HB hb
                      (try clear hb)
                      (try clear hb2)
                      (try clear hk)
                      (try clear hi)
                      refine hK.out _ _ (bn8 BK369 (be3 BK371)) (fun hHeld => ?_)
                      clear hK K
                      refine norm_ (a' := ?_) ?_ ?_
                      rotate_left
                      ·show Act.put _ (some 129) _ = _
                       simp only [Act.put, List.setIfInBounds_toArray, List.set_cons_zero, List.set_cons_succ, i64_w, i32_w]
                       rfl
                      refine one_ (i := 6) (N := some 18) #[true, true, true, true, true, true, true, false] rfl rfl (one_of HT_.out (by kernel_rfl)) (by decide) (fun K hK => ?_)
                      refine box_step ?hg (N := 18) ?hd (cs := #[.string (⟨#[]⟩ : ByteArray), .int .i64 0, .float .f64 0, .string (⟨#[]⟩ : ByteArray), .int .i64 0, .int .i64 0, .float .f64 0, .string (⟨#[]⟩ : ByteArray)]) (t := 26) ?hr ?_; (case hd => rfl); (case hg => rfl); (case hr => first | (go_simp; done) | (go_simp; rfl))
                      intro gb546 hg w173 hbox hb
                      have BK546 := Aside0.mk (hbox)
                      have GW546 := bZ HB hg
                      have GE546 := bZ HB hg
                      have NB369_546 := bL BK369 hg
                      have NB546_369 := bG BK369 hg
                      have NB370_546 := bL BK370 hg
                      have NB546_370 := bG BK370 hg
                      have NB371_546 := bL BK371 hg
                      have NB546_371 := bG BK371 hg
                      have NB464_546 := bL BK464 hg
                      have NB546_464 := bG BK464 hg
                      have NB474_546 := bL BK474 hg
                      have NB546_474 := bG BK474 hg
                      have NB492_546 := bL BK492 hg
                      have NB546_492 := bG BK492 hg
                      have NB502_546 := bL BK502 hg
                      have NB546_502 := bG BK502 hg
                      replace BK369 := bB BK369 hb
                      replace BK370 := bB BK370 hb
                      replace BK371 := bB BK371 hb
                      replace BK464 := bB BK464 hb
                      replace BK474 := bB BK474 hb
                      replace BK492 := bB BK492 hb
                      replace BK502 := bB BK502 hb
                      replace HB := bW HB hb
                      clear hb hbox hg
                      refine hK.out _ _ (bn8 BK369 (be3 BK371)) (fun hHeld => ?_)
                      clear hK K
                      refine norm_ (a' := ?_) ?_ ?_
                      rotate_left
                      ·show Act.put _ (some 18) _ = _
                       simp only [Act.put, List.setIfInBounds_toArray, List.set_cons_zero, List.set_cons_succ, i64_w, i32_w]
                       rfl
                      exact norm_ (by simp only [putAll, Act.put, List.setIfInBounds_toArray, List.set_cons_zero, List.set_cons_succ]) (hCont (gb546) _ ⟨hHeld, (bQ BK369), (bQ BK370), (bQ BK371), (bQ BK464), (bQ BK474), (bQ BK492), (bQ BK502), (bQ BK546), GW546.out, GE546.out, NB369_546.out, NB546_369.out, NB370_546.out, NB546_370.out, NB371_546.out, NB546_371.out, NB464_546.out, NB546_464.out, NB474_546.out, NB546_474.out, NB492_546.out, NB546_492.out, NB502_546.out, NB546_502.out, (bC HB)⟩)
                     ·skip
                      refine box_step ?hg (N := 18) ?hd (cs := #[.string (⟨#[]⟩ : ByteArray), .int .i64 0, .float .f64 0, .string (⟨#[]⟩ : ByteArray), .int .i64 0, .int .i64 0, .float .f64 0, .string (⟨#[]⟩ : ByteArray)]) (t := 26) ?hr ?_; (case hd => rfl); (case hg => rfl); (case hr => first | (go_simp; done) | (go_simp; rfl))
                      intro gb546 hg w172 hbox hb
                      have BK546 := Aside0.mk (hbox)
                      have GW546 := bZ HB hg
                      have GE546 := bZ HB hg
                      have NB369_546 := bL BK369 hg
                      have NB546_369 := bG BK369 hg
                      have NB370_546 := bL BK370 hg
                      have NB546_370 := bG BK370 hg
                      have NB371_546 := bL BK371 hg
                      have NB546_371 := bG BK371 hg
                      have NB464_546 := bL BK464 hg
                      have NB546_464 := bG BK464 hg
                      have NB474_546 := bL BK474 hg
                      have NB546_474 := bG BK474 hg
                      have NB492_546 := bL BK492 hg
                      have NB546_492 := bG BK492 hg
                      have NB502_546 := bL BK502 hg
                      have NB546_502 := bG BK502 hg
                      replace BK369 := bB BK369 hb
                      replace BK370 := bB BK370 hb
                      replace BK371 := bB BK371 hb
                      replace BK464 := bB BK464 hb
                      replace BK474 := bB BK474 hb
                      replace BK492 := bB BK492 hb
                      replace BK502 := bB BK502 hb
                      replace HB := bW HB hb
                      clear hb hbox hg
                      refine hK.out _ _ (bn8 BK369 (be3 BK371)) (fun hHeld => ?_)
                      clear hK K
                      refine norm_ (a' := ?_) ?_ ?_
                      rotate_left
                      ·show Act.put _ (some 18) _ = _
                       simp only [Act.put, List.setIfInBounds_toArray, List.set_cons_zero, List.set_cons_succ, i64_w, i32_w]
                       rfl
                      refine one_ (i := 5) (N := some 129) #[true, true, true, true, true, true, true, false] rfl rfl (one_of HT_.out (by kernel_rfl)) (by decide) (fun K hK => ?_)
                      refine goes_ Try.func25 (by kernel_rfl) rfl #[.agg #[.string t530, .int .i64 t531, .float .f64 t532, .string t533, .int .i64 t534, .int .i64 t535, .float .f64 t536, .string t537]] (by rfl) rfl rfl (by (try simp only [List.map_toArray, List.map_cons, List.map_nil]); first | done | rfl | (simp only [List.length_drop, List.length_take]; rfl)) ?_
                      with_reducible refine (engrosslaw10_Back.calls t530 t531 t532 t533 t534 t535 t536 t537 t538 t539 t540 t541 t542 t543 t544 t545 _ A163.out).mono ?_
                      rintro e w173 ⟨rfl, hb⟩
                      refine ⟨_, rfl, ?_⟩
                      replace BK369 := bB BK369 hb
                      replace BK370 := bB BK370 hb
                      replace BK371 := bB BK371 hb
                      replace BK464 := bB BK464 hb
                      replace BK474 := bB BK474 hb
                      replace BK492 := bB BK492 hb
                      replace BK502 := bB BK502 hb
                      replace BK546 := bB BK546 hb
                      replace HB := bW HB hb
                      (try clear hb)
                      (try clear hb2)
                      (try clear hk)
                      (try clear hi)
                      refine hK.out _ _ (bn8 BK369 (be3 BK371)) (fun hHeld => ?_)
                      clear hK K
                      refine norm_ (a' := ?_) ?_ ?_
                      rotate_left
                      ·show Act.put _ (some 129) _ = _
                       simp only [Act.put, List.setIfInBounds_toArray, List.set_cons_zero, List.set_cons_succ, i64_w, i32_w]
                       rfl
                      exact norm_ (by simp only [putAll, Act.put, List.setIfInBounds_toArray, List.set_cons_zero, List.set_cons_succ]) (hCont (gb546) _ ⟨hHeld, (bQ BK369), (bQ BK370), (bQ BK371), (bQ BK464), (bQ BK474), (bQ BK492), (bQ BK502), (bQ BK546), GW546.out, GE546.out, NB369_546.out, NB546_369.out, NB370_546.out, NB546_370.out, NB371_546.out, NB546_371.out, NB464_546.out, NB546_464.out, NB474_546.out, NB546_474.out, NB492_546.out, NB546_492.out, NB502_546.out, NB546_502.out, (bC HB)⟩)
                    ·skip
                     refine box_step ?hg (N := 18) ?hd (cs := #[.string (⟨#[]⟩ : ByteArray), .int .i64 0, .float .f64 0, .string (⟨#[]⟩ : ByteArray), .int .i64 0, .int .i64 0, .float .f64 0, .string (⟨#[]⟩ : ByteArray)]) (t := 26) ?hr ?_; (case hd => rfl); (case hg => rfl); (case hr => first | (go_simp; done) | (go_simp; rfl))
                     intro gb546 hg w171 hbox hb
                     have BK546 := Aside0.mk (hbox)
                     have GW546 := bZ HB hg
                     have GE546 := bZ HB hg
                     have NB369_546 := bL BK369 hg
                     have NB546_369 := bG BK369 hg
                     have NB370_546 := bL BK370 hg
                     have NB546_370 := bG BK370 hg
                     have NB371_546 := bL BK371 hg
                     have NB546_371 := bG BK371 hg
                     have NB464_546 := bL BK464 hg
                     have NB546_464 := bG BK464 hg
                     have NB474_546 := bL BK474 hg
                     have NB546_474 := bG BK474 hg
                     have NB492_546 := bL BK492 hg
                     have NB546_492 := bG BK492 hg
                     have NB502_546 := bL BK502 hg
                     have NB546_502 := bG BK502 hg
                     replace BK369 := bB BK369 hb
                     replace BK370 := bB BK370 hb
                     replace BK371 := bB BK371 hb
                     replace BK464 := bB BK464 hb
                     replace BK474 := bB BK474 hb
                     replace BK492 := bB BK492 hb
                     replace BK502 := bB BK502 hb
                     replace HB := bW HB hb
                     clear hb hbox hg
                     refine hK.out _ _ (bn8 BK369 (be3 BK371)) (fun hHeld => ?_)
                     clear hK K
                     refine norm_ (a' := ?_) ?_ ?_
                     rotate_left
                     ·show Act.put _ (some 18) _ = _
                      simp only [Act.put, List.setIfInBounds_toArray, List.set_cons_zero, List.set_cons_succ, i64_w, i32_w]
                      rfl
                     refine one_ (i := 4) (N := some 128) #[true, true, true, true, true, false, true, false] rfl rfl (one_of HT_.out (by kernel_rfl)) (by decide) (fun K hK => ?_)
                     refine goes_ Try.func27 (by kernel_rfl) rfl #[.agg #[.string t522, .int .i64 t523, .float .f64 t524, .string t525, .int .i64 t526, .int .i64 t527, .float .f64 t528, .string t529], .int .i64 a2, .agg #[.int .i64 t389, .float .f64 t390, .string t391]] (by rfl) rfl rfl (by (try simp only [List.map_toArray, List.map_cons, List.map_nil]); first | done | rfl | (simp only [List.length_drop, List.length_take]; rfl)) ?_
                     with_reducible refine (cell_Write.calls t522 t523 t524 t525 t526 t527 t528 t529 a2 t389 t390 t391 t530 t531 t532 t533 t534 t535 t536 t537 _ A162.out).mono ?_
                     rintro e w172 ⟨rfl, hb⟩
                     refine ⟨_, rfl, ?_⟩
                     replace BK369 := bB BK369 hb
                     replace BK370 := bB BK370 hb
                     replace BK371 := bB BK371 hb
                     replace BK464 := bB BK464 hb
                     replace BK474 := bB BK474 hb
                     replace BK492 := bB BK492 hb
                     replace BK502 := bB BK502 hb
                     replace BK546 := bB BK546 hb
                     replace HB := bW HB hb
                     (try clear hb)
                     (try clear hb2)
                     (try clear hk)
                     (try clear hi)
                     refine hK.out _ _ (bn8 BK369 (be3 BK371)) (fun hHeld => ?_)
                     clear hK K
                     refine norm_ (a' := ?_) ?_ ?_
                     rotate_left
                     ·show Act.put _ (some 128) _ = _
                      simp only [Act.put, List.setIfInBounds_toArray, List.set_cons_zero, List.set_cons_succ, i64_w, i32_w]
                      rfl
                     refine one_ (i := 5) (N := some 129) #[true, true, true, true, true, true, true, false] rfl rfl (one_of HT_.out (by kernel_rfl)) (by decide) (fun K hK => ?_)
                     refine goes_ Try.func25 (by kernel_rfl) rfl #[.agg #[.string t530, .int .i64 t531, .float .f64 t532, .string t533, .int .i64 t534, .int .i64 t535, .float .f64 t536, .string t537]] (by rfl) rfl rfl (by (try simp only [List.map_toArray, List.map_cons, List.map_nil]); first | done | rfl | (simp only [List.length_drop, List.length_take]; rfl)) ?_
                     with_reducible refine (engrosslaw10_Back.calls t530 t531 t532 t533 t534 t535 t536 t537 t538 t539 t540 t541 t542 t543 t544 t545 _ A163.out).mono ?_
                     rintro e w173 ⟨rfl, hb⟩
                     refine ⟨_, rfl, ?_⟩
                     replace BK369 := bB BK369 hb
                     replace BK370 := bB BK370 hb
                     replace BK371 := bB BK371 hb
                     replace BK464 := bB BK464 hb
                     replace BK474 := bB BK474 hb
                     replace BK492 := bB BK492 hb
                     replace BK502 := bB BK502 hb
                     replace BK546 := bB BK546 hb
                     replace HB := bW HB hb
                     (try clear hb)
                     (try clear hb2)
                     (try clear hk)
                     (try clear hi)
                     refine hK.out _ _ (bn8 BK369 (be3 BK371)) (fun hHeld => ?_)
                     clear hK K
                     refine norm_ (a' := ?_) ?_ ?_
                     rotate_left
                     ·show Act.put _ (some 129) _ = _
                      simp only [Act.put, List.setIfInBounds_toArray, List.set_cons_zero, List.set_cons_succ, i64_w, i32_w]
                      rfl
                     exact norm_ (by simp only [putAll, Act.put, List.setIfInBounds_toArray, List.set_cons_zero, List.set_cons_succ]) (hCont (gb546) _ ⟨hHeld, (bQ BK369), (bQ BK370), (bQ BK371), (bQ BK464), (bQ BK474), (bQ BK492), (bQ BK502), (bQ BK546), GW546.out, GE546.out, NB369_546.out, NB546_369.out, NB370_546.out, NB546_370.out, NB371_546.out, NB546_371.out, NB464_546.out, NB546_464.out, NB474_546.out, NB546_474.out, NB492_546.out, NB546_492.out, NB502_546.out, NB546_502.out, (bC HB)⟩)
                   ·skip
                    refine box_step ?hg (N := 18) ?hd (cs := #[.string (⟨#[]⟩ : ByteArray), .int .i64 0, .float .f64 0, .string (⟨#[]⟩ : ByteArray), .int .i64 0, .int .i64 0, .float .f64 0, .string (⟨#[]⟩ : ByteArray)]) (t := 26) ?hr ?_; (case hd => rfl); (case hg => rfl); (case hr => first | (go_simp; done) | (go_simp; rfl))
                    intro gb546 hg w170 hbox hb
                    have BK546 := Aside0.mk (hbox)
                    have GW546 := bZ HB hg
                    have GE546 := bZ HB hg
                    have NB369_546 := bL BK369 hg
                    have NB546_369 := bG BK369 hg
                    have NB370_546 := bL BK370 hg
                    have NB546_370 := bG BK370 hg
                    have NB371_546 := bL BK371 hg
                    have NB546_371 := bG BK371 hg
                    have NB464_546 := bL BK464 hg
                    have NB546_464 := bG BK464 hg
                    have NB474_546 := bL BK474 hg
                    have NB546_474 := bG BK474 hg
                    have NB492_546 := bL BK492 hg
                    have NB546_492 := bG BK492 hg
                    have NB502_546 := bL BK502 hg
                    have NB546_502 := bG BK502 hg
                    replace BK369 := bB BK369 hb
                    replace BK370 := bB BK370 hb
                    replace BK371 := bB BK371 hb
                    replace BK464 := bB BK464 hb
                    replace BK474 := bB BK474 hb
                    replace BK492 := bB BK492 hb
                    replace BK502 := bB BK502 hb
                    replace HB := bW HB hb
                    clear hb hbox hg
                    refine hK.out _ _ (bn8 BK369 (be3 BK371)) (fun hHeld => ?_)
                    clear hK K
                    refine norm_ (a' := ?_) ?_ ?_
                    rotate_left
                    ·show Act.put _ (some 18) _ = _
                     simp only [Act.put, List.setIfInBounds_toArray, List.set_cons_zero, List.set_cons_succ, i64_w, i32_w]
                     rfl
                    refine one_ (i := 1) (N := some 125) #[true, true, true, true, false, false, true, false] rfl rfl (one_of HT_.out (by kernel_rfl)) (by decide) (fun K hK => ?_)
                    refine goes_ Try.func14 (by kernel_rfl) rfl #[.agg #[.string t373, .int .i64 t374, .float .f64 t375, .string t376, .int .i64 t377, .int .i64 t378, .float .f64 t379, .string t380]] (by rfl) rfl rfl (by (try simp only [List.map_toArray, List.map_cons, List.map_nil]); first | done | rfl | (simp only [List.length_drop, List.length_take]; rfl)) ?_
                    with_reducible refine (engrosslaw10_Of.calls t373 t374 t375 t376 t377 t378 t379 t380 t522 t523 t524 t525 t526 t527 t528 t529 _ A161.out).mono ?_
                    rintro e w171 ⟨rfl, hb⟩
                    refine ⟨_, rfl, ?_⟩
                    replace BK369 := bB BK369 hb
                    replace BK370 := bB BK370 hb
                    replace BK371 := bB BK371 hb
                    replace BK464 := bB BK464 hb
                    replace BK474 := bB BK474 hb
                    replace BK492 := bB BK492 hb
                    replace BK502 := bB BK502 hb
                    replace BK546 := bB BK546 hb
                    replace HB := bW HB hb
                    (try clear hb)
                    (try clear hb2)
                    (try clear hk)
                    (try clear hi)
                    refine hK.out _ _ (bn8 BK369 (be3 BK371)) (fun hHeld => ?_)
                    clear hK K
                    refine norm_ (a' := ?_) ?_ ?_
                    rotate_left
                    ·show Act.put _ (some 125) _ = _
                     simp only [Act.put, List.setIfInBounds_toArray, List.set_cons_zero, List.set_cons_succ, i64_w, i32_w]
                     rfl
                    refine one_ (i := 4) (N := some 128) #[true, true, true, true, true, false, true, false] rfl rfl (one_of HT_.out (by kernel_rfl)) (by decide) (fun K hK => ?_)
                    refine goes_ Try.func27 (by kernel_rfl) rfl #[.agg #[.string t522, .int .i64 t523, .float .f64 t524, .string t525, .int .i64 t526, .int .i64 t527, .float .f64 t528, .string t529], .int .i64 a2, .agg #[.int .i64 t389, .float .f64 t390, .string t391]] (by rfl) rfl rfl (by (try simp only [List.map_toArray, List.map_cons, List.map_nil]); first | done | rfl | (simp only [List.length_drop, List.length_take]; rfl)) ?_
                    with_reducible refine (cell_Write.calls t522 t523 t524 t525 t526 t527 t528 t529 a2 t389 t390 t391 t530 t531 t532 t533 t534 t535 t536 t537 _ A162.out).mono ?_
                    rintro e w172 ⟨rfl, hb⟩
                    refine ⟨_, rfl, ?_⟩
                    replace BK369 := bB BK369 hb
                    replace BK370 := bB BK370 hb
                    replace BK371 := bB BK371 hb
                    replace BK464 := bB BK464 hb
                    replace BK474 := bB BK474 hb
                    replace BK492 := bB BK492 hb
                    replace BK502 := bB BK502 hb
                    replace BK546 := bB BK546 hb
                    replace HB := bW HB hb
                    (try clear hb)
                    (try clear hb2)
                    (try clear hk)
                    (try clear hi)
                    refine hK.out _ _ (bn8 BK369 (be3 BK371)) (fun hHeld => ?_)
                    clear hK K
                    refine norm_ (a' := ?_) ?_ ?_
                    rotate_left
                    ·show Act.put _ (some 128) _ = _
                     simp only [Act.put, List.setIfInBounds_toArray, List.set_cons_zero, List.set_cons_succ, i64_w, i32_w]
                     rfl
                    refine one_ (i := 5) (N := some 129) #[true, true, true, true, true, true, true, false] rfl rfl (one_of HT_.out (by kernel_rfl)) (by decide) (fun K hK => ?_)
                    refine goes_ Try.func25 (by kernel_rfl) rfl #[.agg #[.string t530, .int .i64 t531, .float .f64 t532, .string t533, .int .i64 t534, .int .i64 t535, .float .f64 t536, .string t537]] (by rfl) rfl rfl (by (try simp only [List.map_toArray, List.map_cons, List.map_nil]); first | done | rfl | (simp only [List.length_drop, List.length_take]; rfl)) ?_
                    with_reducible refine (engrosslaw10_Back.calls t530 t531 t532 t533 t534 t535 t536 t537 t538 t539 t540 t541 t542 t543 t544 t545 _ A163.out).mono ?_
                    rintro e w173 ⟨rfl, hb⟩
                    refine ⟨_, rfl, ?_⟩
                    replace BK369 := bB BK369 hb
                    replace BK370 := bB BK370 hb
                    replace BK371 := bB BK371 hb
                    replace BK464 := bB BK464 hb
                    replace BK474 := bB BK474 hb
                    replace BK492 := bB BK492 hb
                    replace BK502 := bB BK502 hb
                    replace BK546 := bB BK546 hb
                    replace HB := bW HB hb
                    (try clear hb)
                    (try clear hb2)
                    (try clear hk)
                    (try clear hi)
                    refine hK.out _ _ (bn8 BK369 (be3 BK371)) (fun hHeld => ?_)
                    clear hK K
                    refine norm_ (a' := ?_) ?_ ?_
                    rotate_left
                    ·show Act.put _ (some 129) _ = _
                     simp only [Act.put, List.setIfInBounds_toArray, List.set_cons_zero, List.set_cons_succ, i64_w, i32_w]
                     rfl
                    exact norm_ (by simp only [putAll, Act.put, List.setIfInBounds_toArray, List.set_cons_zero, List.set_cons_succ]) (hCont (gb546) _ ⟨hHeld, (bQ BK369), (bQ BK370), (bQ BK371), (bQ BK464), (bQ BK474), (bQ BK492), (bQ BK502), (bQ BK546), GW546.out, GE546.out, NB369_546.out, NB546_369.out, NB370_546.out, NB546_370.out, NB371_546.out, NB546_371.out, NB464_546.out, NB546_464.out, NB474_546.out, NB546_474.out, NB492_546.out, NB546_492.out, NB502_546.out, NB546_502.out, (bC HB)⟩)
                  rintro gb546 w174 ⟨hS_, h0_, h1_, h2_, h3_, h4_, h5_, h6_, h7_, h8_, h9_, h10_, h11_, h12_, h13_, h14_, h15_, h16_, h17_, h18_, h19_, h20_, h21_, h22_, h23_, h24_⟩
                  have n0_ : Aside0 (w174.heap[gb369]? = some (.cells #[.string t373, .int .i64 t374, .float .f64 t375, .string t376, .int .i64 t377, .int .i64 t378, .float .f64 t379, .string t380] 26 (0, 0))) := ⟨h0_⟩
                  have n1_ : Aside0 (w174.heap[gb370]? = some (.cells #[.string t381, .int .i64 t382, .float .f64 t383, .string t384, .int .i64 t385, .int .i64 t386, .float .f64 t387, .string t388] 26 (0, 0))) := ⟨h1_⟩
                  have n2_ : Aside0 (w174.heap[gb371]? = some (.cells #[.int .i64 t389, .float .f64 t390, .string t391] 24 (0, 0))) := ⟨h2_⟩
                  have n3_ : Aside0 (w174.heap[gb464]? = some (.cells #[.string t455, .int .i64 t456, .float .f64 t457, .string t458, .int .i64 t459, .int .i64 t460, .float .f64 t461, .string t462] 31 (0, 0))) := ⟨h3_⟩
                  have n4_ : Aside0 (w174.heap[gb474]? = some (.cells #[.string t465, .int .i64 t466, .float .f64 t467, .string t468, .int .i64 t469, .int .i64 t470, .float .f64 t471, .string t472] 26 (0, 0))) := ⟨h4_⟩
                  have n5_ : Aside0 (w174.heap[gb492]? = some (.cells #[.string t483, .int .i64 t484, .float .f64 t485, .string t486, .int .i64 t487, .int .i64 t488, .float .f64 t489, .string t490] 31 (0, 0))) := ⟨h5_⟩
                  have n6_ : Aside0 (w174.heap[gb502]? = some (.cells #[.string t493, .int .i64 t494, .float .f64 t495, .string t496, .int .i64 t497, .int .i64 t498, .float .f64 t499, .string t500] 26 (0, 0))) := ⟨h6_⟩
                  have n7_ : Aside0 (w174.heap[gb546]? = some (.cells #[.string (⟨#[]⟩ : ByteArray), .int .i64 0, .float .f64 0, .string (⟨#[]⟩ : ByteArray), .int .i64 0, .int .i64 0, .float .f64 0, .string (⟨#[]⟩ : ByteArray)] 26 (0, 0))) := ⟨h7_⟩
                  have n8_ : Aside0 (w.heap.size ≤ gb546) := ⟨h8_⟩
                  have n9_ : Aside0 (w.heap.size ≤ gb546) := ⟨h9_⟩
                  have n10_ : Aside0 (gb369 ≠ gb546) := ⟨h10_⟩
                  have n11_ : Aside0 (gb546 ≠ gb369) := ⟨h11_⟩
                  have n12_ : Aside0 (gb370 ≠ gb546) := ⟨h12_⟩
                  have n13_ : Aside0 (gb546 ≠ gb370) := ⟨h13_⟩
                  have n14_ : Aside0 (gb371 ≠ gb546) := ⟨h14_⟩
                  have n15_ : Aside0 (gb546 ≠ gb371) := ⟨h15_⟩
                  have n16_ : Aside0 (gb464 ≠ gb546) := ⟨h16_⟩
                  have n17_ : Aside0 (gb546 ≠ gb464) := ⟨h17_⟩
                  have n18_ : Aside0 (gb474 ≠ gb546) := ⟨h18_⟩
                  have n19_ : Aside0 (gb546 ≠ gb474) := ⟨h19_⟩
                  have n20_ : Aside0 (gb492 ≠ gb546) := ⟨h20_⟩
                  have n21_ : Aside0 (gb546 ≠ gb492) := ⟨h21_⟩
                  have n22_ : Aside0 (gb502 ≠ gb546) := ⟨h22_⟩
                  have n23_ : Aside0 (gb546 ≠ gb502) := ⟨h23_⟩
                  have n24_ : Aside0 (Below w.heap.size w w174) := ⟨h24_⟩
                  clear BK369
                  clear BK370
                  clear BK371
                  clear BK464
                  clear BK474
                  clear BK492
                  clear BK502
                  clear HB
                  clear h0_ h1_ h2_ h3_ h4_ h5_ h6_ h7_ h8_ h9_ h10_ h11_ h12_ h13_ h14_ h15_ h16_ h17_ h18_ h19_ h20_ h21_ h22_ h23_ h24_
                  have BK369 := n0_
                  have BK370 := n1_
                  have BK371 := n2_
                  have BK464 := n3_
                  have BK474 := n4_
                  have BK492 := n5_
                  have BK502 := n6_
                  have BK546 := n7_
                  have GW546 := n8_
                  have GE546 := n9_
                  have NB369_546 := n10_
                  have NB546_369 := n11_
                  have NB370_546 := n12_
                  have NB546_370 := n13_
                  have NB371_546 := n14_
                  have NB546_371 := n15_
                  have NB464_546 := n16_
                  have NB546_464 := n17_
                  have NB474_546 := n18_
                  have NB546_474 := n19_
                  have NB492_546 := n20_
                  have NB546_492 := n21_
                  have NB502_546 := n22_
                  have NB546_502 := n23_
                  have HB := n24_
                  clear n0_ n1_ n2_ n3_ n4_ n5_ n6_ n7_ n8_ n9_ n10_ n11_ n12_ n13_ n14_ n15_ n16_ n17_ n18_ n19_ n20_ n21_ n22_ n23_ n24_
                  have hHeld : w174.cell? ⟨gb369, 0, none⟩ = some (.string t373) ∧ w174.cell? ⟨gb369, 1, none⟩ = some (.int .i64 t374) ∧ w174.cell? ⟨gb369, 2, none⟩ = some (.float .f64 t375) ∧ w174.cell? ⟨gb369, 3, none⟩ = some (.string t376) ∧ w174.cell? ⟨gb369, 4, none⟩ = some (.int .i64 t377) ∧ w174.cell? ⟨gb369, 5, none⟩ = some (.int .i64 t378) ∧ w174.cell? ⟨gb369, 6, none⟩ = some (.float .f64 t379) ∧ w174.cell? ⟨gb369, 7, none⟩ = some (.string t380) ∧ w174.cell? ⟨gb371, 0, none⟩ = some (.int .i64 t389) ∧ w174.cell? ⟨gb371, 1, none⟩ = some (.float .f64 t390) ∧ w174.cell? ⟨gb371, 2, none⟩ = some (.string t391) := hS_
                  refine norm_ (a' := ?_) ?_ ?_
                  rotate_left
                  ·simp only [putAll, Act.put, List.setIfInBounds_toArray, List.set_cons_zero, List.set_cons_succ]
                   rfl
                  refine one_ (i := 7) (N := none) #[true, true, true, true, true, true, true, true] rfl rfl (one_of HT_.out (by kernel_rfl)) (by decide) (fun K hK => ?_)
                  have hs175 : w174.cell? ⟨gb546, 0, none⟩ = some (.string (⟨#[]⟩ : ByteArray)) := (blk_cell BK546.out 0).trans rfl
                  have hfs175 := blk_frozen BK546.out 0
                  have hns175_0 := NB369_546.out
                  have hns175_1 := NB370_546.out
                  have hns175_2 := NB371_546.out
                  have hns175_3 := NB464_546.out
                  have hns175_4 := NB474_546.out
                  have hns175_5 := NB492_546.out
                  have hns175_6 := NB502_546.out
                  have hms175_0 := NB546_369.out
                  have hms175_1 := NB546_370.out
                  have hms175_2 := NB546_371.out
                  have hms175_3 := NB546_464.out
                  have hms175_4 := NB546_474.out
                  have hms175_5 := NB546_492.out
                  have hms175_6 := NB546_502.out
                  have hs176 : w174.cell? ⟨gb546, 1, none⟩ = some (.int .i64 0) := (blk_cell BK546.out 1).trans rfl
                  have hfs176 := blk_frozen BK546.out 1
                  have hns176_0 := NB369_546.out
                  have hns176_1 := NB370_546.out
                  have hns176_2 := NB371_546.out
                  have hns176_3 := NB464_546.out
                  have hns176_4 := NB474_546.out
                  have hns176_5 := NB492_546.out
                  have hns176_6 := NB502_546.out
                  have hms176_0 := NB546_369.out
                  have hms176_1 := NB546_370.out
                  have hms176_2 := NB546_371.out
                  have hms176_3 := NB546_464.out
                  have hms176_4 := NB546_474.out
                  have hms176_5 := NB546_492.out
                  have hms176_6 := NB546_502.out
                  have hs177 : w174.cell? ⟨gb546, 2, none⟩ = some (.float .f64 0) := (blk_cell BK546.out 2).trans rfl
                  have hfs177 := blk_frozen BK546.out 2
                  have hns177_0 := NB369_546.out
                  have hns177_1 := NB370_546.out
                  have hns177_2 := NB371_546.out
                  have hns177_3 := NB464_546.out
                  have hns177_4 := NB474_546.out
                  have hns177_5 := NB492_546.out
                  have hns177_6 := NB502_546.out
                  have hms177_0 := NB546_369.out
                  have hms177_1 := NB546_370.out
                  have hms177_2 := NB546_371.out
                  have hms177_3 := NB546_464.out
                  have hms177_4 := NB546_474.out
                  have hms177_5 := NB546_492.out
                  have hms177_6 := NB546_502.out
                  have hs178 : w174.cell? ⟨gb546, 3, none⟩ = some (.string (⟨#[]⟩ : ByteArray)) := (blk_cell BK546.out 3).trans rfl
                  have hfs178 := blk_frozen BK546.out 3
                  have hns178_0 := NB369_546.out
                  have hns178_1 := NB370_546.out
                  have hns178_2 := NB371_546.out
                  have hns178_3 := NB464_546.out
                  have hns178_4 := NB474_546.out
                  have hns178_5 := NB492_546.out
                  have hns178_6 := NB502_546.out
                  have hms178_0 := NB546_369.out
                  have hms178_1 := NB546_370.out
                  have hms178_2 := NB546_371.out
                  have hms178_3 := NB546_464.out
                  have hms178_4 := NB546_474.out
                  have hms178_5 := NB546_492.out
                  have hms178_6 := NB546_502.out
                  have hs179 : w174.cell? ⟨gb546, 4, none⟩ = some (.int .i64 0) := (blk_cell BK546.out 4).trans rfl
                  have hfs179 := blk_frozen BK546.out 4
                  have hns179_0 := NB369_546.out
                  have hns179_1 := NB370_546.out
                  have hns179_2 := NB371_546.out
                  have hns179_3 := NB464_546.out
                  have hns179_4 := NB474_546.out
                  have hns179_5 := NB492_546.out
                  have hns179_6 := NB502_546.out
                  have hms179_0 := NB546_369.out
                  have hms179_1 := NB546_370.out
                  have hms179_2 := NB546_371.out
                  have hms179_3 := NB546_464.out
                  have hms179_4 := NB546_474.out
                  have hms179_5 := NB546_492.out
                  have hms179_6 := NB546_502.out
                  have hs180 : w174.cell? ⟨gb546, 5, none⟩ = some (.int .i64 0) := (blk_cell BK546.out 5).trans rfl
                  have hfs180 := blk_frozen BK546.out 5
                  have hns180_0 := NB369_546.out
                  have hns180_1 := NB370_546.out
                  have hns180_2 := NB371_546.out
                  have hns180_3 := NB464_546.out
                  have hns180_4 := NB474_546.out
                  have hns180_5 := NB492_546.out
                  have hns180_6 := NB502_546.out
                  have hms180_0 := NB546_369.out
                  have hms180_1 := NB546_370.out
                  have hms180_2 := NB546_371.out
                  have hms180_3 := NB546_464.out
                  have hms180_4 := NB546_474.out
                  have hms180_5 := NB546_492.out
                  have hms180_6 := NB546_502.out
                  have hs181 : w174.cell? ⟨gb546, 6, none⟩ = some (.float .f64 0) := (blk_cell BK546.out 6).trans rfl
                  have hfs181 := blk_frozen BK546.out 6
                  have hns181_0 := NB369_546.out
                  have hns181_1 := NB370_546.out
                  have hns181_2 := NB371_546.out
                  have hns181_3 := NB464_546.out
                  have hns181_4 := NB474_546.out
                  have hns181_5 := NB492_546.out
                  have hns181_6 := NB502_546.out
                  have hms181_0 := NB546_369.out
                  have hms181_1 := NB546_370.out
                  have hms181_2 := NB546_371.out
                  have hms181_3 := NB546_464.out
                  have hms181_4 := NB546_474.out
                  have hms181_5 := NB546_492.out
                  have hms181_6 := NB546_502.out
                  have hs182 : w174.cell? ⟨gb546, 7, none⟩ = some (.string (⟨#[]⟩ : ByteArray)) := (blk_cell BK546.out 7).trans rfl
                  have hfs182 := blk_frozen BK546.out 7
                  have hns182_0 := NB369_546.out
                  have hns182_1 := NB370_546.out
                  have hns182_2 := NB371_546.out
                  have hns182_3 := NB464_546.out
                  have hns182_4 := NB474_546.out
                  have hns182_5 := NB492_546.out
                  have hns182_6 := NB502_546.out
                  have hms182_0 := NB546_369.out
                  have hms182_1 := NB546_370.out
                  have hms182_2 := NB546_371.out
                  have hms182_3 := NB546_464.out
                  have hms182_4 := NB546_474.out
                  have hms182_5 := NB546_492.out
                  have hms182_6 := NB546_502.out
                  with_reducible refine skip_ (w1 := ?_) (by with_unfolding_all rfl) (by with_unfolding_all rfl) ?_ ?_
                  rotate_left
                  ·go_simp
                   rfl
                  refine hK.out _ _ ⟨(bT hHeld.1), (bT hHeld.2.1), (bT hHeld.2.2.1), (bT hHeld.2.2.2.1), (bT hHeld.2.2.2.2.1), (bT hHeld.2.2.2.2.2.1), (bT hHeld.2.2.2.2.2.2.1), (bT hHeld.2.2.2.2.2.2.2.1), (bT hHeld.2.2.2.2.2.2.2.2.1), (bT hHeld.2.2.2.2.2.2.2.2.2.1), (bT hHeld.2.2.2.2.2.2.2.2.2.2)⟩ (fun hHeld => ?_)
                  clear hK K
                  refine done_ (done_of HT_.out (by kernel_rfl)) ?_
                  have hnb183 := NB546_369.out
                  have hnc183 := NB369_546.out
                  have hnb184 := NB546_370.out
                  have hnc184 := NB370_546.out
                  have hnb185 := NB546_371.out
                  have hnc185 := NB371_546.out
                  have hnb186 := NB546_464.out
                  have hnc186 := NB464_546.out
                  have hnb187 := NB546_474.out
                  have hnc187 := NB474_546.out
                  have hnb188 := NB546_492.out
                  have hnc188 := NB492_546.out
                  have hnb189 := NB546_502.out
                  have hnc189 := NB502_546.out
                  obtain ⟨hcz190_0, hcz190_1, hcz190_2, hcz190_3, hcz190_4, hcz190_5, hcz190_6, hcz190_7, hfz190_0, hfz190_1, hfz190_2, hfz190_3, hfz190_4, hfz190_5, hfz190_6, hfz190_7⟩ := bf8 (w := w174) BK546
                  have hnb191 := NB369_370.out
                  have hnc191 := NB370_369.out
                  have hnb192 := NB369_371.out
                  have hnc192 := NB371_369.out
                  have hnb193 := NB369_464.out
                  have hnc193 := NB464_369.out
                  have hnb194 := NB369_474.out
                  have hnc194 := NB474_369.out
                  have hnb195 := NB369_492.out
                  have hnc195 := NB492_369.out
                  have hnb196 := NB369_502.out
                  have hnc196 := NB502_369.out
                  obtain ⟨hcz197_0, hcz197_1, hcz197_2, hcz197_3, hcz197_4, hcz197_5, hcz197_6, hcz197_7, hfz197_0, hfz197_1, hfz197_2, hfz197_3, hfz197_4, hfz197_5, hfz197_6, hfz197_7⟩ := bf8 (w := w174) BK369
                  try go_wp2_with (first | (go_at_call 16; (with_reducible refine (engrossref1_EqVal.calls t539 t540 t541 t374 t375 t376 true _ A166.out).mono ?_); rintro e w198 ⟨rfl, hb⟩; replace BK369 := bB BK369 hb; replace BK370 := bB BK370 hb; replace BK371 := bB BK371 hb; replace BK464 := bB BK464 hb; replace BK474 := bB BK474 hb; replace BK492 := bB BK492 hb; replace BK502 := bB BK502 hb; replace BK546 := Aside0.mk (blk_below (g := gb546) (o := .cells #[.string t538, .int .i64 t539, .float .f64 t540, .string t541, .int .i64 t542, .int .i64 t543, .float .f64 t544, .string t545] 26 (0, 0)) (bR BK546) hb); replace HB := bW HB hb; (try clear hb); (try clear hb2); (try clear hk); (try clear hi); obtain ⟨hcz199_0, hcz199_1, hcz199_2, hcz199_3, hcz199_4, hcz199_5, hcz199_6, hcz199_7, hfz199_0, hfz199_1, hfz199_2, hfz199_3, hfz199_4, hfz199_5, hfz199_6, hfz199_7⟩ := bf8 (w := w198) BK546; have hnb200 := NB371_370.out; have hnc200 := NB370_371.out; have hnb201 := NB371_464.out; have hnc201 := NB464_371.out; have hnb202 := NB371_474.out; have hnc202 := NB474_371.out; have hnb203 := NB371_492.out; have hnc203 := NB492_371.out; have hnb204 := NB371_502.out; have hnc204 := NB502_371.out; obtain ⟨hcz205_0, hcz205_1, hcz205_2, hfz205_0, hfz205_1, hfz205_2⟩ := bf3 (w := w198) BK371) | (go_at_call 16; (with_reducible refine (engrossref1_EqVal.calls t543 t544 t545 t389 t390 t391 t548 _ A168.out).mono ?_); rintro e w206 ⟨rfl, hb⟩; replace BK369 := bB BK369 hb; replace BK370 := bB BK370 hb; replace BK371 := bB BK371 hb; replace BK464 := bB BK464 hb; replace BK474 := bB BK474 hb; replace BK492 := bB BK492 hb; replace BK502 := bB BK502 hb; replace BK546 := bB BK546 hb; replace HB := bW HB hb; (try clear hb); (try clear hb2); (try clear hk); (try clear hi)))
                  go_ret
                  exact ⟨by first | rfl | (simp [errW_none, errW_some] <;> rfl) | (simp [*, errW_none, errW_some] <;> rfl), by repeat (first | (with_reducible first | exact HB.out | apply below_alloc | apply pw_below_drewN | apply below_drew1 | refine below_set ?_ GE369.out | refine below_set ?_ GE370.out | refine below_set ?_ GE371.out | refine below_set ?_ GE464.out | refine below_set ?_ GE474.out | refine below_set ?_ GE492.out | refine below_set ?_ GE502.out | refine below_set ?_ GE546.out) | exact HB.out)⟩
                 ·replace c167 := Bool.eq_false_iff.mpr c167
                  subst c167
                  have H1 : (none) = some r := by rw [if_neg (show ¬ (false = true) by decide)] at H; exact H
                  clear H
                  have H := H1
                  clear H1
                  exact absurd H (by simp)
                ·rw [if_neg c165] at H
                 exact absurd H (by simp)
               ·rw [if_neg c164] at H
                exact absurd H (by simp)
     ·replace c55 := Bool.eq_false_iff.mpr c55
      subst c55
      have H1 : (some true) = some r := by rw [if_neg (show ¬ (false = true) by decide)] at H; exact H
      clear H
      have H := H1
      clear H1
      obtain rfl := Option.some.inj H
      have hnb207 := NB369_370.out
      have hnc207 := NB370_369.out
      have hnb208 := NB369_371.out
      have hnc208 := NB371_369.out
      obtain ⟨hcz209_0, hcz209_1, hcz209_2, hcz209_3, hcz209_4, hcz209_5, hcz209_6, hcz209_7, hfz209_0, hfz209_1, hfz209_2, hfz209_3, hfz209_4, hfz209_5, hfz209_6, hfz209_7⟩ := bf8 (w := wc) BK369
      go_wp2_with (first | ((with_reducible refine gate_callee (f := 15) rfl ?_); refine goesL_ (some 43) rfl rfl Try.func15 (by kernel_rfl) rfl #[.agg #[.string t373, .int .i64 t374, .float .f64 t375, .string t376, .int .i64 t377, .int .i64 t378, .float .f64 t379, .string t380]] rfl (by (try simp only [List.map_toArray, List.map_cons, List.map_nil]); first | done | rfl | (simp only [List.length_drop, List.length_take]; rfl)) ?_; (with_reducible refine (engrossref10_May.calls t373 t374 t375 t376 t377 t378 t379 t380 false _ A54.out).mono ?_); rintro e w210 ⟨rfl, hb⟩; refine ⟨_, rfl, ?_⟩; replace BK369 := bB BK369 hb; replace BK370 := bB BK370 hb; replace BK371 := bB BK371 hb; replace HB := bW HB hb; (try clear hb); (try clear hb2); (try clear hk); (try clear hi)))
      go_ret
      exact ⟨by first | rfl | (simp [errW_none, errW_some] <;> rfl) | (simp [*, errW_none, errW_some] <;> rfl), by repeat (first | (with_reducible first | exact HB.out | apply below_alloc | apply pw_below_drewN | apply below_drew1 | refine below_set ?_ GE369.out | refine below_set ?_ GE370.out | refine below_set ?_ GE371.out) | exact HB.out)⟩
 ·replace c6 := Bool.eq_false_iff.mpr c6
  subst c6
  have H1 : (none) = some r := by rw [if_neg (show ¬ (false = true) by decide)] at H; exact H
  clear H
  have H := H1
  clear H1
  exact absurd H (by simp)

/-- THE ONE PURE STATEMENT of engrosslaw10_CellAll. -/
def engrosslaw10_CellAll.Pure : Prop := ∀ (x0 : S26) (x1 : S26) (a2 : Int) (x3 : S24), wf26 x0 → wf26 x1 → (Lit.int .i64 a2).wf = true → wf24 x3 → ∃ k, engrosslaw10_CellAll.f k x0.f0 x0.f1.f0 x0.f1.f1 x0.f1.f2 x0.f2 x0.f3.f0 x0.f3.f1 x0.f3.f2 x1.f0 x1.f1.f0 x1.f1.f1 x1.f1.f2 x1.f2 x1.f3.f0 x1.f3.f1 x1.f3.f2 a2 x3.f0 x3.f1 x3.f2 = some true

end Go.Proofs.Ytjhbeaffcdkhcaa.P
