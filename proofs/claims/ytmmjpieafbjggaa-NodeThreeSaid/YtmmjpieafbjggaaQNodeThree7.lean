/- The law NodeThree returns true for every input: the words, the walks and the plain statement that its row needs. No condition. (Merged by a program of this session out of its own texts.) -/
import Derived.ArgAppend
import Derived.Below
import Derived.BigQuiet
import Derived.Deep.AppendLies
import Derived.Deep.CutBlock
import Derived.Deep.DeepCutAuto
import Derived.Deep.Draws
import Derived.Deep.LoopGhost
import Derived.Deep.OwnRows
import Derived.Deep.QuietTactic
import Derived.Deep.RegionHeld3
import Derived.KernelRfl
import Derived.Laws.BitsLemmas
import Derived.Laws.BytesArg
import Derived.Laws.Cover2
import Derived.Laws.Externs
import Derived.Laws.FloatArith
import Derived.Laws.IdiomCopy
import Derived.Laws.MakeOwn
import Derived.Laws.OwnMore
import Derived.Laws.Rows
import Derived.Laws.Slices
import Derived.Laws.StructEq
import Derived.Lib.AppendStr
import Derived.Lib.ConvBytes
import Derived.Maps.AppendAt
import Derived.OrdersHeld
import Derived.OwnWalk
import Derived.RowKit
import Derived.RowKit3
import Derived.Tactics
import Derived.Test.YtmmjpieafbjggaaProg
import Derived.WalkKit
import Derived.WideLaws
import Derived.Test.YtmmjpieafbjggaaQNodeThree4
import Derived.Test.YtmmjpieafbjggaaQNodeThree5
import Derived.Test.YtmmjpieafbjggaaQNodeThree6
section
namespace Go.Proofs.Ytmmjpieafbjggaa.P
open Go.RowKit Go.Proofs.YtmmjpieafbjggaaW.PrintWords Go.Proofs.YtmmjpieafbjggaaW.PrintLast Go.Proofs.YtmmjpieafbjggaaW.PrintMore
attribute [local go_sem] max2_int min2_int max_two min_two max_three min_three max_four min_four   -- for this text's walks alone
attribute [local go_sem] x_str_gtr x_str_leq x_str_geq ext_bits ext_frombits ext_neg x_store_float Instr.field asAgg
set_option linter.unusedVariables false
set_option linter.unusedSimpArgs false
def engrosslaw11_begun.f (k : Nat)  : Option (Bool) := (some (([(⟨(⟨#[97]⟩ : ByteArray), (⟨1, 4607182418800017408, (⟨#[]⟩ : ByteArray)⟩ : S54), 0, (⟨0, 0, (⟨#[]⟩ : ByteArray)⟩ : S54)⟩ : S62)] : List (S62)) : List (S62))).bind fun y285 => ((some (([(⟨#[107]⟩ : ByteArray)] : List ByteArray) : List ByteArray)).bind fun y289 => ((some (([2, 3] : List Int) : List Int)).bind fun y292 => ((node_Encode.f k true y285 ([] : List ByteArray) ([] : List Int)).bind fun bt296 => ((node_Encode.f k false ([] : List (S62)) y289 y292).bind fun bt300 => ((node_Decode.f k bt300.1).bind fun bt304 => (if 256 ≤ 281474976710656 then ((node_Decode.f k (List.replicate 256 0)).bind fun bt319 => ((node_May.f k true y285 ([] : List ByteArray) ([] : List Int)).bind fun t331 => (if t331 = true then ((node_May.f k false ([] : List (S62)) y289 y292).bind fun t332 => (if t332 = true then ((node_May.f k false ([] : List (S62)) ([] : List ByteArray) ([] : List Int)).bind fun t333 => (if t333 = true then (none) else (if bt296.2 = 0 then (if bt300.2 = 0 then (if (bt296.1.length : Int) = 256 then (if 0 < (bt296.1.length : Int) then (if (rd bt296.1 0) = 1 then (if bt304.2.2.2.2 = 0 then (if (bt304.2.2.2.1.length : Int) = 2 then (if bt319.2.2.2.2 = 8 then ((node_Kid.f k false ([] : List (S62)) y289 y292 (⟨#[107]⟩ : ByteArray)).bind fun t335 => (if t335 = 1 then ((node_Kid.f k false ([] : List (S62)) y289 y292 (⟨#[106]⟩ : ByteArray)).bind fun t336 => (if t336 = 0 then ((node_Kid.f k true y285 ([] : List ByteArray) ([] : List Int) (⟨#[106]⟩ : ByteArray)).bind fun t337 => (if t337 = (-1) then ((node_Size.f k true y285 ([] : List ByteArray) ([] : List Int)).bind fun t338 => (some (decide (t338 > 10)))) else (none))) else (none))) else (none))) else (none)) else (none)) else (none)) else (none)) else (none)) else (none)) else (none)) else (none)))) else (none))) else (none)))) else (none)))))))
theorem engrosslaw11_begun.mono : ∀ k, LeO (engrosslaw11_begun.f k ) (engrosslaw11_begun.f (k + 1) ) := by
 intro  k
 unfold engrosslaw11_begun.f
 repeat' first
   | (with_reducible exact node_Decode.mono _ _)
   | (with_reducible exact node_Encode.mono _ _ _ _ _)
   | (with_reducible exact node_Kid.mono _ _ _ _ _ _)
   | (with_reducible exact node_May.mono _ _ _ _ _)
   | (with_reducible exact node_Size.mono _ _ _ _ _)
   | (with_reducible exact LeO.refl _)
   | (with_reducible exact LeO.none _)
   | (with_reducible refine LeO.ite ?_ ?_)
   | (with_reducible refine LeO.bind ?_ (fun _ => ?_))
   | exact node_Decode.mono _ _
   | exact node_Encode.mono _ _ _ _ _
   | exact node_Kid.mono _ _ _ _ _ _
   | exact node_May.mono _ _ _ _ _
   | exact node_Size.mono _ _ _ _ _
   | exact LeO.none _
   | refine LeO.ite ?_ ?_
   | refine LeO.bind ?_ (fun _ => ?_)
set_option maxHeartbeats 8000000 in
set_option maxRecDepth 100000 in
theorem engrosslaw11_begun.calls (k : Nat)  (r : Bool) (w : World) (h : engrosslaw11_begun.f k  = some r) :
  Calls Try.prog 11 #[] w fun e w' => e = .returned (.bool r) ∧ Below w.heap.size w w' := by
 have hu54 := Try.underlying54
 have hu62 := Try.underlying62
 have hu36 := Try.underlying36
 have HB := Aside0.mk (Below.refl w.heap.size w)
 have H : ((some (([(⟨(⟨#[97]⟩ : ByteArray), (⟨1, 4607182418800017408, (⟨#[]⟩ : ByteArray)⟩ : S54), 0, (⟨0, 0, (⟨#[]⟩ : ByteArray)⟩ : S54)⟩ : S62)] : List (S62)) : List (S62))).bind fun y285 => ((some (([(⟨#[107]⟩ : ByteArray)] : List ByteArray) : List ByteArray)).bind fun y289 => ((some (([2, 3] : List Int) : List Int)).bind fun y292 => ((node_Encode.f k true y285 ([] : List ByteArray) ([] : List Int)).bind fun bt296 => ((node_Encode.f k false ([] : List (S62)) y289 y292).bind fun bt300 => ((node_Decode.f k bt300.1).bind fun bt304 => (if 256 ≤ 281474976710656 then ((node_Decode.f k (List.replicate 256 0)).bind fun bt319 => ((node_May.f k true y285 ([] : List ByteArray) ([] : List Int)).bind fun t331 => (if t331 = true then ((node_May.f k false ([] : List (S62)) y289 y292).bind fun t332 => (if t332 = true then ((node_May.f k false ([] : List (S62)) ([] : List ByteArray) ([] : List Int)).bind fun t333 => (if t333 = true then (none) else (if bt296.2 = 0 then (if bt300.2 = 0 then (if (bt296.1.length : Int) = 256 then (if 0 < (bt296.1.length : Int) then (if (rd bt296.1 0) = 1 then (if bt304.2.2.2.2 = 0 then (if (bt304.2.2.2.1.length : Int) = 2 then (if bt319.2.2.2.2 = 8 then ((node_Kid.f k false ([] : List (S62)) y289 y292 (⟨#[107]⟩ : ByteArray)).bind fun t335 => (if t335 = 1 then ((node_Kid.f k false ([] : List (S62)) y289 y292 (⟨#[106]⟩ : ByteArray)).bind fun t336 => (if t336 = 0 then ((node_Kid.f k true y285 ([] : List ByteArray) ([] : List Int) (⟨#[106]⟩ : ByteArray)).bind fun t337 => (if t337 = (-1) then ((node_Size.f k true y285 ([] : List ByteArray) ([] : List Int)).bind fun t338 => (some (decide (t338 > 10)))) else (none))) else (none))) else (none))) else (none)) else (none)) else (none)) else (none)) else (none)) else (none)) else (none)) else (none)))) else (none))) else (none)))) else (none)))))))) = some r := h
 clear h
 obtain ⟨y285, hy285⟩ : ∃ y_ : List (S62), y_ = (([(⟨(⟨#[97]⟩ : ByteArray), (⟨1, 4607182418800017408, (⟨#[]⟩ : ByteArray)⟩ : S54), 0, (⟨0, 0, (⟨#[]⟩ : ByteArray)⟩ : S54)⟩ : S62)] : List (S62))) := ⟨_, rfl⟩
 replace H : ((some (([(⟨#[107]⟩ : ByteArray)] : List ByteArray) : List ByteArray)).bind fun y289 => ((some (([2, 3] : List Int) : List Int)).bind fun y292 => ((node_Encode.f k true y285 ([] : List ByteArray) ([] : List Int)).bind fun bt296 => ((node_Encode.f k false ([] : List (S62)) y289 y292).bind fun bt300 => ((node_Decode.f k bt300.1).bind fun bt304 => (if 256 ≤ 281474976710656 then ((node_Decode.f k (List.replicate 256 0)).bind fun bt319 => ((node_May.f k true y285 ([] : List ByteArray) ([] : List Int)).bind fun t331 => (if t331 = true then ((node_May.f k false ([] : List (S62)) y289 y292).bind fun t332 => (if t332 = true then ((node_May.f k false ([] : List (S62)) ([] : List ByteArray) ([] : List Int)).bind fun t333 => (if t333 = true then (none) else (if bt296.2 = 0 then (if bt300.2 = 0 then (if (bt296.1.length : Int) = 256 then (if 0 < (bt296.1.length : Int) then (if (rd bt296.1 0) = 1 then (if bt304.2.2.2.2 = 0 then (if (bt304.2.2.2.1.length : Int) = 2 then (if bt319.2.2.2.2 = 8 then ((node_Kid.f k false ([] : List (S62)) y289 y292 (⟨#[107]⟩ : ByteArray)).bind fun t335 => (if t335 = 1 then ((node_Kid.f k false ([] : List (S62)) y289 y292 (⟨#[106]⟩ : ByteArray)).bind fun t336 => (if t336 = 0 then ((node_Kid.f k true y285 ([] : List ByteArray) ([] : List Int) (⟨#[106]⟩ : ByteArray)).bind fun t337 => (if t337 = (-1) then ((node_Size.f k true y285 ([] : List ByteArray) ([] : List Int)).bind fun t338 => (some (decide (t338 > 10)))) else (none))) else (none))) else (none))) else (none)) else (none)) else (none)) else (none)) else (none)) else (none)) else (none)) else (none)))) else (none))) else (none)))) else (none))))))) = some r := by first | (rw [hy285]; with_reducible exact H) | (have H2_ := (Option.bind_some _ _).symm.trans H; rw [hy285]; with_reducible exact H2_) | (have H2_ := (Option.bind_some _ _).symm.trans H; with_reducible exact H2_) | with_reducible exact H | (rw [hy285]; exact H) | exact H
 have Ny285 := Aside0.mk hy285
 clear hy285
 obtain ⟨y289, hy289⟩ : ∃ y_ : List ByteArray, y_ = (([(⟨#[107]⟩ : ByteArray)] : List ByteArray)) := ⟨_, rfl⟩
 replace H : ((some (([2, 3] : List Int) : List Int)).bind fun y292 => ((node_Encode.f k true y285 ([] : List ByteArray) ([] : List Int)).bind fun bt296 => ((node_Encode.f k false ([] : List (S62)) y289 y292).bind fun bt300 => ((node_Decode.f k bt300.1).bind fun bt304 => (if 256 ≤ 281474976710656 then ((node_Decode.f k (List.replicate 256 0)).bind fun bt319 => ((node_May.f k true y285 ([] : List ByteArray) ([] : List Int)).bind fun t331 => (if t331 = true then ((node_May.f k false ([] : List (S62)) y289 y292).bind fun t332 => (if t332 = true then ((node_May.f k false ([] : List (S62)) ([] : List ByteArray) ([] : List Int)).bind fun t333 => (if t333 = true then (none) else (if bt296.2 = 0 then (if bt300.2 = 0 then (if (bt296.1.length : Int) = 256 then (if 0 < (bt296.1.length : Int) then (if (rd bt296.1 0) = 1 then (if bt304.2.2.2.2 = 0 then (if (bt304.2.2.2.1.length : Int) = 2 then (if bt319.2.2.2.2 = 8 then ((node_Kid.f k false ([] : List (S62)) y289 y292 (⟨#[107]⟩ : ByteArray)).bind fun t335 => (if t335 = 1 then ((node_Kid.f k false ([] : List (S62)) y289 y292 (⟨#[106]⟩ : ByteArray)).bind fun t336 => (if t336 = 0 then ((node_Kid.f k true y285 ([] : List ByteArray) ([] : List Int) (⟨#[106]⟩ : ByteArray)).bind fun t337 => (if t337 = (-1) then ((node_Size.f k true y285 ([] : List ByteArray) ([] : List Int)).bind fun t338 => (some (decide (t338 > 10)))) else (none))) else (none))) else (none))) else (none)) else (none)) else (none)) else (none)) else (none)) else (none)) else (none)) else (none)))) else (none))) else (none)))) else (none)))))) = some r := by first | (rw [hy289]; with_reducible exact H) | (have H2_ := (Option.bind_some _ _).symm.trans H; rw [hy289]; with_reducible exact H2_) | (have H2_ := (Option.bind_some _ _).symm.trans H; with_reducible exact H2_) | with_reducible exact H | (rw [hy289]; exact H) | exact H
 have Ny289 := Aside0.mk hy289
 clear hy289
 obtain ⟨y292, hy292⟩ : ∃ y_ : List Int, y_ = (([2, 3] : List Int)) := ⟨_, rfl⟩
 replace H : ((node_Encode.f k true y285 ([] : List ByteArray) ([] : List Int)).bind fun bt296 => ((node_Encode.f k false ([] : List (S62)) y289 y292).bind fun bt300 => ((node_Decode.f k bt300.1).bind fun bt304 => (if 256 ≤ 281474976710656 then ((node_Decode.f k (List.replicate 256 0)).bind fun bt319 => ((node_May.f k true y285 ([] : List ByteArray) ([] : List Int)).bind fun t331 => (if t331 = true then ((node_May.f k false ([] : List (S62)) y289 y292).bind fun t332 => (if t332 = true then ((node_May.f k false ([] : List (S62)) ([] : List ByteArray) ([] : List Int)).bind fun t333 => (if t333 = true then (none) else (if bt296.2 = 0 then (if bt300.2 = 0 then (if (bt296.1.length : Int) = 256 then (if 0 < (bt296.1.length : Int) then (if (rd bt296.1 0) = 1 then (if bt304.2.2.2.2 = 0 then (if (bt304.2.2.2.1.length : Int) = 2 then (if bt319.2.2.2.2 = 8 then ((node_Kid.f k false ([] : List (S62)) y289 y292 (⟨#[107]⟩ : ByteArray)).bind fun t335 => (if t335 = 1 then ((node_Kid.f k false ([] : List (S62)) y289 y292 (⟨#[106]⟩ : ByteArray)).bind fun t336 => (if t336 = 0 then ((node_Kid.f k true y285 ([] : List ByteArray) ([] : List Int) (⟨#[106]⟩ : ByteArray)).bind fun t337 => (if t337 = (-1) then ((node_Size.f k true y285 ([] : List ByteArray) ([] : List Int)).bind fun t338 => (some (decide (t338 > 10)))) else (none))) else (none))) else (none))) else (none)) else (none)) else (none)) else (none)) else (none)) else (none)) else (none)) else (none)))) else (none))) else (none)))) else (none))))) = some r := by first | (rw [hy292]; with_reducible exact H) | (have H2_ := (Option.bind_some _ _).symm.trans H; rw [hy292]; with_reducible exact H2_) | (have H2_ := (Option.bind_some _ _).symm.trans H; with_reducible exact H2_) | with_reducible exact H | (rw [hy292]; exact H) | exact H
 have Ny292 := Aside0.mk hy292
 clear hy292
 replace H := Option.bind_eq_some_iff.mp H
 obtain ⟨⟨t296, t299⟩, A10, H⟩ := H
 replace H : ((node_Encode.f k false ([] : List (S62)) y289 y292).bind fun bt300 => ((node_Decode.f k bt300.1).bind fun bt304 => (if 256 ≤ 281474976710656 then ((node_Decode.f k (List.replicate 256 0)).bind fun bt319 => ((node_May.f k true y285 ([] : List ByteArray) ([] : List Int)).bind fun t331 => (if t331 = true then ((node_May.f k false ([] : List (S62)) y289 y292).bind fun t332 => (if t332 = true then ((node_May.f k false ([] : List (S62)) ([] : List ByteArray) ([] : List Int)).bind fun t333 => (if t333 = true then (none) else (if t299 = 0 then (if bt300.2 = 0 then (if (t296.length : Int) = 256 then (if 0 < (t296.length : Int) then (if (rd t296 0) = 1 then (if bt304.2.2.2.2 = 0 then (if (bt304.2.2.2.1.length : Int) = 2 then (if bt319.2.2.2.2 = 8 then ((node_Kid.f k false ([] : List (S62)) y289 y292 (⟨#[107]⟩ : ByteArray)).bind fun t335 => (if t335 = 1 then ((node_Kid.f k false ([] : List (S62)) y289 y292 (⟨#[106]⟩ : ByteArray)).bind fun t336 => (if t336 = 0 then ((node_Kid.f k true y285 ([] : List ByteArray) ([] : List Int) (⟨#[106]⟩ : ByteArray)).bind fun t337 => (if t337 = (-1) then ((node_Size.f k true y285 ([] : List ByteArray) ([] : List Int)).bind fun t338 => (some (decide (t338 > 10)))) else (none))) else (none))) else (none))) else (none)) else (none)) else (none)) else (none)) else (none)) else (none)) else (none)) else (none)))) else (none))) else (none)))) else (none)))) = some r := H
 have A1 := Aside0.mk A10
 clear A10
 replace H := Option.bind_eq_some_iff.mp H
 obtain ⟨⟨t300, t303⟩, A20, H⟩ := H
 replace H : ((node_Decode.f k t300).bind fun bt304 => (if 256 ≤ 281474976710656 then ((node_Decode.f k (List.replicate 256 0)).bind fun bt319 => ((node_May.f k true y285 ([] : List ByteArray) ([] : List Int)).bind fun t331 => (if t331 = true then ((node_May.f k false ([] : List (S62)) y289 y292).bind fun t332 => (if t332 = true then ((node_May.f k false ([] : List (S62)) ([] : List ByteArray) ([] : List Int)).bind fun t333 => (if t333 = true then (none) else (if t299 = 0 then (if t303 = 0 then (if (t296.length : Int) = 256 then (if 0 < (t296.length : Int) then (if (rd t296 0) = 1 then (if bt304.2.2.2.2 = 0 then (if (bt304.2.2.2.1.length : Int) = 2 then (if bt319.2.2.2.2 = 8 then ((node_Kid.f k false ([] : List (S62)) y289 y292 (⟨#[107]⟩ : ByteArray)).bind fun t335 => (if t335 = 1 then ((node_Kid.f k false ([] : List (S62)) y289 y292 (⟨#[106]⟩ : ByteArray)).bind fun t336 => (if t336 = 0 then ((node_Kid.f k true y285 ([] : List ByteArray) ([] : List Int) (⟨#[106]⟩ : ByteArray)).bind fun t337 => (if t337 = (-1) then ((node_Size.f k true y285 ([] : List ByteArray) ([] : List Int)).bind fun t338 => (some (decide (t338 > 10)))) else (none))) else (none))) else (none))) else (none)) else (none)) else (none)) else (none)) else (none)) else (none)) else (none)) else (none)))) else (none))) else (none)))) else (none))) = some r := H
 have A2 := Aside0.mk A20
 clear A20
 replace H := Option.bind_eq_some_iff.mp H
 obtain ⟨⟨t304, t305, t308, t311, t314⟩, A30, H⟩ := H
 replace H : (if 256 ≤ 281474976710656 then ((node_Decode.f k (List.replicate 256 0)).bind fun bt319 => ((node_May.f k true y285 ([] : List ByteArray) ([] : List Int)).bind fun t331 => (if t331 = true then ((node_May.f k false ([] : List (S62)) y289 y292).bind fun t332 => (if t332 = true then ((node_May.f k false ([] : List (S62)) ([] : List ByteArray) ([] : List Int)).bind fun t333 => (if t333 = true then (none) else (if t299 = 0 then (if t303 = 0 then (if (t296.length : Int) = 256 then (if 0 < (t296.length : Int) then (if (rd t296 0) = 1 then (if t314 = 0 then (if (t311.length : Int) = 2 then (if bt319.2.2.2.2 = 8 then ((node_Kid.f k false ([] : List (S62)) y289 y292 (⟨#[107]⟩ : ByteArray)).bind fun t335 => (if t335 = 1 then ((node_Kid.f k false ([] : List (S62)) y289 y292 (⟨#[106]⟩ : ByteArray)).bind fun t336 => (if t336 = 0 then ((node_Kid.f k true y285 ([] : List ByteArray) ([] : List Int) (⟨#[106]⟩ : ByteArray)).bind fun t337 => (if t337 = (-1) then ((node_Size.f k true y285 ([] : List ByteArray) ([] : List Int)).bind fun t338 => (some (decide (t338 > 10)))) else (none))) else (none))) else (none))) else (none)) else (none)) else (none)) else (none)) else (none)) else (none)) else (none)) else (none)))) else (none))) else (none)))) else (none)) = some r := H
 have A3 := Aside0.mk A30
 clear A30
 by_cases c4 : 256 ≤ 281474976710656
 rotate_left
 ·rw [if_neg c4] at H
  exact absurd H (by simp)
 rw [if_pos c4] at H
 have c4b0 := eq_true c4
 have c4b1 : decide (256 ≤ 281474976710656) = true := decide_eq_true c4
 clear c4
 obtain ⟨y316, hy316⟩ : ∃ y_ : List Int, y_ = (List.replicate 256 0) := ⟨_, rfl⟩
 replace H : ((node_Decode.f k y316).bind fun bt319 => ((node_May.f k true y285 ([] : List ByteArray) ([] : List Int)).bind fun t331 => (if t331 = true then ((node_May.f k false ([] : List (S62)) y289 y292).bind fun t332 => (if t332 = true then ((node_May.f k false ([] : List (S62)) ([] : List ByteArray) ([] : List Int)).bind fun t333 => (if t333 = true then (none) else (if t299 = 0 then (if t303 = 0 then (if (t296.length : Int) = 256 then (if 0 < (t296.length : Int) then (if (rd t296 0) = 1 then (if t314 = 0 then (if (t311.length : Int) = 2 then (if bt319.2.2.2.2 = 8 then ((node_Kid.f k false ([] : List (S62)) y289 y292 (⟨#[107]⟩ : ByteArray)).bind fun t335 => (if t335 = 1 then ((node_Kid.f k false ([] : List (S62)) y289 y292 (⟨#[106]⟩ : ByteArray)).bind fun t336 => (if t336 = 0 then ((node_Kid.f k true y285 ([] : List ByteArray) ([] : List Int) (⟨#[106]⟩ : ByteArray)).bind fun t337 => (if t337 = (-1) then ((node_Size.f k true y285 ([] : List ByteArray) ([] : List Int)).bind fun t338 => (some (decide (t338 > 10)))) else (none))) else (none))) else (none))) else (none)) else (none)) else (none)) else (none)) else (none)) else (none)) else (none)) else (none)))) else (none))) else (none)))) = some r := by first | (rw [hy316]; with_reducible exact H) | (have H2_ := (Option.bind_some _ _).symm.trans H; rw [hy316]; with_reducible exact H2_) | (have H2_ := (Option.bind_some _ _).symm.trans H; with_reducible exact H2_) | with_reducible exact H | (rw [hy316]; exact H) | exact H
 have Ny316 := Aside0.mk hy316
 clear hy316
 replace H := Option.bind_eq_some_iff.mp H
 obtain ⟨⟨t319, t320, t323, t326, t329⟩, A50, H⟩ := H
 replace H : ((node_May.f k true y285 ([] : List ByteArray) ([] : List Int)).bind fun t331 => (if t331 = true then ((node_May.f k false ([] : List (S62)) y289 y292).bind fun t332 => (if t332 = true then ((node_May.f k false ([] : List (S62)) ([] : List ByteArray) ([] : List Int)).bind fun t333 => (if t333 = true then (none) else (if t299 = 0 then (if t303 = 0 then (if (t296.length : Int) = 256 then (if 0 < (t296.length : Int) then (if (rd t296 0) = 1 then (if t314 = 0 then (if (t311.length : Int) = 2 then (if t329 = 8 then ((node_Kid.f k false ([] : List (S62)) y289 y292 (⟨#[107]⟩ : ByteArray)).bind fun t335 => (if t335 = 1 then ((node_Kid.f k false ([] : List (S62)) y289 y292 (⟨#[106]⟩ : ByteArray)).bind fun t336 => (if t336 = 0 then ((node_Kid.f k true y285 ([] : List ByteArray) ([] : List Int) (⟨#[106]⟩ : ByteArray)).bind fun t337 => (if t337 = (-1) then ((node_Size.f k true y285 ([] : List ByteArray) ([] : List Int)).bind fun t338 => (some (decide (t338 > 10)))) else (none))) else (none))) else (none))) else (none)) else (none)) else (none)) else (none)) else (none)) else (none)) else (none)) else (none)))) else (none))) else (none))) = some r := H
 have A5 := Aside0.mk A50
 clear A50
 replace H := Option.bind_eq_some_iff.mp H
 obtain ⟨t331, A60, H⟩ := H
 replace H : (if t331 = true then ((node_May.f k false ([] : List (S62)) y289 y292).bind fun t332 => (if t332 = true then ((node_May.f k false ([] : List (S62)) ([] : List ByteArray) ([] : List Int)).bind fun t333 => (if t333 = true then (none) else (if t299 = 0 then (if t303 = 0 then (if (t296.length : Int) = 256 then (if 0 < (t296.length : Int) then (if (rd t296 0) = 1 then (if t314 = 0 then (if (t311.length : Int) = 2 then (if t329 = 8 then ((node_Kid.f k false ([] : List (S62)) y289 y292 (⟨#[107]⟩ : ByteArray)).bind fun t335 => (if t335 = 1 then ((node_Kid.f k false ([] : List (S62)) y289 y292 (⟨#[106]⟩ : ByteArray)).bind fun t336 => (if t336 = 0 then ((node_Kid.f k true y285 ([] : List ByteArray) ([] : List Int) (⟨#[106]⟩ : ByteArray)).bind fun t337 => (if t337 = (-1) then ((node_Size.f k true y285 ([] : List ByteArray) ([] : List Int)).bind fun t338 => (some (decide (t338 > 10)))) else (none))) else (none))) else (none))) else (none)) else (none)) else (none)) else (none)) else (none)) else (none)) else (none)) else (none)))) else (none))) else (none)) = some r := H
 have A6 := Aside0.mk A60
 clear A60
 by_cases c7 : t331 = true
 rotate_left
 ·replace c7 := Bool.eq_false_iff.mpr c7
  subst c7
  have H1 : (none) = some r := by rw [if_neg (show ¬ (false = true) by decide)] at H; exact H
  clear H
  have H := H1
  clear H1
  exact absurd H (by simp)
 subst c7
 have H1 : ((node_May.f k false ([] : List (S62)) y289 y292).bind fun t332 => (if t332 = true then ((node_May.f k false ([] : List (S62)) ([] : List ByteArray) ([] : List Int)).bind fun t333 => (if t333 = true then (none) else (if t299 = 0 then (if t303 = 0 then (if (t296.length : Int) = 256 then (if 0 < (t296.length : Int) then (if (rd t296 0) = 1 then (if t314 = 0 then (if (t311.length : Int) = 2 then (if t329 = 8 then ((node_Kid.f k false ([] : List (S62)) y289 y292 (⟨#[107]⟩ : ByteArray)).bind fun t335 => (if t335 = 1 then ((node_Kid.f k false ([] : List (S62)) y289 y292 (⟨#[106]⟩ : ByteArray)).bind fun t336 => (if t336 = 0 then ((node_Kid.f k true y285 ([] : List ByteArray) ([] : List Int) (⟨#[106]⟩ : ByteArray)).bind fun t337 => (if t337 = (-1) then ((node_Size.f k true y285 ([] : List ByteArray) ([] : List Int)).bind fun t338 => (some (decide (t338 > 10)))) else (none))) else (none))) else (none))) else (none)) else (none)) else (none)) else (none)) else (none)) else (none)) else (none)) else (none)))) else (none))) = some r := by rw [if_pos rfl] at H; exact H
 clear H
 have H := H1
 clear H1
 replace H := Option.bind_eq_some_iff.mp H
 obtain ⟨t332, A80, H⟩ := H
 replace H : (if t332 = true then ((node_May.f k false ([] : List (S62)) ([] : List ByteArray) ([] : List Int)).bind fun t333 => (if t333 = true then (none) else (if t299 = 0 then (if t303 = 0 then (if (t296.length : Int) = 256 then (if 0 < (t296.length : Int) then (if (rd t296 0) = 1 then (if t314 = 0 then (if (t311.length : Int) = 2 then (if t329 = 8 then ((node_Kid.f k false ([] : List (S62)) y289 y292 (⟨#[107]⟩ : ByteArray)).bind fun t335 => (if t335 = 1 then ((node_Kid.f k false ([] : List (S62)) y289 y292 (⟨#[106]⟩ : ByteArray)).bind fun t336 => (if t336 = 0 then ((node_Kid.f k true y285 ([] : List ByteArray) ([] : List Int) (⟨#[106]⟩ : ByteArray)).bind fun t337 => (if t337 = (-1) then ((node_Size.f k true y285 ([] : List ByteArray) ([] : List Int)).bind fun t338 => (some (decide (t338 > 10)))) else (none))) else (none))) else (none))) else (none)) else (none)) else (none)) else (none)) else (none)) else (none)) else (none)) else (none)))) else (none)) = some r := H
 have A8 := Aside0.mk A80
 clear A80
 by_cases c9 : t332 = true
 rotate_left
 ·replace c9 := Bool.eq_false_iff.mpr c9
  subst c9
  have H1 : (none) = some r := by rw [if_neg (show ¬ (false = true) by decide)] at H; exact H
  clear H
  have H := H1
  clear H1
  exact absurd H (by simp)
 subst c9
 have H1 : ((node_May.f k false ([] : List (S62)) ([] : List ByteArray) ([] : List Int)).bind fun t333 => (if t333 = true then (none) else (if t299 = 0 then (if t303 = 0 then (if (t296.length : Int) = 256 then (if 0 < (t296.length : Int) then (if (rd t296 0) = 1 then (if t314 = 0 then (if (t311.length : Int) = 2 then (if t329 = 8 then ((node_Kid.f k false ([] : List (S62)) y289 y292 (⟨#[107]⟩ : ByteArray)).bind fun t335 => (if t335 = 1 then ((node_Kid.f k false ([] : List (S62)) y289 y292 (⟨#[106]⟩ : ByteArray)).bind fun t336 => (if t336 = 0 then ((node_Kid.f k true y285 ([] : List ByteArray) ([] : List Int) (⟨#[106]⟩ : ByteArray)).bind fun t337 => (if t337 = (-1) then ((node_Size.f k true y285 ([] : List ByteArray) ([] : List Int)).bind fun t338 => (some (decide (t338 > 10)))) else (none))) else (none))) else (none))) else (none)) else (none)) else (none)) else (none)) else (none)) else (none)) else (none)) else (none)))) = some r := by rw [if_pos rfl] at H; exact H
 clear H
 have H := H1
 clear H1
 replace H := Option.bind_eq_some_iff.mp H
 obtain ⟨t333, A100, H⟩ := H
 replace H : (if t333 = true then (none) else (if t299 = 0 then (if t303 = 0 then (if (t296.length : Int) = 256 then (if 0 < (t296.length : Int) then (if (rd t296 0) = 1 then (if t314 = 0 then (if (t311.length : Int) = 2 then (if t329 = 8 then ((node_Kid.f k false ([] : List (S62)) y289 y292 (⟨#[107]⟩ : ByteArray)).bind fun t335 => (if t335 = 1 then ((node_Kid.f k false ([] : List (S62)) y289 y292 (⟨#[106]⟩ : ByteArray)).bind fun t336 => (if t336 = 0 then ((node_Kid.f k true y285 ([] : List ByteArray) ([] : List Int) (⟨#[106]⟩ : ByteArray)).bind fun t337 => (if t337 = (-1) then ((node_Size.f k true y285 ([] : List ByteArray) ([] : List Int)).bind fun t338 => (some (decide (t338 > 10)))) else (none))) else (none))) else (none))) else (none)) else (none)) else (none)) else (none)) else (none)) else (none)) else (none)) else (none))) = some r := H
 have A10 := Aside0.mk A100
 clear A100
 by_cases c11 : t333 = true
 ·subst c11
  have H1 : (none) = some r := by rw [if_pos rfl] at H; exact H
  clear H
  have H := H1
  clear H1
  exact absurd H (by simp)
 replace c11 := Bool.eq_false_iff.mpr c11
 subst c11
 have H1 : (if t299 = 0 then (if t303 = 0 then (if (t296.length : Int) = 256 then (if 0 < (t296.length : Int) then (if (rd t296 0) = 1 then (if t314 = 0 then (if (t311.length : Int) = 2 then (if t329 = 8 then ((node_Kid.f k false ([] : List (S62)) y289 y292 (⟨#[107]⟩ : ByteArray)).bind fun t335 => (if t335 = 1 then ((node_Kid.f k false ([] : List (S62)) y289 y292 (⟨#[106]⟩ : ByteArray)).bind fun t336 => (if t336 = 0 then ((node_Kid.f k true y285 ([] : List ByteArray) ([] : List Int) (⟨#[106]⟩ : ByteArray)).bind fun t337 => (if t337 = (-1) then ((node_Size.f k true y285 ([] : List ByteArray) ([] : List Int)).bind fun t338 => (some (decide (t338 > 10)))) else (none))) else (none))) else (none))) else (none)) else (none)) else (none)) else (none)) else (none)) else (none)) else (none)) else (none)) = some r := by rw [if_neg (show ¬ (false = true) by decide)] at H; exact H
 clear H
 have H := H1
 clear H1
 by_cases c12 : t299 = 0
 rotate_left
 ·rw [if_neg c12] at H
  exact absurd H (by simp)
 rw [if_pos c12] at H
 have c12b0 : (t299 == 0) = true := beq_iff_eq.mpr c12
 have c12b1 : (t299 != 0) = false := bne_eq_false_iff_eq.mpr c12
 clear c12
 by_cases c13 : t303 = 0
 rotate_left
 ·rw [if_neg c13] at H
  exact absurd H (by simp)
 rw [if_pos c13] at H
 have c13b0 : (t303 == 0) = true := beq_iff_eq.mpr c13
 have c13b1 : (t303 != 0) = false := bne_eq_false_iff_eq.mpr c13
 clear c13
 by_cases c14 : (t296.length : Int) = 256
 rotate_left
 ·rw [if_neg c14] at H
  exact absurd H (by simp)
 rw [if_pos c14] at H
 have c14b0 : ((t296.length : Int) == 256) = true := beq_iff_eq.mpr c14
 have c14b1 : ((t296.length : Int) != 256) = false := bne_eq_false_iff_eq.mpr c14
 clear c14
 by_cases c15 : 0 < (t296.length : Int)
 rotate_left
 ·rw [if_neg c15] at H
  exact absurd H (by simp)
 rw [if_pos c15] at H
 have c15b0 : decide (0 < (t296.length : Int)) = true := decide_eq_true c15
 have c15b1 : decide (0 < t296.length) = true := decide_eq_true (by omega)
 clear c15
 by_cases c16 : (rd t296 0) = 1
 rotate_left
 ·rw [if_neg c16] at H
  exact absurd H (by simp)
 rw [if_pos c16] at H
 have c16b0 : ((rd t296 0) == 1) = true := beq_iff_eq.mpr c16
 have c16b1 : ((rd t296 0) != 1) = false := bne_eq_false_iff_eq.mpr c16
 clear c16
 by_cases c17 : t314 = 0
 rotate_left
 ·rw [if_neg c17] at H
  exact absurd H (by simp)
 rw [if_pos c17] at H
 have c17b0 : (t314 == 0) = true := beq_iff_eq.mpr c17
 have c17b1 : (t314 != 0) = false := bne_eq_false_iff_eq.mpr c17
 clear c17
 by_cases c18 : (t311.length : Int) = 2
 rotate_left
 ·rw [if_neg c18] at H
  exact absurd H (by simp)
 rw [if_pos c18] at H
 have c18b0 : ((t311.length : Int) == 2) = true := beq_iff_eq.mpr c18
 have c18b1 : ((t311.length : Int) != 2) = false := bne_eq_false_iff_eq.mpr c18
 clear c18
 by_cases c19 : t329 = 8
 rotate_left
 ·rw [if_neg c19] at H
  exact absurd H (by simp)
 rw [if_pos c19] at H
 have c19b0 : (t329 == 8) = true := beq_iff_eq.mpr c19
 have c19b1 : (t329 != 8) = false := bne_eq_false_iff_eq.mpr c19
 clear c19
 replace H := Option.bind_eq_some_iff.mp H
 obtain ⟨t335, A200, H⟩ := H
 replace H : (if t335 = 1 then ((node_Kid.f k false ([] : List (S62)) y289 y292 (⟨#[106]⟩ : ByteArray)).bind fun t336 => (if t336 = 0 then ((node_Kid.f k true y285 ([] : List ByteArray) ([] : List Int) (⟨#[106]⟩ : ByteArray)).bind fun t337 => (if t337 = (-1) then ((node_Size.f k true y285 ([] : List ByteArray) ([] : List Int)).bind fun t338 => (some (decide (t338 > 10)))) else (none))) else (none))) else (none)) = some r := H
 have A20 := Aside0.mk A200
 clear A200
 by_cases c21 : t335 = 1
 rotate_left
 ·rw [if_neg c21] at H
  exact absurd H (by simp)
 rw [if_pos c21] at H
 have c21b0 : (t335 == 1) = true := beq_iff_eq.mpr c21
 have c21b1 : (t335 != 1) = false := bne_eq_false_iff_eq.mpr c21
 clear c21
 replace H := Option.bind_eq_some_iff.mp H
 obtain ⟨t336, A220, H⟩ := H
 replace H : (if t336 = 0 then ((node_Kid.f k true y285 ([] : List ByteArray) ([] : List Int) (⟨#[106]⟩ : ByteArray)).bind fun t337 => (if t337 = (-1) then ((node_Size.f k true y285 ([] : List ByteArray) ([] : List Int)).bind fun t338 => (some (decide (t338 > 10)))) else (none))) else (none)) = some r := H
 have A22 := Aside0.mk A220
 clear A220
 by_cases c23 : t336 = 0
 rotate_left
 ·rw [if_neg c23] at H
  exact absurd H (by simp)
 rw [if_pos c23] at H
 have c23b0 : (t336 == 0) = true := beq_iff_eq.mpr c23
 have c23b1 : (t336 != 0) = false := bne_eq_false_iff_eq.mpr c23
 clear c23
 replace H := Option.bind_eq_some_iff.mp H
 obtain ⟨t337, A240, H⟩ := H
 replace H : (if t337 = (-1) then ((node_Size.f k true y285 ([] : List ByteArray) ([] : List Int)).bind fun t338 => (some (decide (t338 > 10)))) else (none)) = some r := H
 have A24 := Aside0.mk A240
 clear A240
 by_cases c25 : t337 = (-1)
 rotate_left
 ·rw [if_neg c25] at H
  exact absurd H (by simp)
 rw [if_pos c25] at H
 have c25b0 : (t337 == (-1)) = true := beq_iff_eq.mpr c25
 have c25b1 : (t337 != (-1)) = false := bne_eq_false_iff_eq.mpr c25
 clear c25
 replace H := Option.bind_eq_some_iff.mp H
 obtain ⟨t338, A260, H⟩ := H
 replace H : (some (decide (t338 > 10))) = some r := H
 have A26 := Aside0.mk A260
 clear A260
 obtain rfl := Option.some.inj H
 go_enter Try.func11, Try.ntmps11
 go_wp2_with (first | ((with_reducible refine gate_dst (N := 13) rfl ?_); (try (refine gate_guard (by rfl) ?_; dsimp only)); refine Kd.R_lit k62 _ 62 ?hg (N := 13) ?hd (xs := ([(⟨(⟨#[97]⟩ : ByteArray), (⟨1, 4607182418800017408, (⟨#[]⟩ : ByteArray)⟩ : S54), 0, (⟨0, 0, (⟨#[]⟩ : ByteArray)⟩ : S54)⟩ : S62)] : List (S62))) (inner := [.string (⟨#[97]⟩ : ByteArray), .int .i64 1, .float .f64 4607182418800017408, .string (⟨#[]⟩ : ByteArray), .int .i64 0, .int .i64 0, .float .f64 0, .string (⟨#[]⟩ : ByteArray)]) (ok := fun _ => True) (okp := fun _ => True) ?hr ?hp (fun _ hk => hk) trivial (Below.refl _ _) (Nat.le_refl _) (by simp) ?_; (case hd => rfl); (case hg => rfl); (case hr => first | (go_simp; done) | (go_simp; rfl)); (case hp => exact (Reps.c8 (show Kd.M k62 _ _ _ (⟨(⟨#[97]⟩ : ByteArray), (⟨1, 4607182418800017408, (⟨#[]⟩ : ByteArray)⟩ : S54), 0, (⟨0, 0, (⟨#[]⟩ : ByteArray)⟩ : S54)⟩ : S62) [.string (⟨#[97]⟩ : ByteArray), .int .i64 1, .float .f64 4607182418800017408, .string (⟨#[]⟩ : ByteArray), .int .i64 0, .int .i64 0, .float .f64 0, .string (⟨#[]⟩ : ByteArray)] from (k62_mkM _ _ _ (⟨(⟨#[97]⟩ : ByteArray), (⟨1, 4607182418800017408, (⟨#[]⟩ : ByteArray)⟩ : S54), 0, (⟨0, 0, (⟨#[]⟩ : ByteArray)⟩ : S54)⟩ : S62) )) (Reps.none _ _))); intro v286 w27 ho28 hb hg_ hnew_; clear hg_ hnew_; (first | rw [← Ny285.out] at ho28 | (simp only [Int.reduceToNat] at ho28; rw [← Ny285.out] at ho28)); have HO287 := Aside0.mk (Kd.R_lower ho28 (below_size (bC HB))); replace HB := bW HB hb; clear hb ho28; obtain ⟨Ao29, co29, eo29⟩ := Kd.R_slice HO287.out; subst eo29) | ((with_reducible refine gate_dst (N := 1) rfl ?_); (try (refine gate_guard (by rfl) ?_; dsimp only)); refine box_event ?hg (N := 1) ?hd (cs := #[.bool false, .slice none 0 0, .slice none 0 0, .slice none 0 0]) (t := 36) ?hr ?_; (case hd => rfl); (case hg => rfl); (case hr => first | (go_simp; done) | (go_simp; rfl)); intro gb288 hg w30 hbox hb; have BK288 := Aside0.mk (hbox); have GW288 := bZ HB hg; have GE288 := bZ HB hg; replace HO287 := rB HO287 hb; replace HB := bW HB hb; clear hb hbox hg; obtain ⟨hcz31_0, hcz31_1, hcz31_2, hcz31_3, hfz31_0, hfz31_1, hfz31_2, hfz31_3⟩ := bf4 (w := w30) BK288) | ((with_reducible refine gate_dst (N := 15) rfl ?_); (try (refine gate_guard (by rfl) ?_; dsimp only)); refine Kd.R_lit Kd.string _ 9 ?hg (N := 15) ?hd (xs := ([(⟨#[107]⟩ : ByteArray)] : List ByteArray)) (inner := [.string (⟨#[107]⟩ : ByteArray)]) (ok := fun _ => True) (okp := fun _ => True) ?hr ?hp (fun _ hk => hk) trivial (Below.refl _ _) (Nat.le_refl _) (by simp) ?_; (case hd => rfl); (case hg => rfl); (case hr => first | (go_simp; done) | (go_simp; rfl)); (case hp => exact (Reps.one (show Kd.M Kd.string _ _ _ (⟨#[107]⟩ : ByteArray) [.string (⟨#[107]⟩ : ByteArray)] from rfl) (Reps.none _ _))); intro v290 w32 ho33 hb hg_ hnew_; clear hg_ hnew_; (first | rw [← Ny289.out] at ho33 | (simp only [Int.reduceToNat] at ho33; rw [← Ny289.out] at ho33)); have HO291 := Aside0.mk (Kd.R_lower ho33 (below_size (bC HB))); replace HO287 := Aside0.mk (Kd.R_below (by (with_reducible repeat (first | apply Kd.R_alloc | apply Kd.R_drewN | apply Kd.R_drew)); exact (Kd.R_mono (Kd.R_far (p := ⟨gb288, 3, none⟩) (Kd.R_far (p := ⟨gb288, 2, none⟩) (Kd.R_far (p := ⟨gb288, 1, none⟩) (Kd.R_far (p := ⟨gb288, 0, none⟩) (Kd.R_types HO287.out BK288.out (by decide)) (fun _ hk => hk.2) (.bool true)) (fun _ hk => hk.2) (.slice Ao29 y285.length co29)) (fun _ hk => hk.2) (.slice none 0 0)) (fun _ hk => hk.2) (.slice none 0 0)) (fun _ h_ => h_.1))) hb); replace BK288 := Aside0.mk (blk_below (g := gb288) (o := .cells #[.bool true, .slice Ao29 y285.length co29, .slice none 0 0, .slice none 0 0] 36 (0, 0)) (bR BK288) hb); replace HB := bW HB hb; clear hb ho33) | ((with_reducible refine gate_dst (N := 16) rfl ?_); (try (refine gate_guard (by rfl) ?_; dsimp only)); refine Kd.R_lit (Kd.int .i64) _ 3 ?hg (N := 16) ?hd (xs := ([2, 3] : List Int)) (inner := [.int .i64 2, .int .i64 3]) (ok := fun _ => True) (okp := fun _ => True) ?hr ?hp (fun _ hk => hk) trivial (Below.refl _ _) (Nat.le_refl _) (by simp) ?_; (case hd => rfl); (case hg => rfl); (case hr => first | (go_simp; done) | (go_simp; rfl)); (case hp => exact (Reps.one (show Kd.M (Kd.int .i64) _ _ _ 2 [.int .i64 2] from rfl) (Reps.one (show Kd.M (Kd.int .i64) _ _ _ 3 [.int .i64 3] from rfl) (Reps.none _ _)))); intro v293 w34 ho35 hb hg_ hnew_; clear hg_ hnew_; (first | rw [← Ny292.out] at ho35 | (simp only [Int.reduceToNat] at ho35; rw [← Ny292.out] at ho35)); have HO294 := Aside0.mk (Kd.R_lower ho35 (below_size (bC HB))); replace HO287 := rB HO287 hb; replace HO291 := rB HO291 hb; replace BK288 := bB BK288 hb; replace HB := bW HB hb; clear hb ho35; obtain ⟨Ao36, co36, eo36⟩ := Kd.R_slice HO294.out; subst eo36; obtain ⟨Ao37, co37, eo37⟩ := Kd.R_slice HO291.out; subst eo37) | ((with_reducible refine gate_dst (N := 2) rfl ?_); (try (refine gate_guard (by rfl) ?_; dsimp only)); refine box_event ?hg (N := 2) ?hd (cs := #[.bool false, .slice none 0 0, .slice none 0 0, .slice none 0 0]) (t := 36) ?hr ?_; (case hd => rfl); (case hg => rfl); (case hr => first | (go_simp; done) | (go_simp; rfl)); intro gb295 hg w38 hbox hb; have BK295 := Aside0.mk (hbox); have GW295 := bZ HB hg; have GE295 := bZ HB hg; have NB288_295 := bL BK288 hg; have NB295_288 := bG BK288 hg; replace HO287 := rB HO287 hb; replace HO291 := rB HO291 hb; replace HO294 := rB HO294 hb; replace BK288 := bB BK288 hb; replace HB := bW HB hb; clear hb hbox hg; have hnb39 := NB295_288.out; have hnc39 := NB288_295.out; obtain ⟨hcz40_0, hcz40_1, hcz40_2, hcz40_3, hfz40_0, hfz40_1, hfz40_2, hfz40_3⟩ := bf4 (w := w38) BK295; obtain ⟨hcz41_0, hcz41_1, hcz41_2, hcz41_3, hfz41_0, hfz41_1, hfz41_2, hfz41_3⟩ := bf4 (w := w38) BK288) | (go_at_call 19; refine calls_of_args (args' := #[.agg #[.bool true, .slice Ao29 y285.length co29, .slice none ([] : List ByteArray).length 0, .slice none ([] : List Int).length 0]]) (by first | rfl | ((try simp only [List.map_toArray, List.map_cons, List.map_nil]); rfl)) ?_; (with_reducible refine (node_Encode.calls k true _ _ y285 _ _ ([] : List ByteArray) _ _ ([] : List Int) t296 t299 _ ?side1 ?side2 ?side3 ?side4 ?side5 ?side6 A1.out).mono ?_); (case side1 => refine (Kd.R_reads' (e := 62) (base := w.heap.size) (ok := fun k_ => True) (n := y285.length) (c := co29) ?_).2.2; exact (by (with_reducible repeat (first | apply Kd.R_alloc | apply Kd.R_drewN | apply Kd.R_drew)); exact (Kd.R_mono (Kd.R_far (p := ⟨gb295, 3, none⟩) (Kd.R_far (p := ⟨gb295, 2, none⟩) (Kd.R_far (p := ⟨gb295, 1, none⟩) (Kd.R_far (p := ⟨gb295, 0, none⟩) (Kd.R_types HO287.out BK295.out (by decide)) (fun _ hk => hk.2) (.bool false)) (fun _ hk => hk.2) (.slice none 0 0)) (fun _ hk => hk.2) (.slice Ao37 y289.length co37)) (fun _ hk => hk.2) (.slice Ao36 y292.length co36)) (fun _ h_ => h_.1)))); (case side2 => exact (Kd.R_reads' HO287.out).2.1); (case side3 => exact Kd.C_nil _ _); (case side4 => exact Nat.le_refl _); (case side5 => exact Kd.C_nil _ _); (case side6 => exact Nat.le_refl _); rintro e w42 ⟨v297, rfl, ho0, hb⟩; have HO298 := Aside0.mk (Kd.R_lower ho0 (below_size (bC HB))); replace HO287 := Aside0.mk (Kd.R_below (by (with_reducible repeat (first | apply Kd.R_alloc | apply Kd.R_drewN | apply Kd.R_drew)); exact (Kd.R_mono (Kd.R_far (p := ⟨gb295, 3, none⟩) (Kd.R_far (p := ⟨gb295, 2, none⟩) (Kd.R_far (p := ⟨gb295, 1, none⟩) (Kd.R_far (p := ⟨gb295, 0, none⟩) (Kd.R_types HO287.out BK295.out (by decide)) (fun _ hk => hk.2) (.bool false)) (fun _ hk => hk.2) (.slice none 0 0)) (fun _ hk => hk.2) (.slice Ao37 y289.length co37)) (fun _ hk => hk.2) (.slice Ao36 y292.length co36)) (fun _ h_ => h_.1))) hb); replace HO291 := Aside0.mk (Kd.R_below (by (with_reducible repeat (first | apply Kd.R_alloc | apply Kd.R_drewN | apply Kd.R_drew)); exact (Kd.R_mono (Kd.R_far (p := ⟨gb295, 3, none⟩) (Kd.R_far (p := ⟨gb295, 2, none⟩) (Kd.R_far (p := ⟨gb295, 1, none⟩) (Kd.R_far (p := ⟨gb295, 0, none⟩) (Kd.R_types HO291.out BK295.out (by decide)) (fun _ hk => hk.2) (.bool false)) (fun _ hk => hk.2) (.slice none 0 0)) (fun _ hk => hk.2) (.slice Ao37 y289.length co37)) (fun _ hk => hk.2) (.slice Ao36 y292.length co36)) (fun _ h_ => h_.1))) hb); replace HO294 := Aside0.mk (Kd.R_below (by (with_reducible repeat (first | apply Kd.R_alloc | apply Kd.R_drewN | apply Kd.R_drew)); exact (Kd.R_mono (Kd.R_far (p := ⟨gb295, 3, none⟩) (Kd.R_far (p := ⟨gb295, 2, none⟩) (Kd.R_far (p := ⟨gb295, 1, none⟩) (Kd.R_far (p := ⟨gb295, 0, none⟩) (Kd.R_types HO294.out BK295.out (by decide)) (fun _ hk => hk.2) (.bool false)) (fun _ hk => hk.2) (.slice none 0 0)) (fun _ hk => hk.2) (.slice Ao37 y289.length co37)) (fun _ hk => hk.2) (.slice Ao36 y292.length co36)) (fun _ h_ => h_.1))) hb); replace BK288 := bB BK288 hb; replace BK295 := Aside0.mk (blk_below (g := gb295) (o := .cells #[.bool false, .slice none 0 0, .slice Ao37 y289.length co37, .slice Ao36 y292.length co36] 36 (0, 0)) (bR BK295) hb); replace HB := bW HB hb; (try clear hb); (try clear hb2); (try clear hk); (try clear hi); (try clear ho0); obtain ⟨hcz43_0, hcz43_1, hcz43_2, hcz43_3, hfz43_0, hfz43_1, hfz43_2, hfz43_3⟩ := bf4 (w := w42) BK295) | (go_at_call 19; refine calls_of_args (args' := #[.agg #[.bool false, .slice none ([] : List (S62)).length 0, .slice Ao37 y289.length co37, .slice Ao36 y292.length co36]]) (by first | rfl | ((try simp only [List.map_toArray, List.map_cons, List.map_nil]); rfl)) ?_; (with_reducible refine (node_Encode.calls k false _ _ ([] : List (S62)) _ _ y289 _ _ y292 t300 t303 _ ?side1 ?side2 ?side3 ?side4 ?side5 ?side6 A2.out).mono ?_); (case side1 => exact Kd.C_nil _ _); (case side2 => exact Nat.le_refl _); (case side3 => repeat (first | exact (Kd.R_reads' HO291.out).2.2 | (with_reducible refine Kd.C_alloc ?_ _) | (with_reducible refine Kd.C_drewN ?_ _) | (with_reducible refine Kd.C_drew ?_))); (case side4 => exact (Kd.R_reads' HO291.out).2.1); (case side5 => repeat (first | exact (Kd.R_reads' HO294.out).2.2 | (with_reducible refine Kd.C_alloc ?_ _) | (with_reducible refine Kd.C_drewN ?_ _) | (with_reducible refine Kd.C_drew ?_))); (case side6 => exact (Kd.R_reads' HO294.out).2.1); rintro e w44 ⟨v301, rfl, ho0, hb⟩; have HO302 := Aside0.mk (Kd.R_lower (Kd.R_new' ho0 (Kd.R_lt (by (with_reducible repeat (first | apply Kd.R_alloc | apply Kd.R_drewN | apply Kd.R_drew)); exact HO298.out))) (below_size (bC HB))); replace HO287 := rB HO287 hb; replace HO291 := rB HO291 hb; replace HO294 := rB HO294 hb; replace HO298 := rE HO298 (Kd.R_base ho0) hb; replace BK288 := bB BK288 hb; replace BK295 := bB BK295 hb; replace HB := bW HB hb; (try clear hb); (try clear hb2); (try clear hk); (try clear hi); (try clear ho0); obtain ⟨Ao45, co45, eo45⟩ := Kd.R_slice HO302.out; subst eo45) | ((with_reducible refine gate_callee (f := 21) rfl ?_); refine gL (some 30) Try.func21 #[.slice Ao45 t300.length co45] ?_; (with_reducible refine (node_Decode.calls k _ _ t300 t304 t305 t308 t311 t314 _ ?side1 ?side2 A3.out).mono ?_); (case side1 => repeat (first | exact (Kd.R_reads' HO302.out).2.2 | (with_reducible refine Kd.C_alloc ?_ _) | (with_reducible refine Kd.C_drewN ?_ _) | (with_reducible refine Kd.C_drew ?_))); (case side2 => exact (Kd.R_reads' HO302.out).2.1); rintro e w46 ⟨v306, v309, v312, rfl, ho0, ho1, ho2, hb⟩; refine ⟨_, rfl, ?_⟩; have HO307 := Aside0.mk (Kd.R_lower (Kd.R_new' ho0 (Kd.R_lt (by (with_reducible repeat (first | apply Kd.R_alloc | apply Kd.R_drewN | apply Kd.R_drew)); exact HO287.out))) (below_size (bC HB))); have HO310 := Aside0.mk (Kd.R_lower (Kd.R_new' ho1 (Kd.R_lt (by (with_reducible repeat (first | apply Kd.R_alloc | apply Kd.R_drewN | apply Kd.R_drew)); exact HO291.out))) (below_size (bC HB))); have HO313 := Aside0.mk (Kd.R_lower (Kd.R_new' ho2 (Kd.R_lt (by (with_reducible repeat (first | apply Kd.R_alloc | apply Kd.R_drewN | apply Kd.R_drew)); exact HO294.out))) (below_size (bC HB))); replace HO287 := rE HO287 (Kd.R_base ho0) hb; replace HO291 := rE HO291 (Kd.R_base ho1) hb; replace HO294 := rE HO294 (Kd.R_base ho2) hb; replace HO298 := rB HO298 hb; replace HO302 := rB HO302 hb; replace BK288 := bB BK288 hb; replace BK295 := bB BK295 hb; replace HB := bW HB hb; (try clear hb); (try clear hb2); (try clear hk); (try clear hi); (try clear ho0); (try clear ho1); (try clear ho2)) | ((with_reducible refine gate_dst (N := 7) rfl ?_); (try (refine gate_guard (by rfl) ?_; dsimp only)); refine box_event ?hg (N := 7) ?hd (cs := #[.bool false, .slice none 0 0, .slice none 0 0, .slice none 0 0]) (t := 36) ?hr ?_; (case hd => rfl); (case hg => rfl); (case hr => first | (go_simp; done) | (go_simp; rfl)); intro gb315 hg w47 hbox hb; have BK315 := Aside0.mk (hbox); have GW315 := bZ HB hg; have GE315 := bZ HB hg; have NB288_315 := bL BK288 hg; have NB315_288 := bG BK288 hg; have NB295_315 := bL BK295 hg; have NB315_295 := bG BK295 hg; replace HO287 := rB HO287 hb; replace HO291 := rB HO291 hb; replace HO294 := rB HO294 hb; replace HO298 := rB HO298 hb; replace HO302 := rB HO302 hb; replace HO307 := rB HO307 hb; replace HO310 := rB HO310 hb; replace HO313 := rB HO313 hb; replace BK288 := bB BK288 hb; replace BK295 := bB BK295 hb; replace HB := bW HB hb; clear hb hbox hg; have hnb48 := NB315_288.out; have hnc48 := NB288_315.out; have hnb49 := NB315_295.out; have hnc49 := NB295_315.out; obtain ⟨hcz50_0, hcz50_1, hcz50_2, hcz50_3, hfz50_0, hfz50_1, hfz50_2, hfz50_3⟩ := bf4 (w := w47) BK315; obtain ⟨Ao51, co51, eo51⟩ := Kd.R_slice HO307.out; subst eo51; obtain ⟨Ao52, co52, eo52⟩ := Kd.R_slice HO310.out; subst eo52; obtain ⟨Ao53, co53, eo53⟩ := Kd.R_slice HO313.out; subst eo53) | ((with_reducible refine gate_dst (N := 34) rfl ?_); (try (refine gate_guard (by rfl) ?_; dsimp only)); refine Kd.R_make (Kd.int .u8) _ 5 rfl (N := 34) rfl 30 _ _ rfl 256 rfl rfl Try.underlying30 (.int .u8 0) 1 info5 rfl (by decide) (by omega) 0 (ok := fun _ => True) (okp := fun _ => True) rfl (fun _ hk => hk) trivial (by omega) (by omega) (Below.refl _ _) (Nat.le_refl _) ?_; intro v317 w54 ho55 hb hg_ hnew_; clear hg_ hnew_; (first | rw [← Ny316.out] at ho55 | (simp only [Int.reduceToNat] at ho55; rw [← Ny316.out] at ho55)); have HO318 := Aside0.mk (Kd.R_lower (Kd.R_new' (Kd.R_new' ho55 (Kd.R_lt (by (with_reducible repeat (first | apply Kd.R_alloc | apply Kd.R_drewN | apply Kd.R_drew)); exact (Kd.R_mono (Kd.R_far (p := ⟨gb315, 3, none⟩) (Kd.R_far (p := ⟨gb315, 2, none⟩) (Kd.R_far (p := ⟨gb315, 1, none⟩) (Kd.R_far (p := ⟨gb315, 0, none⟩) (Kd.R_types HO298.out BK315.out (by decide)) (fun _ hk => hk.2) (.bool t304)) (fun _ hk => hk.2) (.slice Ao51 t305.length co51)) (fun _ hk => hk.2) (.slice Ao52 t308.length co52)) (fun _ hk => hk.2) (.slice Ao53 t311.length co53)) (fun _ h_ => h_.1))))) (Kd.R_lt (by (with_reducible repeat (first | apply Kd.R_alloc | apply Kd.R_drewN | apply Kd.R_drew)); exact (Kd.R_mono (Kd.R_far (p := ⟨gb315, 3, none⟩) (Kd.R_far (p := ⟨gb315, 2, none⟩) (Kd.R_far (p := ⟨gb315, 1, none⟩) (Kd.R_far (p := ⟨gb315, 0, none⟩) (Kd.R_types HO302.out BK315.out (by decide)) (fun _ hk => hk.2) (.bool t304)) (fun _ hk => hk.2) (.slice Ao51 t305.length co51)) (fun _ hk => hk.2) (.slice Ao52 t308.length co52)) (fun _ hk => hk.2) (.slice Ao53 t311.length co53)) (fun _ h_ => h_.1))))) (below_size (bC HB))); replace HO287 := Aside0.mk (Kd.R_below (by (with_reducible repeat (first | apply Kd.R_alloc | apply Kd.R_drewN | apply Kd.R_drew)); exact (Kd.R_mono (Kd.R_far (p := ⟨gb315, 3, none⟩) (Kd.R_far (p := ⟨gb315, 2, none⟩) (Kd.R_far (p := ⟨gb315, 1, none⟩) (Kd.R_far (p := ⟨gb315, 0, none⟩) (Kd.R_types HO287.out BK315.out (by decide)) (fun _ hk => hk.2) (.bool t304)) (fun _ hk => hk.2) (.slice Ao51 t305.length co51)) (fun _ hk => hk.2) (.slice Ao52 t308.length co52)) (fun _ hk => hk.2) (.slice Ao53 t311.length co53)) (fun _ h_ => h_.1))) hb); replace HO291 := Aside0.mk (Kd.R_below (by (with_reducible repeat (first | apply Kd.R_alloc | apply Kd.R_drewN | apply Kd.R_drew)); exact (Kd.R_mono (Kd.R_far (p := ⟨gb315, 3, none⟩) (Kd.R_far (p := ⟨gb315, 2, none⟩) (Kd.R_far (p := ⟨gb315, 1, none⟩) (Kd.R_far (p := ⟨gb315, 0, none⟩) (Kd.R_types HO291.out BK315.out (by decide)) (fun _ hk => hk.2) (.bool t304)) (fun _ hk => hk.2) (.slice Ao51 t305.length co51)) (fun _ hk => hk.2) (.slice Ao52 t308.length co52)) (fun _ hk => hk.2) (.slice Ao53 t311.length co53)) (fun _ h_ => h_.1))) hb); replace HO294 := Aside0.mk (Kd.R_below (by (with_reducible repeat (first | apply Kd.R_alloc | apply Kd.R_drewN | apply Kd.R_drew)); exact (Kd.R_mono (Kd.R_far (p := ⟨gb315, 3, none⟩) (Kd.R_far (p := ⟨gb315, 2, none⟩) (Kd.R_far (p := ⟨gb315, 1, none⟩) (Kd.R_far (p := ⟨gb315, 0, none⟩) (Kd.R_types HO294.out BK315.out (by decide)) (fun _ hk => hk.2) (.bool t304)) (fun _ hk => hk.2) (.slice Ao51 t305.length co51)) (fun _ hk => hk.2) (.slice Ao52 t308.length co52)) (fun _ hk => hk.2) (.slice Ao53 t311.length co53)) (fun _ h_ => h_.1))) hb); replace HO298 := Aside0.mk (Kd.R_elder' (by (with_reducible repeat (first | apply Kd.R_alloc | apply Kd.R_drewN | apply Kd.R_drew)); exact (Kd.R_mono (Kd.R_far (p := ⟨gb315, 3, none⟩) (Kd.R_far (p := ⟨gb315, 2, none⟩) (Kd.R_far (p := ⟨gb315, 1, none⟩) (Kd.R_far (p := ⟨gb315, 0, none⟩) (Kd.R_types HO298.out BK315.out (by decide)) (fun _ hk => hk.2) (.bool t304)) (fun _ hk => hk.2) (.slice Ao51 t305.length co51)) (fun _ hk => hk.2) (.slice Ao52 t308.length co52)) (fun _ hk => hk.2) (.slice Ao53 t311.length co53)) (fun _ h_ => h_.1))) (Kd.R_base ho55) hb); replace HO302 := Aside0.mk (Kd.R_elder' (by (with_reducible repeat (first | apply Kd.R_alloc | apply Kd.R_drewN | apply Kd.R_drew)); exact (Kd.R_mono (Kd.R_far (p := ⟨gb315, 3, none⟩) (Kd.R_far (p := ⟨gb315, 2, none⟩) (Kd.R_far (p := ⟨gb315, 1, none⟩) (Kd.R_far (p := ⟨gb315, 0, none⟩) (Kd.R_types HO302.out BK315.out (by decide)) (fun _ hk => hk.2) (.bool t304)) (fun _ hk => hk.2) (.slice Ao51 t305.length co51)) (fun _ hk => hk.2) (.slice Ao52 t308.length co52)) (fun _ hk => hk.2) (.slice Ao53 t311.length co53)) (fun _ h_ => h_.1))) (Kd.R_base ho55) hb); replace HO307 := Aside0.mk (Kd.R_below (by (with_reducible repeat (first | apply Kd.R_alloc | apply Kd.R_drewN | apply Kd.R_drew)); exact (Kd.R_mono (Kd.R_far (p := ⟨gb315, 3, none⟩) (Kd.R_far (p := ⟨gb315, 2, none⟩) (Kd.R_far (p := ⟨gb315, 1, none⟩) (Kd.R_far (p := ⟨gb315, 0, none⟩) (Kd.R_types HO307.out BK315.out (by decide)) (fun _ hk => hk.2) (.bool t304)) (fun _ hk => hk.2) (.slice Ao51 t305.length co51)) (fun _ hk => hk.2) (.slice Ao52 t308.length co52)) (fun _ hk => hk.2) (.slice Ao53 t311.length co53)) (fun _ h_ => h_.1))) hb); replace HO310 := Aside0.mk (Kd.R_below (by (with_reducible repeat (first | apply Kd.R_alloc | apply Kd.R_drewN | apply Kd.R_drew)); exact (Kd.R_mono (Kd.R_far (p := ⟨gb315, 3, none⟩) (Kd.R_far (p := ⟨gb315, 2, none⟩) (Kd.R_far (p := ⟨gb315, 1, none⟩) (Kd.R_far (p := ⟨gb315, 0, none⟩) (Kd.R_types HO310.out BK315.out (by decide)) (fun _ hk => hk.2) (.bool t304)) (fun _ hk => hk.2) (.slice Ao51 t305.length co51)) (fun _ hk => hk.2) (.slice Ao52 t308.length co52)) (fun _ hk => hk.2) (.slice Ao53 t311.length co53)) (fun _ h_ => h_.1))) hb); replace HO313 := Aside0.mk (Kd.R_below (by (with_reducible repeat (first | apply Kd.R_alloc | apply Kd.R_drewN | apply Kd.R_drew)); exact (Kd.R_mono (Kd.R_far (p := ⟨gb315, 3, none⟩) (Kd.R_far (p := ⟨gb315, 2, none⟩) (Kd.R_far (p := ⟨gb315, 1, none⟩) (Kd.R_far (p := ⟨gb315, 0, none⟩) (Kd.R_types HO313.out BK315.out (by decide)) (fun _ hk => hk.2) (.bool t304)) (fun _ hk => hk.2) (.slice Ao51 t305.length co51)) (fun _ hk => hk.2) (.slice Ao52 t308.length co52)) (fun _ hk => hk.2) (.slice Ao53 t311.length co53)) (fun _ h_ => h_.1))) hb); replace BK288 := bB BK288 hb; replace BK295 := bB BK295 hb; replace BK315 := Aside0.mk (blk_below (g := gb315) (o := .cells #[.bool t304, .slice Ao51 t305.length co51, .slice Ao52 t308.length co52, .slice Ao53 t311.length co53] 36 (0, 0)) (bR BK315) hb); replace HB := bW HB hb; clear hb ho55; obtain ⟨Ao56, co56, eo56⟩ := Kd.R_slice HO318.out; subst eo56) | ((with_reducible refine gate_callee (f := 21) rfl ?_); refine gL (some 35) Try.func21 #[.slice Ao56 y316.length co56] ?_; (with_reducible refine (node_Decode.calls k _ _ y316 t319 t320 t323 t326 t329 _ ?side1 ?side2 A5.out).mono ?_); (case side1 => repeat (first | exact (Kd.R_reads' HO318.out).2.2 | (with_reducible refine Kd.C_alloc ?_ _) | (with_reducible refine Kd.C_drewN ?_ _) | (with_reducible refine Kd.C_drew ?_))); (case side2 => exact (Kd.R_reads' HO318.out).2.1); rintro e w57 ⟨v321, v324, v327, rfl, ho0, ho1, ho2, hb⟩; refine ⟨_, rfl, ?_⟩; have HO322 := Aside0.mk (Kd.R_lower (Kd.R_new' (Kd.R_new' ho0 (Kd.R_lt (by (with_reducible repeat (first | apply Kd.R_alloc | apply Kd.R_drewN | apply Kd.R_drew)); exact HO287.out))) (Kd.R_lt (by (with_reducible repeat (first | apply Kd.R_alloc | apply Kd.R_drewN | apply Kd.R_drew)); exact HO307.out))) (below_size (bC HB))); have HO325 := Aside0.mk (Kd.R_lower (Kd.R_new' (Kd.R_new' ho1 (Kd.R_lt (by (with_reducible repeat (first | apply Kd.R_alloc | apply Kd.R_drewN | apply Kd.R_drew)); exact HO291.out))) (Kd.R_lt (by (with_reducible repeat (first | apply Kd.R_alloc | apply Kd.R_drewN | apply Kd.R_drew)); exact HO310.out))) (below_size (bC HB))); have HO328 := Aside0.mk (Kd.R_lower (Kd.R_new' (Kd.R_new' ho2 (Kd.R_lt (by (with_reducible repeat (first | apply Kd.R_alloc | apply Kd.R_drewN | apply Kd.R_drew)); exact HO294.out))) (Kd.R_lt (by (with_reducible repeat (first | apply Kd.R_alloc | apply Kd.R_drewN | apply Kd.R_drew)); exact HO313.out))) (below_size (bC HB))); replace HO287 := rE HO287 (Kd.R_base ho0) hb; replace HO291 := rE HO291 (Kd.R_base ho1) hb; replace HO294 := rE HO294 (Kd.R_base ho2) hb; replace HO298 := rB HO298 hb; replace HO302 := rB HO302 hb; replace HO307 := rE HO307 (Kd.R_base ho0) hb; replace HO310 := rE HO310 (Kd.R_base ho1) hb; replace HO313 := rE HO313 (Kd.R_base ho2) hb; replace HO318 := rB HO318 hb; replace BK288 := bB BK288 hb; replace BK295 := bB BK295 hb; replace BK315 := bB BK315 hb; replace HB := bW HB hb; (try clear hb); (try clear hb2); (try clear hk); (try clear hi); (try clear ho0); (try clear ho1); (try clear ho2)) | ((with_reducible refine gate_dst (N := 9) rfl ?_); (try (refine gate_guard (by rfl) ?_; dsimp only)); refine box_event ?hg (N := 9) ?hd (cs := #[.bool false, .slice none 0 0, .slice none 0 0, .slice none 0 0]) (t := 36) ?hr ?_; (case hd => rfl); (case hg => rfl); (case hr => first | (go_simp; done) | (go_simp; rfl)); intro gb330 hg w58 hbox hb; have BK330 := Aside0.mk (hbox); have GW330 := bZ HB hg; have GE330 := bZ HB hg; have NB288_330 := bL BK288 hg; have NB330_288 := bG BK288 hg; have NB295_330 := bL BK295 hg; have NB330_295 := bG BK295 hg; have NB315_330 := bL BK315 hg; have NB330_315 := bG BK315 hg; replace HO287 := rB HO287 hb; replace HO291 := rB HO291 hb; replace HO294 := rB HO294 hb; replace HO298 := rB HO298 hb; replace HO302 := rB HO302 hb; replace HO307 := rB HO307 hb; replace HO310 := rB HO310 hb; replace HO313 := rB HO313 hb; replace HO318 := rB HO318 hb; replace HO322 := rB HO322 hb; replace HO325 := rB HO325 hb; replace HO328 := rB HO328 hb; replace BK288 := bB BK288 hb; replace BK295 := bB BK295 hb; replace BK315 := bB BK315 hb; replace HB := bW HB hb; clear hb hbox hg; have hnb59 := NB330_288.out; have hnc59 := NB288_330.out; have hnb60 := NB330_295.out; have hnc60 := NB295_330.out; have hnb61 := NB330_315.out; have hnc61 := NB315_330.out; obtain ⟨hcz62_0, hcz62_1, hcz62_2, hcz62_3, hfz62_0, hfz62_1, hfz62_2, hfz62_3⟩ := bf4 (w := w58) BK330; obtain ⟨Ao63, co63, eo63⟩ := Kd.R_slice HO322.out; subst eo63; obtain ⟨Ao64, co64, eo64⟩ := Kd.R_slice HO325.out; subst eo64; obtain ⟨Ao65, co65, eo65⟩ := Kd.R_slice HO328.out; subst eo65; obtain ⟨hcz66_0, hcz66_1, hcz66_2, hcz66_3, hfz66_0, hfz66_1, hfz66_2, hfz66_3⟩ := bf4 (w := w58) BK288) | (go_at_call 16; refine calls_of_args (args' := #[.agg #[.bool true, .slice Ao29 y285.length co29, .slice none ([] : List ByteArray).length 0, .slice none ([] : List Int).length 0]]) (by first | rfl | ((try simp only [List.map_toArray, List.map_cons, List.map_nil]); rfl)) ?_; (with_reducible refine (node_May.calls k true _ _ y285 _ _ ([] : List ByteArray) _ _ ([] : List Int) true _ ?side1 ?side2 ?side3 ?side4 ?side5 ?side6 A6.out).mono ?_); (case side1 => refine (Kd.R_reads' (e := 62) (base := w.heap.size) (ok := fun k_ => ((True ∧ some k_ ≠ (.slice Ao51 t305.length co51 : Value).ownBlock) ∧ some k_ ≠ (.slice Ao63 t320.length co63 : Value).ownBlock)) (n := y285.length) (c := co29) ?_).2.2; exact (by (with_reducible repeat (first | apply Kd.R_alloc | apply Kd.R_drewN | apply Kd.R_drew)); exact (Kd.R_mono (Kd.R_far (p := ⟨gb330, 3, none⟩) (Kd.R_far (p := ⟨gb330, 2, none⟩) (Kd.R_far (p := ⟨gb330, 1, none⟩) (Kd.R_far (p := ⟨gb330, 0, none⟩) (Kd.R_types HO287.out BK330.out (by decide)) (fun _ hk => hk.2) (.bool t319)) (fun _ hk => hk.2) (.slice Ao63 t320.length co63)) (fun _ hk => hk.2) (.slice Ao64 t323.length co64)) (fun _ hk => hk.2) (.slice Ao65 t326.length co65)) (fun _ h_ => h_.1)))); (case side2 => exact (Kd.R_reads' HO287.out).2.1); (case side3 => exact Kd.C_nil _ _); (case side4 => exact Nat.le_refl _); (case side5 => exact Kd.C_nil _ _); (case side6 => exact Nat.le_refl _); rintro e w67 ⟨rfl, hb⟩; replace HO287 := Aside0.mk (Kd.R_below (by (with_reducible repeat (first | apply Kd.R_alloc | apply Kd.R_drewN | apply Kd.R_drew)); exact (Kd.R_mono (Kd.R_far (p := ⟨gb330, 3, none⟩) (Kd.R_far (p := ⟨gb330, 2, none⟩) (Kd.R_far (p := ⟨gb330, 1, none⟩) (Kd.R_far (p := ⟨gb330, 0, none⟩) (Kd.R_types HO287.out BK330.out (by decide)) (fun _ hk => hk.2) (.bool t319)) (fun _ hk => hk.2) (.slice Ao63 t320.length co63)) (fun _ hk => hk.2) (.slice Ao64 t323.length co64)) (fun _ hk => hk.2) (.slice Ao65 t326.length co65)) (fun _ h_ => h_.1))) hb); replace HO291 := Aside0.mk (Kd.R_below (by (with_reducible repeat (first | apply Kd.R_alloc | apply Kd.R_drewN | apply Kd.R_drew)); exact (Kd.R_mono (Kd.R_far (p := ⟨gb330, 3, none⟩) (Kd.R_far (p := ⟨gb330, 2, none⟩) (Kd.R_far (p := ⟨gb330, 1, none⟩) (Kd.R_far (p := ⟨gb330, 0, none⟩) (Kd.R_types HO291.out BK330.out (by decide)) (fun _ hk => hk.2) (.bool t319)) (fun _ hk => hk.2) (.slice Ao63 t320.length co63)) (fun _ hk => hk.2) (.slice Ao64 t323.length co64)) (fun _ hk => hk.2) (.slice Ao65 t326.length co65)) (fun _ h_ => h_.1))) hb); replace HO294 := Aside0.mk (Kd.R_below (by (with_reducible repeat (first | apply Kd.R_alloc | apply Kd.R_drewN | apply Kd.R_drew)); exact (Kd.R_mono (Kd.R_far (p := ⟨gb330, 3, none⟩) (Kd.R_far (p := ⟨gb330, 2, none⟩) (Kd.R_far (p := ⟨gb330, 1, none⟩) (Kd.R_far (p := ⟨gb330, 0, none⟩) (Kd.R_types HO294.out BK330.out (by decide)) (fun _ hk => hk.2) (.bool t319)) (fun _ hk => hk.2) (.slice Ao63 t320.length co63)) (fun _ hk => hk.2) (.slice Ao64 t323.length co64)) (fun _ hk => hk.2) (.slice Ao65 t326.length co65)) (fun _ h_ => h_.1))) hb); replace HO298 := Aside0.mk (Kd.R_below (by (with_reducible repeat (first | apply Kd.R_alloc | apply Kd.R_drewN | apply Kd.R_drew)); exact (Kd.R_mono (Kd.R_far (p := ⟨gb330, 3, none⟩) (Kd.R_far (p := ⟨gb330, 2, none⟩) (Kd.R_far (p := ⟨gb330, 1, none⟩) (Kd.R_far (p := ⟨gb330, 0, none⟩) (Kd.R_types HO298.out BK330.out (by decide)) (fun _ hk => hk.2) (.bool t319)) (fun _ hk => hk.2) (.slice Ao63 t320.length co63)) (fun _ hk => hk.2) (.slice Ao64 t323.length co64)) (fun _ hk => hk.2) (.slice Ao65 t326.length co65)) (fun _ h_ => h_.1))) hb); replace HO302 := Aside0.mk (Kd.R_below (by (with_reducible repeat (first | apply Kd.R_alloc | apply Kd.R_drewN | apply Kd.R_drew)); exact (Kd.R_mono (Kd.R_far (p := ⟨gb330, 3, none⟩) (Kd.R_far (p := ⟨gb330, 2, none⟩) (Kd.R_far (p := ⟨gb330, 1, none⟩) (Kd.R_far (p := ⟨gb330, 0, none⟩) (Kd.R_types HO302.out BK330.out (by decide)) (fun _ hk => hk.2) (.bool t319)) (fun _ hk => hk.2) (.slice Ao63 t320.length co63)) (fun _ hk => hk.2) (.slice Ao64 t323.length co64)) (fun _ hk => hk.2) (.slice Ao65 t326.length co65)) (fun _ h_ => h_.1))) hb); replace HO307 := Aside0.mk (Kd.R_below (by (with_reducible repeat (first | apply Kd.R_alloc | apply Kd.R_drewN | apply Kd.R_drew)); exact (Kd.R_mono (Kd.R_far (p := ⟨gb330, 3, none⟩) (Kd.R_far (p := ⟨gb330, 2, none⟩) (Kd.R_far (p := ⟨gb330, 1, none⟩) (Kd.R_far (p := ⟨gb330, 0, none⟩) (Kd.R_types HO307.out BK330.out (by decide)) (fun _ hk => hk.2) (.bool t319)) (fun _ hk => hk.2) (.slice Ao63 t320.length co63)) (fun _ hk => hk.2) (.slice Ao64 t323.length co64)) (fun _ hk => hk.2) (.slice Ao65 t326.length co65)) (fun _ h_ => h_.1))) hb); replace HO310 := Aside0.mk (Kd.R_below (by (with_reducible repeat (first | apply Kd.R_alloc | apply Kd.R_drewN | apply Kd.R_drew)); exact (Kd.R_mono (Kd.R_far (p := ⟨gb330, 3, none⟩) (Kd.R_far (p := ⟨gb330, 2, none⟩) (Kd.R_far (p := ⟨gb330, 1, none⟩) (Kd.R_far (p := ⟨gb330, 0, none⟩) (Kd.R_types HO310.out BK330.out (by decide)) (fun _ hk => hk.2) (.bool t319)) (fun _ hk => hk.2) (.slice Ao63 t320.length co63)) (fun _ hk => hk.2) (.slice Ao64 t323.length co64)) (fun _ hk => hk.2) (.slice Ao65 t326.length co65)) (fun _ h_ => h_.1))) hb); replace HO313 := Aside0.mk (Kd.R_below (by (with_reducible repeat (first | apply Kd.R_alloc | apply Kd.R_drewN | apply Kd.R_drew)); exact (Kd.R_mono (Kd.R_far (p := ⟨gb330, 3, none⟩) (Kd.R_far (p := ⟨gb330, 2, none⟩) (Kd.R_far (p := ⟨gb330, 1, none⟩) (Kd.R_far (p := ⟨gb330, 0, none⟩) (Kd.R_types HO313.out BK330.out (by decide)) (fun _ hk => hk.2) (.bool t319)) (fun _ hk => hk.2) (.slice Ao63 t320.length co63)) (fun _ hk => hk.2) (.slice Ao64 t323.length co64)) (fun _ hk => hk.2) (.slice Ao65 t326.length co65)) (fun _ h_ => h_.1))) hb); replace HO318 := Aside0.mk (Kd.R_below (by (with_reducible repeat (first | apply Kd.R_alloc | apply Kd.R_drewN | apply Kd.R_drew)); exact (Kd.R_mono (Kd.R_far (p := ⟨gb330, 3, none⟩) (Kd.R_far (p := ⟨gb330, 2, none⟩) (Kd.R_far (p := ⟨gb330, 1, none⟩) (Kd.R_far (p := ⟨gb330, 0, none⟩) (Kd.R_types HO318.out BK330.out (by decide)) (fun _ hk => hk.2) (.bool t319)) (fun _ hk => hk.2) (.slice Ao63 t320.length co63)) (fun _ hk => hk.2) (.slice Ao64 t323.length co64)) (fun _ hk => hk.2) (.slice Ao65 t326.length co65)) (fun _ h_ => h_.1))) hb); replace HO322 := Aside0.mk (Kd.R_below (by (with_reducible repeat (first | apply Kd.R_alloc | apply Kd.R_drewN | apply Kd.R_drew)); exact (Kd.R_mono (Kd.R_far (p := ⟨gb330, 3, none⟩) (Kd.R_far (p := ⟨gb330, 2, none⟩) (Kd.R_far (p := ⟨gb330, 1, none⟩) (Kd.R_far (p := ⟨gb330, 0, none⟩) (Kd.R_types HO322.out BK330.out (by decide)) (fun _ hk => hk.2) (.bool t319)) (fun _ hk => hk.2) (.slice Ao63 t320.length co63)) (fun _ hk => hk.2) (.slice Ao64 t323.length co64)) (fun _ hk => hk.2) (.slice Ao65 t326.length co65)) (fun _ h_ => h_.1))) hb); replace HO325 := Aside0.mk (Kd.R_below (by (with_reducible repeat (first | apply Kd.R_alloc | apply Kd.R_drewN | apply Kd.R_drew)); exact (Kd.R_mono (Kd.R_far (p := ⟨gb330, 3, none⟩) (Kd.R_far (p := ⟨gb330, 2, none⟩) (Kd.R_far (p := ⟨gb330, 1, none⟩) (Kd.R_far (p := ⟨gb330, 0, none⟩) (Kd.R_types HO325.out BK330.out (by decide)) (fun _ hk => hk.2) (.bool t319)) (fun _ hk => hk.2) (.slice Ao63 t320.length co63)) (fun _ hk => hk.2) (.slice Ao64 t323.length co64)) (fun _ hk => hk.2) (.slice Ao65 t326.length co65)) (fun _ h_ => h_.1))) hb); replace HO328 := Aside0.mk (Kd.R_below (by (with_reducible repeat (first | apply Kd.R_alloc | apply Kd.R_drewN | apply Kd.R_drew)); exact (Kd.R_mono (Kd.R_far (p := ⟨gb330, 3, none⟩) (Kd.R_far (p := ⟨gb330, 2, none⟩) (Kd.R_far (p := ⟨gb330, 1, none⟩) (Kd.R_far (p := ⟨gb330, 0, none⟩) (Kd.R_types HO328.out BK330.out (by decide)) (fun _ hk => hk.2) (.bool t319)) (fun _ hk => hk.2) (.slice Ao63 t320.length co63)) (fun _ hk => hk.2) (.slice Ao64 t323.length co64)) (fun _ hk => hk.2) (.slice Ao65 t326.length co65)) (fun _ h_ => h_.1))) hb); replace BK288 := bB BK288 hb; replace BK295 := bB BK295 hb; replace BK315 := bB BK315 hb; replace BK330 := Aside0.mk (blk_below (g := gb330) (o := .cells #[.bool t319, .slice Ao63 t320.length co63, .slice Ao64 t323.length co64, .slice Ao65 t326.length co65] 36 (0, 0)) (bR BK330) hb); replace HB := bW HB hb; (try clear hb); (try clear hb2); (try clear hk); (try clear hi); obtain ⟨hcz68_0, hcz68_1, hcz68_2, hcz68_3, hfz68_0, hfz68_1, hfz68_2, hfz68_3⟩ := bf4 (w := w67) BK295) | (go_at_call 16; refine calls_of_args (args' := #[.agg #[.bool false, .slice none ([] : List (S62)).length 0, .slice Ao37 y289.length co37, .slice Ao36 y292.length co36]]) (by first | rfl | ((try simp only [List.map_toArray, List.map_cons, List.map_nil]); rfl)) ?_; (with_reducible refine (node_May.calls k false _ _ ([] : List (S62)) _ _ y289 _ _ y292 true _ ?side1 ?side2 ?side3 ?side4 ?side5 ?side6 A8.out).mono ?_); (case side1 => exact Kd.C_nil _ _); (case side2 => exact Nat.le_refl _); (case side3 => repeat (first | exact (Kd.R_reads' HO291.out).2.2 | (with_reducible refine Kd.C_alloc ?_ _) | (with_reducible refine Kd.C_drewN ?_ _) | (with_reducible refine Kd.C_drew ?_))); (case side4 => exact (Kd.R_reads' HO291.out).2.1); (case side5 => repeat (first | exact (Kd.R_reads' HO294.out).2.2 | (with_reducible refine Kd.C_alloc ?_ _) | (with_reducible refine Kd.C_drewN ?_ _) | (with_reducible refine Kd.C_drew ?_))); (case side6 => exact (Kd.R_reads' HO294.out).2.1); rintro e w69 ⟨rfl, hb⟩; replace HO287 := rB HO287 hb; replace HO291 := rB HO291 hb; replace HO294 := rB HO294 hb; replace HO298 := rB HO298 hb; replace HO302 := rB HO302 hb; replace HO307 := rB HO307 hb; replace HO310 := rB HO310 hb; replace HO313 := rB HO313 hb; replace HO318 := rB HO318 hb; replace HO322 := rB HO322 hb; replace HO325 := rB HO325 hb; replace HO328 := rB HO328 hb; replace BK288 := bB BK288 hb; replace BK295 := bB BK295 hb; replace BK315 := bB BK315 hb; replace BK330 := bB BK330 hb; replace HB := bW HB hb; (try clear hb); (try clear hb2); (try clear hk); (try clear hi)) | (go_at_call 16; refine calls_of_args (args' := #[.agg #[.bool false, .slice none ([] : List (S62)).length 0, .slice none ([] : List ByteArray).length 0, .slice none ([] : List Int).length 0]]) (by first | rfl | ((try simp only [List.map_toArray, List.map_cons, List.map_nil]); rfl)) ?_; (with_reducible refine (node_May.calls k false _ _ ([] : List (S62)) _ _ ([] : List ByteArray) _ _ ([] : List Int) false _ ?side1 ?side2 ?side3 ?side4 ?side5 ?side6 A10.out).mono ?_); (case side1 => exact Kd.C_nil _ _); (case side2 => exact Nat.le_refl _); (case side3 => exact Kd.C_nil _ _); (case side4 => exact Nat.le_refl _); (case side5 => exact Kd.C_nil _ _); (case side6 => exact Nat.le_refl _); rintro e w70 ⟨rfl, hb⟩; replace HO287 := rB HO287 hb; replace HO291 := rB HO291 hb; replace HO294 := rB HO294 hb; replace HO298 := rB HO298 hb; replace HO302 := rB HO302 hb; replace HO307 := rB HO307 hb; replace HO310 := rB HO310 hb; replace HO313 := rB HO313 hb; replace HO318 := rB HO318 hb; replace HO322 := rB HO322 hb; replace HO325 := rB HO325 hb; replace HO328 := rB HO328 hb; replace BK288 := bB BK288 hb; replace BK295 := bB BK295 hb; replace BK315 := bB BK315 hb; replace BK330 := bB BK330 hb; replace HB := bW HB hb; (try clear hb); (try clear hb2); (try clear hk); (try clear hi); obtain ⟨Ao71, co71, eo71⟩ := Kd.R_slice HO298.out; subst eo71; have p334 : 0 ≤ (0 : Int) := (by omega); have q334 : 0 < (t296.length : Int) := of_decide_eq_true (by first | (with_reducible assumption) | assumption); obtain ⟨ad334, e334, hx334_0⟩ := Kd.at_int (Kd.R_reads' HO298.out).2.2 0 p334 q334; cases e334; have qi334 : (0 < t296.length) = True := eq_true (by omega); (try rw [show ((0 : Int)).toNat = 0 from rfl] at hx334_0); (try rw [Addr.add_zero'] at hx334_0); replace p334 := eq_true p334; replace q334 := eq_true q334; obtain ⟨hcz72_0, hcz72_1, hcz72_2, hcz72_3, hfz72_0, hfz72_1, hfz72_2, hfz72_3⟩ := bf4 (w := w70) BK315; obtain ⟨hcz73_0, hcz73_1, hcz73_2, hcz73_3, hfz73_0, hfz73_1, hfz73_2, hfz73_3⟩ := bf4 (w := w70) BK295) | (go_at_call 20; refine calls_of_args (args' := #[.agg #[.bool false, .slice none ([] : List (S62)).length 0, .slice Ao37 y289.length co37, .slice Ao36 y292.length co36], .string (⟨#[107]⟩ : ByteArray)]) (by first | rfl | ((try simp only [List.map_toArray, List.map_cons, List.map_nil]); rfl)) ?_; (with_reducible refine (node_Kid.calls k false _ _ ([] : List (S62)) _ _ y289 _ _ y292 (⟨#[107]⟩ : ByteArray) t335 _ ?side1 ?side2 ?side3 ?side4 ?side5 ?side6 A20.out).mono ?_); (case side1 => exact Kd.C_nil _ _); (case side2 => exact Nat.le_refl _); (case side3 => repeat (first | exact (Kd.R_reads' HO291.out).2.2 | (with_reducible refine Kd.C_alloc ?_ _) | (with_reducible refine Kd.C_drewN ?_ _) | (with_reducible refine Kd.C_drew ?_))); (case side4 => exact (Kd.R_reads' HO291.out).2.1); (case side5 => repeat (first | exact (Kd.R_reads' HO294.out).2.2 | (with_reducible refine Kd.C_alloc ?_ _) | (with_reducible refine Kd.C_drewN ?_ _) | (with_reducible refine Kd.C_drew ?_))); (case side6 => exact (Kd.R_reads' HO294.out).2.1); rintro e w74 ⟨rfl, hb⟩; replace HO287 := rB HO287 hb; replace HO291 := rB HO291 hb; replace HO294 := rB HO294 hb; replace HO298 := rB HO298 hb; replace HO302 := rB HO302 hb; replace HO307 := rB HO307 hb; replace HO310 := rB HO310 hb; replace HO313 := rB HO313 hb; replace HO318 := rB HO318 hb; replace HO322 := rB HO322 hb; replace HO325 := rB HO325 hb; replace HO328 := rB HO328 hb; replace BK288 := bB BK288 hb; replace BK295 := bB BK295 hb; replace BK315 := bB BK315 hb; replace BK330 := bB BK330 hb; replace HB := bW HB hb; (try clear hb); (try clear hb2); (try clear hk); (try clear hi); obtain ⟨hcz75_0, hcz75_1, hcz75_2, hcz75_3, hfz75_0, hfz75_1, hfz75_2, hfz75_3⟩ := bf4 (w := w74) BK295) | (go_at_call 20; refine calls_of_args (args' := #[.agg #[.bool false, .slice none ([] : List (S62)).length 0, .slice Ao37 y289.length co37, .slice Ao36 y292.length co36], .string (⟨#[106]⟩ : ByteArray)]) (by first | rfl | ((try simp only [List.map_toArray, List.map_cons, List.map_nil]); rfl)) ?_; (with_reducible refine (node_Kid.calls k false _ _ ([] : List (S62)) _ _ y289 _ _ y292 (⟨#[106]⟩ : ByteArray) t336 _ ?side1 ?side2 ?side3 ?side4 ?side5 ?side6 A22.out).mono ?_); (case side1 => exact Kd.C_nil _ _); (case side2 => exact Nat.le_refl _); (case side3 => repeat (first | exact (Kd.R_reads' HO291.out).2.2 | (with_reducible refine Kd.C_alloc ?_ _) | (with_reducible refine Kd.C_drewN ?_ _) | (with_reducible refine Kd.C_drew ?_))); (case side4 => exact (Kd.R_reads' HO291.out).2.1); (case side5 => repeat (first | exact (Kd.R_reads' HO294.out).2.2 | (with_reducible refine Kd.C_alloc ?_ _) | (with_reducible refine Kd.C_drewN ?_ _) | (with_reducible refine Kd.C_drew ?_))); (case side6 => exact (Kd.R_reads' HO294.out).2.1); rintro e w76 ⟨rfl, hb⟩; replace HO287 := rB HO287 hb; replace HO291 := rB HO291 hb; replace HO294 := rB HO294 hb; replace HO298 := rB HO298 hb; replace HO302 := rB HO302 hb; replace HO307 := rB HO307 hb; replace HO310 := rB HO310 hb; replace HO313 := rB HO313 hb; replace HO318 := rB HO318 hb; replace HO322 := rB HO322 hb; replace HO325 := rB HO325 hb; replace HO328 := rB HO328 hb; replace BK288 := bB BK288 hb; replace BK295 := bB BK295 hb; replace BK315 := bB BK315 hb; replace BK330 := bB BK330 hb; replace HB := bW HB hb; (try clear hb); (try clear hb2); (try clear hk); (try clear hi); obtain ⟨hcz77_0, hcz77_1, hcz77_2, hcz77_3, hfz77_0, hfz77_1, hfz77_2, hfz77_3⟩ := bf4 (w := w76) BK288) | (go_at_call 20; refine calls_of_args (args' := #[.agg #[.bool true, .slice Ao29 y285.length co29, .slice none ([] : List ByteArray).length 0, .slice none ([] : List Int).length 0], .string (⟨#[106]⟩ : ByteArray)]) (by first | rfl | ((try simp only [List.map_toArray, List.map_cons, List.map_nil]); rfl)) ?_; (with_reducible refine (node_Kid.calls k true _ _ y285 _ _ ([] : List ByteArray) _ _ ([] : List Int) (⟨#[106]⟩ : ByteArray) t337 _ ?side1 ?side2 ?side3 ?side4 ?side5 ?side6 A24.out).mono ?_); (case side1 => repeat (first | exact (Kd.R_reads' HO287.out).2.2 | (with_reducible refine Kd.C_alloc ?_ _) | (with_reducible refine Kd.C_drewN ?_ _) | (with_reducible refine Kd.C_drew ?_))); (case side2 => exact (Kd.R_reads' HO287.out).2.1); (case side3 => exact Kd.C_nil _ _); (case side4 => exact Nat.le_refl _); (case side5 => exact Kd.C_nil _ _); (case side6 => exact Nat.le_refl _); rintro e w78 ⟨rfl, hb⟩; replace HO287 := rB HO287 hb; replace HO291 := rB HO291 hb; replace HO294 := rB HO294 hb; replace HO298 := rB HO298 hb; replace HO302 := rB HO302 hb; replace HO307 := rB HO307 hb; replace HO310 := rB HO310 hb; replace HO313 := rB HO313 hb; replace HO318 := rB HO318 hb; replace HO322 := rB HO322 hb; replace HO325 := rB HO325 hb; replace HO328 := rB HO328 hb; replace BK288 := bB BK288 hb; replace BK295 := bB BK295 hb; replace BK315 := bB BK315 hb; replace BK330 := bB BK330 hb; replace HB := bW HB hb; (try clear hb); (try clear hb2); (try clear hk); (try clear hi); obtain ⟨hcz79_0, hcz79_1, hcz79_2, hcz79_3, hfz79_0, hfz79_1, hfz79_2, hfz79_3⟩ := bf4 (w := w78) BK288) | (go_at_call 18; refine calls_of_args (args' := #[.agg #[.bool true, .slice Ao29 y285.length co29, .slice none ([] : List ByteArray).length 0, .slice none ([] : List Int).length 0]]) (by first | rfl | ((try simp only [List.map_toArray, List.map_cons, List.map_nil]); rfl)) ?_; (with_reducible refine (node_Size.calls k true _ _ y285 _ _ ([] : List ByteArray) _ _ ([] : List Int) t338 _ ?side1 ?side2 ?side3 ?side4 ?side5 ?side6 A26.out).mono ?_); (case side1 => repeat (first | exact (Kd.R_reads' HO287.out).2.2 | (with_reducible refine Kd.C_alloc ?_ _) | (with_reducible refine Kd.C_drewN ?_ _) | (with_reducible refine Kd.C_drew ?_))); (case side2 => exact (Kd.R_reads' HO287.out).2.1); (case side3 => exact Kd.C_nil _ _); (case side4 => exact Nat.le_refl _); (case side5 => exact Kd.C_nil _ _); (case side6 => exact Nat.le_refl _); rintro e w80 ⟨rfl, hb⟩; replace HO287 := rB HO287 hb; replace HO291 := rB HO291 hb; replace HO294 := rB HO294 hb; replace HO298 := rB HO298 hb; replace HO302 := rB HO302 hb; replace HO307 := rB HO307 hb; replace HO310 := rB HO310 hb; replace HO313 := rB HO313 hb; replace HO318 := rB HO318 hb; replace HO322 := rB HO322 hb; replace HO325 := rB HO325 hb; replace HO328 := rB HO328 hb; replace BK288 := bB BK288 hb; replace BK295 := bB BK295 hb; replace BK315 := bB BK315 hb; replace BK330 := bB BK330 hb; replace HB := bW HB hb; (try clear hb); (try clear hb2); (try clear hk); (try clear hi)))
 go_ret
 exact xB HB
def engrosslaw1_Cut.f (a0 : ByteArray) (a1 : Int) : Option (ByteArray) := if (a0.size : Int) > a1 then (if 0 ≤ a1 then (if a1 ≤ (a0.size : Int) then (some (a0.extract 0 (a1 : Int).toNat)) else (none)) else (none)) else (some a0)
set_option maxHeartbeats 8000000 in
set_option maxRecDepth 100000 in
theorem engrosslaw1_Cut.calls (a0 : ByteArray) (a1 : Int) (r : ByteArray) (w : World) (h : engrosslaw1_Cut.f a0 a1 = some r) :
  Calls Try.prog 13 #[.string a0, .int .i64 a1] w fun e w' => e = .returned (.string r) ∧ Drawn0 w w' := by
 have H : (if (a0.size : Int) > a1 then (if 0 ≤ a1 then (if a1 ≤ (a0.size : Int) then (some (a0.extract 0 (a1 : Int).toNat)) else (none)) else (none)) else (some a0)) = some r := h
 clear h
 by_cases c3 : (a0.size : Int) > a1
 rotate_left
 ·rw [if_neg c3] at H
  have c3b0 : decide (a1 < (a0.size : Int)) = false := decide_eq_false c3
  clear c3
  obtain rfl := Option.some.inj H
  go_enter Try.func13, Try.ntmps13
  go_wp2
  go_ret
  exact ⟨by first | rfl | (simp; done) | (simp [*]; done), by repeat (first | exact Drawn0.refl _ | apply Drawn0.step)⟩
 rw [if_pos c3] at H
 have c3b0 : decide (a1 < (a0.size : Int)) = true := decide_eq_true c3
 clear c3
 by_cases c4 : 0 ≤ a1
 rotate_left
 ·rw [if_neg c4] at H
  exact absurd H (by simp)
 rw [if_pos c4] at H
 have c4b0 := eq_true c4
 have c4b1 : decide (0 ≤ a1) = true := decide_eq_true c4
 clear c4
 by_cases c5 : a1 ≤ (a0.size : Int)
 rotate_left
 ·rw [if_neg c5] at H
  exact absurd H (by simp)
 rw [if_pos c5] at H
 have c5b0 := eq_true c5
 have c5b1 : decide (a1 ≤ (a0.size : Int)) = true := decide_eq_true c5
 clear c5
 obtain rfl := Option.some.inj H
 go_enter Try.func13, Try.ntmps13
 go_wp2
 go_ret
 exact ⟨by first | rfl | (simp; done) | (simp [*]; done), by repeat (first | exact Drawn0.refl _ | apply Drawn0.step)⟩
def engrosslaw10_Val.f (a0_0 : Int) (a0_1 : Nat) (a0_2 : ByteArray) : Option (Int × Nat × ByteArray) := (engrosslaw1_Cut.f a0_2 25).bind fun t341 => (some (a0_0, a0_1, t341))
set_option maxHeartbeats 8000000 in
set_option maxRecDepth 100000 in
theorem engrosslaw10_Val.calls (a0_0 : Int) (a0_1 : Nat) (a0_2 : ByteArray) (r1 : Int) (r2 : Nat) (r3 : ByteArray) (w : World) (h : engrosslaw10_Val.f a0_0 a0_1 a0_2 = some (r1, r2, r3)) :
  Calls Try.prog 45 #[.agg #[.int .i64 a0_0, .float .f64 a0_1, .string a0_2]] w fun e w' => e = .returned (.agg #[.int .i64 r1, .float .f64 r2, .string r3]) ∧ Below w.heap.size w w' := by
 have hu54 := Try.underlying54
 have HB := Aside0.mk (Below.refl w.heap.size w)
 have H : ((engrosslaw1_Cut.f a0_2 25).bind fun t341 => (some (a0_0, a0_1, t341))) = some (r1, r2, r3) := h
 clear h
 replace H := Option.bind_eq_some_iff.mp H
 obtain ⟨t341, A20, H⟩ := H
 replace H : (some (a0_0, a0_1, t341)) = some (r1, r2, r3) := H
 have A2 := Aside0.mk A20
 clear A20
 simp only [Option.some.injEq, Prod.mk.injEq] at H
 obtain ⟨rfl, rfl, rfl⟩ := H
 go_enter Try.func45, Try.ntmps45
 go_wp2_with (first | ((with_reducible refine gate_dst (N := 1) rfl ?_); refine box_event ?hg (N := 1) ?hd (cs := #[.int .i64 a0_0, .float .f64 a0_1, .string a0_2]) (t := 54) ?hr ?_; (case hd => rfl); (case hg => rfl); (case hr => first | (go_simp; done) | (go_simp; rfl)); intro gb339 hg w3 hbox hb; have BK339 := Aside0.mk (hbox); have GW339 := bZ HB hg; have GE339 := bZ HB hg; replace HB := bW HB hb; clear hb hbox hg) | ((with_reducible refine gate_dst (N := 2) rfl ?_); refine box_event ?hg (N := 2) ?hd (cs := #[.int .i64 0, .float .f64 0, .string (⟨#[]⟩ : ByteArray)]) (t := 54) ?hr ?_; (case hd => rfl); (case hg => rfl); (case hr => first | (go_simp; done) | (go_simp; rfl)); intro gb340 hg w4 hbox hb; have BK340 := Aside0.mk (hbox); have GW340 := bZ HB hg; have GE340 := bZ HB hg; have NB339_340 := bL BK339 hg; have NB340_339 := bG BK339 hg; replace BK339 := bB BK339 hb; replace HB := bW HB hb; clear hb hbox hg; have hnb5 := NB339_340.out; have hnc5 := NB340_339.out; obtain ⟨hcz6_0, hcz6_1, hcz6_2, hfz6_0, hfz6_1, hfz6_2⟩ := bf3 (w := w4) BK339) | ((with_reducible refine gate_callee (f := 13) rfl ?_); refine gL (some 5) Try.func13 #[.string a0_2, .int .i64 25] ?_; (with_reducible refine (engrosslaw1_Cut.calls a0_2 25 t341 _ A2.out).mono ?_); rintro e w' ⟨rfl, ⟨nd, rfl⟩⟩; refine ⟨_, rfl, ?_⟩; (try (rw [drewN_self w4]; generalize hq_ : World.drewN w4 _ = w4; have n0_ := bE BK339 hq_.symm; have n1_ := bE BK340 hq_.symm; have n2_ := bH HB hq_.symm; clear BK339 BK340 HB hq_; have BK339 := n0_; have BK340 := n1_; have HB := n2_; clear n0_ n1_ n2_)); obtain ⟨hcz7_0, hcz7_1, hcz7_2, hfz7_0, hfz7_1, hfz7_2⟩ := bf3 (w := w4) BK339; obtain ⟨hcz8_0, hcz8_1, hcz8_2, hfz8_0, hfz8_1, hfz8_2⟩ := bf3 (w := w4) BK340))
 refine bodyPost_ret (results_cell_row rfl _ _ gb340 54 #[.int .i64 a0_0, .float .f64 a0_1, .string t341] (0, 0) _ rfl (bR BK340) Try.underlying54 rfl (by kernel_rfl)) rfl ?_
 exact xB HB
def engrosslaw10_Cut.f (a0_0 : ByteArray) (a0_1 : Int) (a0_2 : Nat) (a0_3 : ByteArray) (a0_4 : Int) (a0_5 : Int) (a0_6 : Nat) (a0_7 : ByteArray) : Option (ByteArray × Int × Nat × ByteArray × Int × Int × Nat × ByteArray) := (engrosslaw1_Cut.f a0_0 20).bind fun t344 => ((engrosslaw10_Val.f a0_1 a0_2 a0_3).bind fun bt345 => ((engrosslaw10_Val.f a0_5 a0_6 a0_7).bind fun bt348 => (some (t344, bt345.1, bt345.2.1, bt345.2.2, a0_4, bt348.1, bt348.2.1, bt348.2.2))))
def engrosslaw10_Cut.T1 : Bool × List (List Nat × List Nat) := (true, [([], []), ([0], [0]), ([1], [1]), ([], []), ([3], [3]), ([4, 2], [4]), ([], []), ([6], [6]), ([7, 5], [7]), ([0, 1, 2, 3, 4, 6, 7], []), ([9, 2, 8, 0, 1, 2, 3, 4, 6, 7], [2, 9]), ([0, 1, 2, 3, 4, 5, 6, 7, 9, 10], []), ([11, 5, 10, 0, 1, 2, 3, 4, 5, 6, 7, 9, 10], [5, 11]), ([0, 1, 2, 3, 4, 5, 6, 7, 8, 9, 10, 11, 12], []), ([13, 8, 12, 0, 1, 2, 3, 4, 5, 6, 7, 8, 9, 10, 11, 12], [8, 13])])
def engrosslaw10_Cut.B1 : List Nat := [0, 1, 3, 0, 8, 31, 0, 64, 255, 223, 1023, 2047, 4095, 8191, 16383]
theorem engrosslaw10_Cut.tab1 : rtab .any (opsOf Try.f27 1) = engrosslaw10_Cut.T1 := by kernel_rfl
theorem engrosslaw10_Cut.bits1 : waitsOk engrosslaw10_Cut.T1.2 engrosslaw10_Cut.B1 = true := by kernel_rfl
set_option maxHeartbeats 8000000 in
set_option maxRecDepth 100000 in
theorem engrosslaw10_Cut.calls (a0_0 : ByteArray) (a0_1 : Int) (a0_2 : Nat) (a0_3 : ByteArray) (a0_4 : Int) (a0_5 : Int) (a0_6 : Nat) (a0_7 : ByteArray) (r1 : ByteArray) (r2 : Int) (r3 : Nat) (r4 : ByteArray) (r5 : Int) (r6 : Int) (r7 : Nat) (r8 : ByteArray) (w : World) (h : engrosslaw10_Cut.f a0_0 a0_1 a0_2 a0_3 a0_4 a0_5 a0_6 a0_7 = some (r1, r2, r3, r4, r5, r6, r7, r8)) :
  Calls Try.prog 27 #[.agg #[.string a0_0, .int .i64 a0_1, .float .f64 a0_2, .string a0_3, .int .i64 a0_4, .int .i64 a0_5, .float .f64 a0_6, .string a0_7]] w fun e w' => e = .returned (.agg #[.string r1, .int .i64 r2, .float .f64 r3, .string r4, .int .i64 r5, .int .i64 r6, .float .f64 r7, .string r8]) ∧ Below w.heap.size w w' := by
 have hu56 := Try.underlying56
 have hu54 := Try.underlying54
 have HB := Aside0.mk (Below.refl w.heap.size w)
 have H : ((engrosslaw1_Cut.f a0_0 20).bind fun t344 => ((engrosslaw10_Val.f a0_1 a0_2 a0_3).bind fun bt345 => ((engrosslaw10_Val.f a0_5 a0_6 a0_7).bind fun bt348 => (some (t344, bt345.1, bt345.2.1, bt345.2.2, a0_4, bt348.1, bt348.2.1, bt348.2.2))))) = some (r1, r2, r3, r4, r5, r6, r7, r8) := h
 clear h
 replace H := Option.bind_eq_some_iff.mp H
 obtain ⟨t344, A20, H⟩ := H
 replace H : ((engrosslaw10_Val.f a0_1 a0_2 a0_3).bind fun bt345 => ((engrosslaw10_Val.f a0_5 a0_6 a0_7).bind fun bt348 => (some (t344, bt345.1, bt345.2.1, bt345.2.2, a0_4, bt348.1, bt348.2.1, bt348.2.2)))) = some (r1, r2, r3, r4, r5, r6, r7, r8) := H
 have A2 := Aside0.mk A20
 clear A20
 replace H := Option.bind_eq_some_iff.mp H
 obtain ⟨⟨t345, t346, t347⟩, A30, H⟩ := H
 replace H : ((engrosslaw10_Val.f a0_5 a0_6 a0_7).bind fun bt348 => (some (t344, t345, t346, t347, a0_4, bt348.1, bt348.2.1, bt348.2.2))) = some (r1, r2, r3, r4, r5, r6, r7, r8) := H
 have A3 := Aside0.mk A30
 clear A30
 replace H := Option.bind_eq_some_iff.mp H
 obtain ⟨⟨t348, t349, t350⟩, A40, H⟩ := H
 replace H : (some (t344, t345, t346, t347, a0_4, t348, t349, t350)) = some (r1, r2, r3, r4, r5, r6, r7, r8) := H
 have A4 := Aside0.mk A40
 clear A40
 simp only [Option.some.injEq, Prod.mk.injEq] at H
 obtain ⟨rfl, rfl, rfl, rfl, rfl, rfl, rfl, rfl⟩ := H
 go_enter Try.func27, Try.ntmps27
 try go_wp2_with (first | ((with_reducible refine gate_dst (N := 1) rfl ?_); refine box_event ?hg (N := 1) ?hd (cs := #[.string a0_0, .int .i64 a0_1, .float .f64 a0_2, .string a0_3, .int .i64 a0_4, .int .i64 a0_5, .float .f64 a0_6, .string a0_7]) (t := 56) ?hr ?_; (case hd => rfl); (case hg => rfl); (case hr => first | (go_simp; done) | (go_simp; rfl)); intro gb342 hg w5 hbox hb; have BK342 := Aside0.mk (hbox); have GW342 := bZ HB hg; have GE342 := bZ HB hg; replace HB := bW HB hb; clear hb hbox hg) | ((with_reducible refine gate_dst (N := 2) rfl ?_); refine box_event ?hg (N := 2) ?hd (cs := #[.string (⟨#[]⟩ : ByteArray), .int .i64 0, .float .f64 0, .string (⟨#[]⟩ : ByteArray), .int .i64 0, .int .i64 0, .float .f64 0, .string (⟨#[]⟩ : ByteArray)]) (t := 56) ?hr ?_; (case hd => rfl); (case hg => rfl); (case hr => first | (go_simp; done) | (go_simp; rfl)); intro gb343 hg w6 hbox hb; have BK343 := Aside0.mk (hbox); have GW343 := bZ HB hg; have GE343 := bZ HB hg; have NB342_343 := bL BK342 hg; have NB343_342 := bG BK342 hg; replace BK342 := bB BK342 hb; replace HB := bW HB hb; clear hb hbox hg))
 replace BK342 := Aside0.mk (blk_drew BK342.out)
 replace BK343 := Aside0.mk (blk_drew BK343.out)
 replace HB := Aside0.mk (below_drew1 HB.out)
 refine start_ (n := 15) (S := fun w' => w'.cell? ⟨gb342, 0, none⟩ = some (.string a0_0) ∧ w'.cell? ⟨gb342, 1, none⟩ = some (.int .i64 a0_1) ∧ w'.cell? ⟨gb342, 2, none⟩ = some (.float .f64 a0_2) ∧ w'.cell? ⟨gb342, 3, none⟩ = some (.string a0_3) ∧ w'.cell? ⟨gb342, 4, none⟩ = some (.int .i64 a0_4) ∧ w'.cell? ⟨gb342, 5, none⟩ = some (.int .i64 a0_5) ∧ w'.cell? ⟨gb342, 6, none⟩ = some (.float .f64 a0_6) ∧ w'.cell? ⟨gb342, 7, none⟩ = some (.string a0_7)) (ds := [10, 12, 14]) #[false,false,false,false,false,false,false,false,false,false,false,false,false,false,false] (by kernel_rfl) rfl rfl (be8 BK342) (fun hHeld => ?_); refine with_tabW engrosslaw10_Cut.tab1 engrosslaw10_Cut.bits1 (fun HT_ HW_ => ?_)
 generalize w6.drew = w7 at BK342 BK343 HB hHeld ⊢
 refine pA 0 3 HT_ ?_
 refine pA 3 6 HT_ ?_
 refine pA 6 9 HT_ ?_
 refine tA 1 4 HT_ HW_ hHeld ?_ (hy := by rintro w' ⟨s0, s1, s2, s3, s4, s5, s6, s7⟩; go_simp; with_reducible rfl)
 refine tA 4 7 HT_ HW_ hHeld ?_ (hy := by rintro w' ⟨s0, s1, s2, s3, s4, s5, s6, s7⟩; go_simp; with_reducible rfl)
 refine tA 7 10 HT_ HW_ hHeld ?_ (hy := by rintro w' ⟨s0, s1, s2, s3, s4, s5, s6, s7⟩; go_simp; with_reducible rfl)
 refine oA 2 (some 5) HT_ (fun K hK => ?_)
 refine goes_ Try.func13 (by kernel_rfl) rfl #[.string a0_0, .int .i64 20] (by rfl) rfl rfl (by (try simp only [List.map_toArray, List.map_cons, List.map_nil]); first | done | rfl | (simp only [List.length_drop, List.length_take]; rfl)) ?_
 with_reducible refine (engrosslaw1_Cut.calls a0_0 20 t344 _ A2.out).mono ?_
 rintro e w' ⟨rfl, ⟨nd, rfl⟩⟩
 refine ⟨_, rfl, ?_⟩
 refine hK.out _ _ (be8 BK342) (fun hHeld => ?_)
 clear hK K
 refine norm_ (a' := ?_) ?_ ?_
 rotate_left
 ·show Act.put _ (some 5) _ = _
  simp only [Act.put, List.setIfInBounds_toArray, List.set_cons_zero, List.set_cons_succ, i64_w, i32_w]
  rfl
 refine pA 9 12 HT_ ?_
 refine oA 5 (some 8) HT_ (fun K hK => ?_)
 refine goes_ Try.func45 (by kernel_rfl) rfl #[.agg #[.int .i64 a0_1, .float .f64 a0_2, .string a0_3]] (by rfl) rfl rfl (by (try simp only [List.map_toArray, List.map_cons, List.map_nil]); first | done | rfl | (simp only [List.length_drop, List.length_take]; rfl)) ?_
 with_reducible refine (engrosslaw10_Val.calls a0_1 a0_2 a0_3 t345 t346 t347 _ A3.out).mono ?_
 rintro e w8 ⟨rfl, hb⟩
 refine ⟨_, rfl, ?_⟩
 replace BK342 := bB BK342 hb
 replace BK343 := bB BK343 hb
 replace HB := bW HB hb
 (try clear hb)
 (try clear hb2)
 (try clear hk)
 (try clear hi)
 refine hK.out _ _ (be8 BK342) (fun hHeld => ?_)
 clear hK K
 refine norm_ (a' := ?_) ?_ ?_
 rotate_left
 ·show Act.put _ (some 8) _ = _
  simp only [Act.put, List.setIfInBounds_toArray, List.set_cons_zero, List.set_cons_succ, i64_w, i32_w]
  rfl
 refine oA 8 (some 11) HT_ (fun K hK => ?_)
 refine goes_ Try.func45 (by kernel_rfl) rfl #[.agg #[.int .i64 a0_5, .float .f64 a0_6, .string a0_7]] (by rfl) rfl rfl (by (try simp only [List.map_toArray, List.map_cons, List.map_nil]); first | done | rfl | (simp only [List.length_drop, List.length_take]; rfl)) ?_
 with_reducible refine (engrosslaw10_Val.calls a0_5 a0_6 a0_7 t348 t349 t350 _ A4.out).mono ?_
 rintro e w9 ⟨rfl, hb⟩
 refine ⟨_, rfl, ?_⟩
 replace BK342 := bB BK342 hb
 replace BK343 := bB BK343 hb
 replace HB := bW HB hb
 (try clear hb)
 (try clear hb2)
 (try clear hk)
 (try clear hi)
 refine hK.out _ _ (be8 BK342) (fun hHeld => ?_)
 clear hK K
 refine norm_ (a' := ?_) ?_ ?_
 rotate_left
 ·show Act.put _ (some 11) _ = _
  simp only [Act.put, List.setIfInBounds_toArray, List.set_cons_zero, List.set_cons_succ, i64_w, i32_w]
  rfl
 refine last_ (i := 10) (N := none) #[true,true,true,true,true,true,true,true,true,true,true,false,false,false,false] rfl rfl (one_of HT_.out (by kernel_rfl)) (by decide) (fun K hK => ?_)
 have hs10 : w9.cell? ⟨gb342, 0, none⟩ = some (.string a0_0) := (blk_cell BK342.out 0).trans rfl
 have hfs10 := blk_frozen BK342.out 0
 have hns10_1 := NB343_342.out
 have hms10_1 := NB342_343.out
 with_reducible refine skip_ (w1 := ?_) (by with_unfolding_all rfl) (by with_unfolding_all rfl) ?_ ?_
 rotate_left
 ·go_simp
  rfl
 refine hK.out _ _ ?_
 clear hK K
 refine pA 11 13 HT_ ?_
 refine last_ (i := 12) (N := none) #[true,true,true,true,true,true,true,true,true,true,true,true,true,false,false] rfl rfl (one_of HT_.out (by kernel_rfl)) (by decide) (fun K hK => ?_)
 have hs11 : w9.cell? ⟨gb342, 1, none⟩ = some (.int .i64 a0_1) := (blk_cell BK342.out 1).trans rfl
 have hfs11 := blk_frozen BK342.out 1
 have hns11_1 := NB343_342.out
 have hms11_1 := NB342_343.out
 have hs12 : w9.cell? ⟨gb342, 2, none⟩ = some (.float .f64 a0_2) := (blk_cell BK342.out 2).trans rfl
 have hfs12 := blk_frozen BK342.out 2
 have hns12_1 := NB343_342.out
 have hms12_1 := NB342_343.out
 have hs13 : w9.cell? ⟨gb342, 3, none⟩ = some (.string a0_3) := (blk_cell BK342.out 3).trans rfl
 have hfs13 := blk_frozen BK342.out 3
 have hns13_1 := NB343_342.out
 have hms13_1 := NB342_343.out
 with_reducible refine skip_ (w1 := ?_) (by with_unfolding_all rfl) (by with_unfolding_all rfl) ?_ ?_
 rotate_left
 ·go_simp
  rfl
 refine hK.out _ _ ?_
 clear hK K
 refine pA 13 14 HT_ ?_
 refine last_ (i := 14) (N := none) #[true,true,true,true,true,true,true,true,true,true,true,true,true,true,true] rfl rfl (one_of HT_.out (by kernel_rfl)) (by decide) (fun K hK => ?_)
 have hs14 : w9.cell? ⟨gb342, 5, none⟩ = some (.int .i64 a0_5) := (blk_cell BK342.out 5).trans rfl
 have hfs14 := blk_frozen BK342.out 5
 have hns14_1 := NB343_342.out
 have hms14_1 := NB342_343.out
 have hs15 : w9.cell? ⟨gb342, 6, none⟩ = some (.float .f64 a0_6) := (blk_cell BK342.out 6).trans rfl
 have hfs15 := blk_frozen BK342.out 6
 have hns15_1 := NB343_342.out
 have hms15_1 := NB342_343.out
 have hs16 : w9.cell? ⟨gb342, 7, none⟩ = some (.string a0_7) := (blk_cell BK342.out 7).trans rfl
 have hfs16 := blk_frozen BK342.out 7
 have hns16_1 := NB343_342.out
 have hms16_1 := NB342_343.out
 with_reducible refine skip_ (w1 := ?_) (by with_unfolding_all rfl) (by with_unfolding_all rfl) ?_ ?_
 rotate_left
 ·go_simp
  rfl
 refine hK.out _ _ ?_
 clear hK K
 refine done_ (done_of HT_.out (by kernel_rfl)) ?_
 have hnb17 := NB342_343.out
 have hnc17 := NB343_342.out
 obtain ⟨hcz18_0, hcz18_1, hcz18_2, hcz18_3, hcz18_4, hcz18_5, hcz18_6, hcz18_7, hfz18_0, hfz18_1, hfz18_2, hfz18_3, hfz18_4, hfz18_5, hfz18_6, hfz18_7⟩ := bf8 (w := w9) BK342
 obtain ⟨hcz19_0, hcz19_1, hcz19_2, hcz19_3, hcz19_4, hcz19_5, hcz19_6, hcz19_7, hfz19_0, hfz19_1, hfz19_2, hfz19_3, hfz19_4, hfz19_5, hfz19_6, hfz19_7⟩ := bf8 (w := w9) BK343
 try go_wp2
 refine bodyPost_ret (results_cell_row rfl _ _ gb343 56 #[.string t344, .int .i64 t345, .float .f64 t346, .string t347, .int .i64 a0_4, .int .i64 t348, .float .f64 t349, .string t350] (0, 0) _ rfl (bR BK343) Try.underlying56 rfl (by kernel_rfl)) rfl ?_
 exact xB HB
end Go.Proofs.Ytmmjpieafbjggaa.P
end
section
namespace Go.Proofs.Ytmmjpieafbjggaa.P
open Go.RowKit Go.Proofs.YtmmjpieafbjggaaW.PrintWords Go.Proofs.YtmmjpieafbjggaaW.PrintLast Go.Proofs.YtmmjpieafbjggaaW.PrintMore
attribute [local go_sem] max2_int min2_int max_two min_two max_three min_three max_four min_four   -- for this text's walks alone
attribute [local go_sem] x_str_gtr x_str_leq x_str_geq ext_bits ext_frombits ext_neg x_store_float Instr.field asAgg
set_option linter.unusedVariables false
set_option linter.unusedSimpArgs false
def engrossref1_MayKey.f (a0 : ByteArray) : Option (Bool) := if (a0.size : Int) ≥ 1 then (some (decide ((a0.size : Int) ≤ 16))) else (some false)
set_option maxHeartbeats 8000000 in
set_option maxRecDepth 100000 in
theorem engrossref1_MayKey.calls (a0 : ByteArray) (r : Bool) (w : World) (h : engrossref1_MayKey.f a0 = some r) :
  Calls Try.prog 32 #[.string a0] w fun e w' => e = .returned (.bool r) ∧ Drawn0 w w' := by
 have H : (if (a0.size : Int) ≥ 1 then (some (decide ((a0.size : Int) ≤ 16))) else (some false)) = some r := h
 clear h
 by_cases c2 : (a0.size : Int) ≥ 1
 ·rw [if_pos c2] at H
  have c2b0 : decide (1 ≤ (a0.size : Int)) = true := decide_eq_true c2
  have c2b1 : decide (1 ≤ a0.size) = true := decide_eq_true (by omega)
  clear c2
  obtain rfl := Option.some.inj H
  go_enter Try.func32, Try.ntmps32
  go_wp2
  go_ret
  exact ⟨by first | rfl | (simp; done) | (simp [*]; done), by repeat (first | exact Drawn0.refl _ | apply Drawn0.step)⟩
 rw [if_neg c2] at H
 have c2b0 : decide (1 ≤ (a0.size : Int)) = false := decide_eq_false c2
 have c2b1 : decide (1 ≤ a0.size) = false := decide_eq_false (by omega)
 clear c2
 obtain rfl := Option.some.inj H
 go_enter Try.func32, Try.ntmps32
 go_wp2
 go_ret
 exact ⟨by first | rfl | (simp; done) | (simp [*]; done), by repeat (first | exact Drawn0.refl _ | apply Drawn0.step)⟩
def engrossref1_bits.f (a0 : Nat) : Option (Int) := some ((a0 : Nat) : Int)
set_option maxHeartbeats 8000000 in
set_option maxRecDepth 100000 in
theorem engrossref1_bits.calls (a0 : Nat) (r : Int) (w : World) (h : engrossref1_bits.f a0 = some r) :
  Calls Try.prog 59 #[.float .f64 a0] w fun e w' => e = .returned (.int .u64 r) ∧ Drawn0 w w' := by
 have H : (some ((a0 : Nat) : Int)) = some r := h
 clear h
 obtain rfl := Option.some.inj H
 go_enter Try.func59, Try.ntmps59
 go_wp2
 go_ret
 exact ⟨by first | rfl | (simp; done) | (simp [*]; done), by repeat (first | exact Drawn0.refl _ | apply Drawn0.step)⟩
def engrossref1_Bits.f (a0 : Nat) (a1 : Nat) : Option (Bool) := (engrossref1_bits.f a0).bind fun t375 => ((engrossref1_bits.f a1).bind fun t376 => (some (t375 == t376)))
set_option maxHeartbeats 8000000 in
set_option maxRecDepth 100000 in
theorem engrossref1_Bits.calls (a0 : Nat) (a1 : Nat) (r : Bool) (w : World) (h : engrossref1_Bits.f a0 a1 = some r) :
  Calls Try.prog 60 #[.float .f64 a0, .float .f64 a1] w fun e w' => e = .returned (.bool r) ∧ Drawn0 w w' := by
 have H : ((engrossref1_bits.f a0).bind fun t375 => ((engrossref1_bits.f a1).bind fun t376 => (some (t375 == t376)))) = some r := h
 clear h
 replace H := Option.bind_eq_some_iff.mp H
 obtain ⟨t375, A30, H⟩ := H
 replace H : ((engrossref1_bits.f a1).bind fun t376 => (some (t375 == t376))) = some r := H
 have A3 := Aside0.mk A30
 clear A30
 replace H := Option.bind_eq_some_iff.mp H
 obtain ⟨t376, A40, H⟩ := H
 replace H : (some (t375 == t376)) = some r := H
 have A4 := Aside0.mk A40
 clear A40
 obtain rfl := Option.some.inj H
 go_enter Try.func60, Try.ntmps60
 go_wp2_with (first | ((with_reducible refine gate_callee (f := 59) rfl ?_); refine gL (some 6) Try.func59 #[.float .f64 a0] ?_; (with_reducible refine (engrossref1_bits.calls a0 t375 _ A3.out).mono ?_); rintro e w' ⟨rfl, ⟨nd, rfl⟩⟩; refine ⟨_, rfl, ?_⟩) | ((with_reducible refine gate_callee (f := 59) rfl ?_); refine gL (some 8) Try.func59 #[.float .f64 a1] ?_; (with_reducible refine (engrossref1_bits.calls a1 t376 _ A4.out).mono ?_); rintro e w' ⟨rfl, ⟨nd, rfl⟩⟩; refine ⟨_, rfl, ?_⟩))
 go_ret
 exact ⟨by first | rfl | (simp; done) | (simp [*]; done), by repeat (first | exact Drawn0.refl _ | apply Drawn0.step)⟩
def engrossref1_NaN.f (a0 : Nat) : Option (Bool) := if (Go.bits .and .u64 ((a0 : Nat) : Int) 9218868437227405312) = 9218868437227405312 then (some ((Go.bits .and .u64 ((a0 : Nat) : Int) 4503599627370495) != 0)) else (some false)
set_option maxHeartbeats 8000000 in
set_option maxRecDepth 100000 in
theorem engrossref1_NaN.calls (a0 : Nat) (r : Bool) (w : World) (h : engrossref1_NaN.f a0 = some r) :
  Calls Try.prog 69 #[.float .f64 a0] w fun e w' => e = .returned (.bool r) ∧ Drawn0 w w' := by
 have H : (if (Go.bits .and .u64 ((a0 : Nat) : Int) 9218868437227405312) = 9218868437227405312 then (some ((Go.bits .and .u64 ((a0 : Nat) : Int) 4503599627370495) != 0)) else (some false)) = some r := h
 clear h
 by_cases c2 : (Go.bits .and .u64 ((a0 : Nat) : Int) 9218868437227405312) = 9218868437227405312
 rotate_left
 ·rw [if_neg c2] at H
  have c2b0 : ((Go.bits .and .u64 ((a0 : Nat) : Int) 9218868437227405312) == 9218868437227405312) = false := beq_eq_false_iff_ne.mpr c2
  have c2b1 : ((Go.bits .and .u64 ((a0 : Nat) : Int) 9218868437227405312) != 9218868437227405312) = true := bne_iff_ne.mpr c2
  obtain rfl := Option.some.inj H
  go_enter Try.func69, Try.ntmps69
  go_wp2
  go_ret
  exact ⟨by first | rfl | (simp; done) | (simp [*]; done), by repeat (first | exact Drawn0.refl _ | apply Drawn0.step)⟩
 rw [if_pos c2] at H
 have c2b0 : ((Go.bits .and .u64 ((a0 : Nat) : Int) 9218868437227405312) == 9218868437227405312) = true := beq_iff_eq.mpr c2
 have c2b1 : ((Go.bits .and .u64 ((a0 : Nat) : Int) 9218868437227405312) != 9218868437227405312) = false := bne_eq_false_iff_eq.mpr c2
 clear c2
 obtain rfl := Option.some.inj H
 go_enter Try.func69, Try.ntmps69
 go_wp2
 go_ret
 exact ⟨by first | rfl | (simp; done) | (simp [*]; done), by repeat (first | exact Drawn0.refl _ | apply Drawn0.step)⟩
def engrossref1_Clean.f (a0 : Nat) : Option (Nat) := (engrossref1_NaN.f a0).bind fun t377 => (if t377 = true then (some 9221120237041090560) else (some a0))
set_option maxHeartbeats 8000000 in
set_option maxRecDepth 100000 in
theorem engrossref1_Clean.calls (a0 : Nat) (r : Nat) (w : World) (h : engrossref1_Clean.f a0 = some r) :
  Calls Try.prog 61 #[.float .f64 a0] w fun e w' => e = .returned (.float .f64 r) ∧ Drawn0 w w' := by
 have H : ((engrossref1_NaN.f a0).bind fun t377 => (if t377 = true then (some 9221120237041090560) else (some a0))) = some r := h
 clear h
 replace H := Option.bind_eq_some_iff.mp H
 obtain ⟨t377, A20, H⟩ := H
 replace H : (if t377 = true then (some 9221120237041090560) else (some a0)) = some r := H
 have A2 := Aside0.mk A20
 clear A20
 by_cases c3 : t377 = true
 ·subst c3
  have H1 : (some 9221120237041090560) = some r := by rw [if_pos rfl] at H; exact H
  clear H
  have H := H1
  clear H1
  obtain rfl := Option.some.inj H
  go_enter Try.func61, Try.ntmps61
  go_wp2_with (first | ((with_reducible refine gate_callee (f := 69) rfl ?_); refine gL (some 4) Try.func69 #[.float .f64 a0] ?_; (with_reducible refine (engrossref1_NaN.calls a0 true _ A2.out).mono ?_); rintro e w' ⟨rfl, ⟨nd, rfl⟩⟩; refine ⟨_, rfl, ?_⟩))
  go_ret
  exact ⟨by first | rfl | (simp; done) | (simp [*]; done), by repeat (first | exact Drawn0.refl _ | apply Drawn0.step)⟩
 replace c3 := Bool.eq_false_iff.mpr c3
 subst c3
 have H1 : (some a0) = some r := by rw [if_neg (show ¬ (false = true) by decide)] at H; exact H
 clear H
 have H := H1
 clear H1
 obtain rfl := Option.some.inj H
 go_enter Try.func61, Try.ntmps61
 go_wp2_with (first | ((with_reducible refine gate_callee (f := 69) rfl ?_); refine gL (some 4) Try.func69 #[.float .f64 a0] ?_; (with_reducible refine (engrossref1_NaN.calls a0 false _ A2.out).mono ?_); rintro e w' ⟨rfl, ⟨nd, rfl⟩⟩; refine ⟨_, rfl, ?_⟩))
 go_ret
 exact ⟨by first | rfl | (simp; done) | (simp [*]; done), by repeat (first | exact Drawn0.refl _ | apply Drawn0.step)⟩
def engrossref1_MayVal.f (a0_0 : Int) (a0_1 : Nat) (a0_2 : ByteArray) : Option (Bool) := if a0_0 = 0 then ((engrossref1_bits.f a0_1).bind fun t379 => (if t379 = 0 then (some (a0_2.toList == ([] : List UInt8))) else (some false))) else (if a0_0 = 1 then (if a0_2.toList = ([] : List UInt8) then ((engrossref1_Clean.f a0_1).bind fun t380 => ((engrossref1_Bits.f t380 a0_1).bind fun t381 => (some t381))) else (some false)) else (if a0_0 = 2 then ((engrossref1_bits.f a0_1).bind fun t382 => (if t382 = 0 then (some (decide ((a0_2.size : Int) ≤ 20))) else (some false))) else (some false)))
set_option maxHeartbeats 8000000 in
set_option maxRecDepth 100000 in
theorem engrossref1_MayVal.calls (a0_0 : Int) (a0_1 : Nat) (a0_2 : ByteArray) (r : Bool) (w : World) (h : engrossref1_MayVal.f a0_0 a0_1 a0_2 = some r) :
  Calls Try.prog 47 #[.agg #[.int .i64 a0_0, .float .f64 a0_1, .string a0_2]] w fun e w' => e = .returned (.bool r) ∧ Below w.heap.size w w' := by
 have hu54 := Try.underlying54
 have HB := Aside0.mk (Below.refl w.heap.size w)
 have H : (if a0_0 = 0 then ((engrossref1_bits.f a0_1).bind fun t379 => (if t379 = 0 then (some (a0_2.toList == ([] : List UInt8))) else (some false))) else (if a0_0 = 1 then (if a0_2.toList = ([] : List UInt8) then ((engrossref1_Clean.f a0_1).bind fun t380 => ((engrossref1_Bits.f t380 a0_1).bind fun t381 => (some t381))) else (some false)) else (if a0_0 = 2 then ((engrossref1_bits.f a0_1).bind fun t382 => (if t382 = 0 then (some (decide ((a0_2.size : Int) ≤ 20))) else (some false))) else (some false)))) = some r := h
 clear h
 by_cases c2 : a0_0 = 0
 ·rw [if_pos c2] at H
  have c2b0 : (a0_0 == 0) = true := beq_iff_eq.mpr c2
  have c2b1 : (a0_0 != 0) = false := bne_eq_false_iff_eq.mpr c2
  clear c2
  replace H := Option.bind_eq_some_iff.mp H
  obtain ⟨t379, A30, H⟩ := H
  replace H : (if t379 = 0 then (some (a0_2.toList == ([] : List UInt8))) else (some false)) = some r := H
  have A3 := Aside0.mk A30
  clear A30
  by_cases c4 : t379 = 0
  rotate_left
  ·rw [if_neg c4] at H
   have c4b0 : (t379 == 0) = false := beq_eq_false_iff_ne.mpr c4
   have c4b1 : (t379 != 0) = true := bne_iff_ne.mpr c4
   obtain rfl := Option.some.inj H
   go_enter Try.func47, Try.ntmps47
   go_wp2_with (first | ((with_reducible refine gate_dst (N := 1) rfl ?_); (try (refine gate_guard (by rfl) ?_; dsimp only)); refine box_event ?hg (N := 1) ?hd (cs := #[.int .i64 a0_0, .float .f64 a0_1, .string a0_2]) (t := 54) ?hr ?_; (case hd => rfl); (case hg => rfl); (case hr => first | (go_simp; done) | (go_simp; rfl)); intro gb378 hg w7 hbox hb; have BK378 := Aside0.mk (hbox); have GW378 := bZ HB hg; have GE378 := bZ HB hg; replace HB := bW HB hb; clear hb hbox hg; obtain ⟨hcz8_0, hcz8_1, hcz8_2, hfz8_0, hfz8_1, hfz8_2⟩ := bf3 (w := w7) BK378) | (go_at_call 59; (with_reducible refine (engrossref1_bits.calls a0_1 t379 _ A3.out).mono ?_); rintro e w' ⟨rfl, ⟨nd, rfl⟩⟩; (try first | exact ⟨rfl, _, World.drewN_drewN _ _ _⟩ | exact ⟨rfl, _, Eq.trans (World.drewN_drewN _ _ _) (congrArg (World.drewN _) (Nat.add_assoc _ _ _))⟩)))
   repeat (go_quiet (first | ((with_reducible refine gate_dst (N := 1) rfl ?_); (try (refine gate_guard (by rfl) ?_; dsimp only)); refine box_event ?hg (N := 1) ?hd (cs := #[.int .i64 a0_0, .float .f64 a0_1, .string a0_2]) (t := 54) ?hr ?_; (case hd => rfl); (case hg => rfl); (case hr => first | (go_simp; done) | (go_simp; rfl)); intro gb378 hg w7 hbox hb; have BK378 := Aside0.mk (hbox); have GW378 := bZ HB hg; have GE378 := bZ HB hg; replace HB := bW HB hb; clear hb hbox hg; obtain ⟨hcz8_0, hcz8_1, hcz8_2, hfz8_0, hfz8_1, hfz8_2⟩ := bf3 (w := w7) BK378) | (go_at_call 59; (with_reducible refine (engrossref1_bits.calls a0_1 t379 _ A3.out).mono ?_); rintro e w' ⟨rfl, ⟨nd, rfl⟩⟩; (try first | exact ⟨rfl, _, World.drewN_drewN _ _ _⟩ | exact ⟨rfl, _, Eq.trans (World.drewN_drewN _ _ _) (congrArg (World.drewN _) (Nat.add_assoc _ _ _))⟩))); try go_wp2_with (first | ((with_reducible refine gate_dst (N := 1) rfl ?_); (try (refine gate_guard (by rfl) ?_; dsimp only)); refine box_event ?hg (N := 1) ?hd (cs := #[.int .i64 a0_0, .float .f64 a0_1, .string a0_2]) (t := 54) ?hr ?_; (case hd => rfl); (case hg => rfl); (case hr => first | (go_simp; done) | (go_simp; rfl)); intro gb378 hg w7 hbox hb; have BK378 := Aside0.mk (hbox); have GW378 := bZ HB hg; have GE378 := bZ HB hg; replace HB := bW HB hb; clear hb hbox hg; obtain ⟨hcz8_0, hcz8_1, hcz8_2, hfz8_0, hfz8_1, hfz8_2⟩ := bf3 (w := w7) BK378) | (go_at_call 59; (with_reducible refine (engrossref1_bits.calls a0_1 t379 _ A3.out).mono ?_); rintro e w' ⟨rfl, ⟨nd, rfl⟩⟩; (try first | exact ⟨rfl, _, World.drewN_drewN _ _ _⟩ | exact ⟨rfl, _, Eq.trans (World.drewN_drewN _ _ _) (congrArg (World.drewN _) (Nat.add_assoc _ _ _))⟩))))
   go_ret
   exact xB HB
  rw [if_pos c4] at H
  have c4b0 : (t379 == 0) = true := beq_iff_eq.mpr c4
  have c4b1 : (t379 != 0) = false := bne_eq_false_iff_eq.mpr c4
  clear c4
  obtain rfl := Option.some.inj H
  go_enter Try.func47, Try.ntmps47
  go_wp2_with (first | ((with_reducible refine gate_dst (N := 1) rfl ?_); (try (refine gate_guard (by rfl) ?_; dsimp only)); refine box_event ?hg (N := 1) ?hd (cs := #[.int .i64 a0_0, .float .f64 a0_1, .string a0_2]) (t := 54) ?hr ?_; (case hd => rfl); (case hg => rfl); (case hr => first | (go_simp; done) | (go_simp; rfl)); intro gb378 hg w5 hbox hb; have BK378 := Aside0.mk (hbox); have GW378 := bZ HB hg; have GE378 := bZ HB hg; replace HB := bW HB hb; clear hb hbox hg; obtain ⟨hcz6_0, hcz6_1, hcz6_2, hfz6_0, hfz6_1, hfz6_2⟩ := bf3 (w := w5) BK378) | (go_at_call 59; (with_reducible refine (engrossref1_bits.calls a0_1 t379 _ A3.out).mono ?_); rintro e w' ⟨rfl, ⟨nd, rfl⟩⟩; (try first | exact ⟨rfl, _, World.drewN_drewN _ _ _⟩ | exact ⟨rfl, _, Eq.trans (World.drewN_drewN _ _ _) (congrArg (World.drewN _) (Nat.add_assoc _ _ _))⟩)))
  repeat (go_quiet (first | ((with_reducible refine gate_dst (N := 1) rfl ?_); (try (refine gate_guard (by rfl) ?_; dsimp only)); refine box_event ?hg (N := 1) ?hd (cs := #[.int .i64 a0_0, .float .f64 a0_1, .string a0_2]) (t := 54) ?hr ?_; (case hd => rfl); (case hg => rfl); (case hr => first | (go_simp; done) | (go_simp; rfl)); intro gb378 hg w5 hbox hb; have BK378 := Aside0.mk (hbox); have GW378 := bZ HB hg; have GE378 := bZ HB hg; replace HB := bW HB hb; clear hb hbox hg; obtain ⟨hcz6_0, hcz6_1, hcz6_2, hfz6_0, hfz6_1, hfz6_2⟩ := bf3 (w := w5) BK378) | (go_at_call 59; (with_reducible refine (engrossref1_bits.calls a0_1 t379 _ A3.out).mono ?_); rintro e w' ⟨rfl, ⟨nd, rfl⟩⟩; (try first | exact ⟨rfl, _, World.drewN_drewN _ _ _⟩ | exact ⟨rfl, _, Eq.trans (World.drewN_drewN _ _ _) (congrArg (World.drewN _) (Nat.add_assoc _ _ _))⟩))); try go_wp2_with (first | ((with_reducible refine gate_dst (N := 1) rfl ?_); (try (refine gate_guard (by rfl) ?_; dsimp only)); refine box_event ?hg (N := 1) ?hd (cs := #[.int .i64 a0_0, .float .f64 a0_1, .string a0_2]) (t := 54) ?hr ?_; (case hd => rfl); (case hg => rfl); (case hr => first | (go_simp; done) | (go_simp; rfl)); intro gb378 hg w5 hbox hb; have BK378 := Aside0.mk (hbox); have GW378 := bZ HB hg; have GE378 := bZ HB hg; replace HB := bW HB hb; clear hb hbox hg; obtain ⟨hcz6_0, hcz6_1, hcz6_2, hfz6_0, hfz6_1, hfz6_2⟩ := bf3 (w := w5) BK378) | (go_at_call 59; (with_reducible refine (engrossref1_bits.calls a0_1 t379 _ A3.out).mono ?_); rintro e w' ⟨rfl, ⟨nd, rfl⟩⟩; (try first | exact ⟨rfl, _, World.drewN_drewN _ _ _⟩ | exact ⟨rfl, _, Eq.trans (World.drewN_drewN _ _ _) (congrArg (World.drewN _) (Nat.add_assoc _ _ _))⟩))))
  go_ret
  exact xB HB
 rw [if_neg c2] at H
 have c2b0 : (a0_0 == 0) = false := beq_eq_false_iff_ne.mpr c2
 have c2b1 : (a0_0 != 0) = true := bne_iff_ne.mpr c2
 by_cases c9 : a0_0 = 1
 ·rw [if_pos c9] at H
  have c9b0 : (a0_0 == 1) = true := beq_iff_eq.mpr c9
  have c9b1 : (a0_0 != 1) = false := bne_eq_false_iff_eq.mpr c9
  clear c9
  by_cases c10 : a0_2.toList = ([] : List UInt8)
  rotate_left
  ·rw [if_neg c10] at H
   have c10b0 : (a0_2.toList == ([] : List UInt8)) = false := beq_eq_false_iff_ne.mpr c10
   have c10b1 : (a0_2.toList != ([] : List UInt8)) = true := bne_iff_ne.mpr c10
   obtain rfl := Option.some.inj H
   go_enter Try.func47, Try.ntmps47
   go_wp2_with (first | ((with_reducible refine gate_dst (N := 1) rfl ?_); (try (refine gate_guard (by rfl) ?_; dsimp only)); refine box_event ?hg (N := 1) ?hd (cs := #[.int .i64 a0_0, .float .f64 a0_1, .string a0_2]) (t := 54) ?hr ?_; (case hd => rfl); (case hg => rfl); (case hr => first | (go_simp; done) | (go_simp; rfl)); intro gb378 hg w15 hbox hb; have BK378 := Aside0.mk (hbox); have GW378 := bZ HB hg; have GE378 := bZ HB hg; replace HB := bW HB hb; clear hb hbox hg; obtain ⟨hcz16_0, hcz16_1, hcz16_2, hfz16_0, hfz16_1, hfz16_2⟩ := bf3 (w := w15) BK378))
   repeat (go_quiet (first | ((with_reducible refine gate_dst (N := 1) rfl ?_); (try (refine gate_guard (by rfl) ?_; dsimp only)); refine box_event ?hg (N := 1) ?hd (cs := #[.int .i64 a0_0, .float .f64 a0_1, .string a0_2]) (t := 54) ?hr ?_; (case hd => rfl); (case hg => rfl); (case hr => first | (go_simp; done) | (go_simp; rfl)); intro gb378 hg w15 hbox hb; have BK378 := Aside0.mk (hbox); have GW378 := bZ HB hg; have GE378 := bZ HB hg; replace HB := bW HB hb; clear hb hbox hg; obtain ⟨hcz16_0, hcz16_1, hcz16_2, hfz16_0, hfz16_1, hfz16_2⟩ := bf3 (w := w15) BK378)); try go_wp2_with (first | ((with_reducible refine gate_dst (N := 1) rfl ?_); (try (refine gate_guard (by rfl) ?_; dsimp only)); refine box_event ?hg (N := 1) ?hd (cs := #[.int .i64 a0_0, .float .f64 a0_1, .string a0_2]) (t := 54) ?hr ?_; (case hd => rfl); (case hg => rfl); (case hr => first | (go_simp; done) | (go_simp; rfl)); intro gb378 hg w15 hbox hb; have BK378 := Aside0.mk (hbox); have GW378 := bZ HB hg; have GE378 := bZ HB hg; replace HB := bW HB hb; clear hb hbox hg; obtain ⟨hcz16_0, hcz16_1, hcz16_2, hfz16_0, hfz16_1, hfz16_2⟩ := bf3 (w := w15) BK378)))
   go_ret
   exact xB HB
  rw [if_pos c10] at H
  have c10b0 : (a0_2.toList == ([] : List UInt8)) = true := beq_iff_eq.mpr c10
  have c10b1 : (a0_2.toList != ([] : List UInt8)) = false := bne_eq_false_iff_eq.mpr c10
  clear c10
  replace H := Option.bind_eq_some_iff.mp H
  obtain ⟨t380, A110, H⟩ := H
  replace H : ((engrossref1_Bits.f t380 a0_1).bind fun t381 => (some t381)) = some r := H
  have A11 := Aside0.mk A110
  clear A110
  replace H := Option.bind_eq_some_iff.mp H
  obtain ⟨t381, A120, H⟩ := H
  replace H : (some t381) = some r := H
  have A12 := Aside0.mk A120
  clear A120
  obtain rfl := Option.some.inj H
  go_enter Try.func47, Try.ntmps47
  go_wp2_with (first | ((with_reducible refine gate_dst (N := 1) rfl ?_); (try (refine gate_guard (by rfl) ?_; dsimp only)); refine box_event ?hg (N := 1) ?hd (cs := #[.int .i64 a0_0, .float .f64 a0_1, .string a0_2]) (t := 54) ?hr ?_; (case hd => rfl); (case hg => rfl); (case hr => first | (go_simp; done) | (go_simp; rfl)); intro gb378 hg w13 hbox hb; have BK378 := Aside0.mk (hbox); have GW378 := bZ HB hg; have GE378 := bZ HB hg; replace HB := bW HB hb; clear hb hbox hg; obtain ⟨hcz14_0, hcz14_1, hcz14_2, hfz14_0, hfz14_1, hfz14_2⟩ := bf3 (w := w13) BK378) | (go_at_call 61; (with_reducible refine (engrossref1_Clean.calls a0_1 t380 _ A11.out).mono ?_); rintro e w' ⟨rfl, ⟨nd, rfl⟩⟩; (try first | exact ⟨rfl, _, World.drewN_drewN _ _ _⟩ | exact ⟨rfl, _, Eq.trans (World.drewN_drewN _ _ _) (congrArg (World.drewN _) (Nat.add_assoc _ _ _))⟩)) | (go_at_call 60; (with_reducible refine (engrossref1_Bits.calls t380 a0_1 t381 _ A12.out).mono ?_); rintro e w' ⟨rfl, ⟨nd, rfl⟩⟩; (try first | exact ⟨rfl, _, World.drewN_drewN _ _ _⟩ | exact ⟨rfl, _, Eq.trans (World.drewN_drewN _ _ _) (congrArg (World.drewN _) (Nat.add_assoc _ _ _))⟩)))
  repeat (go_quiet (first | ((with_reducible refine gate_dst (N := 1) rfl ?_); (try (refine gate_guard (by rfl) ?_; dsimp only)); refine box_event ?hg (N := 1) ?hd (cs := #[.int .i64 a0_0, .float .f64 a0_1, .string a0_2]) (t := 54) ?hr ?_; (case hd => rfl); (case hg => rfl); (case hr => first | (go_simp; done) | (go_simp; rfl)); intro gb378 hg w13 hbox hb; have BK378 := Aside0.mk (hbox); have GW378 := bZ HB hg; have GE378 := bZ HB hg; replace HB := bW HB hb; clear hb hbox hg; obtain ⟨hcz14_0, hcz14_1, hcz14_2, hfz14_0, hfz14_1, hfz14_2⟩ := bf3 (w := w13) BK378) | (go_at_call 61; (with_reducible refine (engrossref1_Clean.calls a0_1 t380 _ A11.out).mono ?_); rintro e w' ⟨rfl, ⟨nd, rfl⟩⟩; (try first | exact ⟨rfl, _, World.drewN_drewN _ _ _⟩ | exact ⟨rfl, _, Eq.trans (World.drewN_drewN _ _ _) (congrArg (World.drewN _) (Nat.add_assoc _ _ _))⟩)) | (go_at_call 60; (with_reducible refine (engrossref1_Bits.calls t380 a0_1 t381 _ A12.out).mono ?_); rintro e w' ⟨rfl, ⟨nd, rfl⟩⟩; (try first | exact ⟨rfl, _, World.drewN_drewN _ _ _⟩ | exact ⟨rfl, _, Eq.trans (World.drewN_drewN _ _ _) (congrArg (World.drewN _) (Nat.add_assoc _ _ _))⟩))); try go_wp2_with (first | ((with_reducible refine gate_dst (N := 1) rfl ?_); (try (refine gate_guard (by rfl) ?_; dsimp only)); refine box_event ?hg (N := 1) ?hd (cs := #[.int .i64 a0_0, .float .f64 a0_1, .string a0_2]) (t := 54) ?hr ?_; (case hd => rfl); (case hg => rfl); (case hr => first | (go_simp; done) | (go_simp; rfl)); intro gb378 hg w13 hbox hb; have BK378 := Aside0.mk (hbox); have GW378 := bZ HB hg; have GE378 := bZ HB hg; replace HB := bW HB hb; clear hb hbox hg; obtain ⟨hcz14_0, hcz14_1, hcz14_2, hfz14_0, hfz14_1, hfz14_2⟩ := bf3 (w := w13) BK378) | (go_at_call 61; (with_reducible refine (engrossref1_Clean.calls a0_1 t380 _ A11.out).mono ?_); rintro e w' ⟨rfl, ⟨nd, rfl⟩⟩; (try first | exact ⟨rfl, _, World.drewN_drewN _ _ _⟩ | exact ⟨rfl, _, Eq.trans (World.drewN_drewN _ _ _) (congrArg (World.drewN _) (Nat.add_assoc _ _ _))⟩)) | (go_at_call 60; (with_reducible refine (engrossref1_Bits.calls t380 a0_1 t381 _ A12.out).mono ?_); rintro e w' ⟨rfl, ⟨nd, rfl⟩⟩; (try first | exact ⟨rfl, _, World.drewN_drewN _ _ _⟩ | exact ⟨rfl, _, Eq.trans (World.drewN_drewN _ _ _) (congrArg (World.drewN _) (Nat.add_assoc _ _ _))⟩))))
  go_ret
  exact xB HB
 rw [if_neg c9] at H
 have c9b0 : (a0_0 == 1) = false := beq_eq_false_iff_ne.mpr c9
 have c9b1 : (a0_0 != 1) = true := bne_iff_ne.mpr c9
 by_cases c17 : a0_0 = 2
 rotate_left
 ·rw [if_neg c17] at H
  have c17b0 : (a0_0 == 2) = false := beq_eq_false_iff_ne.mpr c17
  have c17b1 : (a0_0 != 2) = true := bne_iff_ne.mpr c17
  obtain rfl := Option.some.inj H
  go_enter Try.func47, Try.ntmps47
  go_wp2_with (first | ((with_reducible refine gate_dst (N := 1) rfl ?_); (try (refine gate_guard (by rfl) ?_; dsimp only)); refine box_event ?hg (N := 1) ?hd (cs := #[.int .i64 a0_0, .float .f64 a0_1, .string a0_2]) (t := 54) ?hr ?_; (case hd => rfl); (case hg => rfl); (case hr => first | (go_simp; done) | (go_simp; rfl)); intro gb378 hg w24 hbox hb; have BK378 := Aside0.mk (hbox); have GW378 := bZ HB hg; have GE378 := bZ HB hg; replace HB := bW HB hb; clear hb hbox hg; obtain ⟨hcz25_0, hcz25_1, hcz25_2, hfz25_0, hfz25_1, hfz25_2⟩ := bf3 (w := w24) BK378))
  repeat (go_quiet (first | ((with_reducible refine gate_dst (N := 1) rfl ?_); (try (refine gate_guard (by rfl) ?_; dsimp only)); refine box_event ?hg (N := 1) ?hd (cs := #[.int .i64 a0_0, .float .f64 a0_1, .string a0_2]) (t := 54) ?hr ?_; (case hd => rfl); (case hg => rfl); (case hr => first | (go_simp; done) | (go_simp; rfl)); intro gb378 hg w24 hbox hb; have BK378 := Aside0.mk (hbox); have GW378 := bZ HB hg; have GE378 := bZ HB hg; replace HB := bW HB hb; clear hb hbox hg; obtain ⟨hcz25_0, hcz25_1, hcz25_2, hfz25_0, hfz25_1, hfz25_2⟩ := bf3 (w := w24) BK378)); try go_wp2_with (first | ((with_reducible refine gate_dst (N := 1) rfl ?_); (try (refine gate_guard (by rfl) ?_; dsimp only)); refine box_event ?hg (N := 1) ?hd (cs := #[.int .i64 a0_0, .float .f64 a0_1, .string a0_2]) (t := 54) ?hr ?_; (case hd => rfl); (case hg => rfl); (case hr => first | (go_simp; done) | (go_simp; rfl)); intro gb378 hg w24 hbox hb; have BK378 := Aside0.mk (hbox); have GW378 := bZ HB hg; have GE378 := bZ HB hg; replace HB := bW HB hb; clear hb hbox hg; obtain ⟨hcz25_0, hcz25_1, hcz25_2, hfz25_0, hfz25_1, hfz25_2⟩ := bf3 (w := w24) BK378)))
  go_ret
  exact xB HB
 rw [if_pos c17] at H
 have c17b0 : (a0_0 == 2) = true := beq_iff_eq.mpr c17
 have c17b1 : (a0_0 != 2) = false := bne_eq_false_iff_eq.mpr c17
 clear c17
 replace H := Option.bind_eq_some_iff.mp H
 obtain ⟨t382, A180, H⟩ := H
 replace H : (if t382 = 0 then (some (decide ((a0_2.size : Int) ≤ 20))) else (some false)) = some r := H
 have A18 := Aside0.mk A180
 clear A180
 by_cases c19 : t382 = 0
 rotate_left
 ·rw [if_neg c19] at H
  have c19b0 : (t382 == 0) = false := beq_eq_false_iff_ne.mpr c19
  have c19b1 : (t382 != 0) = true := bne_iff_ne.mpr c19
  obtain rfl := Option.some.inj H
  go_enter Try.func47, Try.ntmps47
  go_wp2_with (first | ((with_reducible refine gate_dst (N := 1) rfl ?_); (try (refine gate_guard (by rfl) ?_; dsimp only)); refine box_event ?hg (N := 1) ?hd (cs := #[.int .i64 a0_0, .float .f64 a0_1, .string a0_2]) (t := 54) ?hr ?_; (case hd => rfl); (case hg => rfl); (case hr => first | (go_simp; done) | (go_simp; rfl)); intro gb378 hg w22 hbox hb; have BK378 := Aside0.mk (hbox); have GW378 := bZ HB hg; have GE378 := bZ HB hg; replace HB := bW HB hb; clear hb hbox hg; obtain ⟨hcz23_0, hcz23_1, hcz23_2, hfz23_0, hfz23_1, hfz23_2⟩ := bf3 (w := w22) BK378) | (go_at_call 59; (with_reducible refine (engrossref1_bits.calls a0_1 t382 _ A18.out).mono ?_); rintro e w' ⟨rfl, ⟨nd, rfl⟩⟩; (try first | exact ⟨rfl, _, World.drewN_drewN _ _ _⟩ | exact ⟨rfl, _, Eq.trans (World.drewN_drewN _ _ _) (congrArg (World.drewN _) (Nat.add_assoc _ _ _))⟩)))
  repeat (go_quiet (first | ((with_reducible refine gate_dst (N := 1) rfl ?_); (try (refine gate_guard (by rfl) ?_; dsimp only)); refine box_event ?hg (N := 1) ?hd (cs := #[.int .i64 a0_0, .float .f64 a0_1, .string a0_2]) (t := 54) ?hr ?_; (case hd => rfl); (case hg => rfl); (case hr => first | (go_simp; done) | (go_simp; rfl)); intro gb378 hg w22 hbox hb; have BK378 := Aside0.mk (hbox); have GW378 := bZ HB hg; have GE378 := bZ HB hg; replace HB := bW HB hb; clear hb hbox hg; obtain ⟨hcz23_0, hcz23_1, hcz23_2, hfz23_0, hfz23_1, hfz23_2⟩ := bf3 (w := w22) BK378) | (go_at_call 59; (with_reducible refine (engrossref1_bits.calls a0_1 t382 _ A18.out).mono ?_); rintro e w' ⟨rfl, ⟨nd, rfl⟩⟩; (try first | exact ⟨rfl, _, World.drewN_drewN _ _ _⟩ | exact ⟨rfl, _, Eq.trans (World.drewN_drewN _ _ _) (congrArg (World.drewN _) (Nat.add_assoc _ _ _))⟩))); try go_wp2_with (first | ((with_reducible refine gate_dst (N := 1) rfl ?_); (try (refine gate_guard (by rfl) ?_; dsimp only)); refine box_event ?hg (N := 1) ?hd (cs := #[.int .i64 a0_0, .float .f64 a0_1, .string a0_2]) (t := 54) ?hr ?_; (case hd => rfl); (case hg => rfl); (case hr => first | (go_simp; done) | (go_simp; rfl)); intro gb378 hg w22 hbox hb; have BK378 := Aside0.mk (hbox); have GW378 := bZ HB hg; have GE378 := bZ HB hg; replace HB := bW HB hb; clear hb hbox hg; obtain ⟨hcz23_0, hcz23_1, hcz23_2, hfz23_0, hfz23_1, hfz23_2⟩ := bf3 (w := w22) BK378) | (go_at_call 59; (with_reducible refine (engrossref1_bits.calls a0_1 t382 _ A18.out).mono ?_); rintro e w' ⟨rfl, ⟨nd, rfl⟩⟩; (try first | exact ⟨rfl, _, World.drewN_drewN _ _ _⟩ | exact ⟨rfl, _, Eq.trans (World.drewN_drewN _ _ _) (congrArg (World.drewN _) (Nat.add_assoc _ _ _))⟩))))
  go_ret
  exact xB HB
 rw [if_pos c19] at H
 have c19b0 : (t382 == 0) = true := beq_iff_eq.mpr c19
 have c19b1 : (t382 != 0) = false := bne_eq_false_iff_eq.mpr c19
 clear c19
 obtain rfl := Option.some.inj H
 go_enter Try.func47, Try.ntmps47
 go_wp2_with (first | ((with_reducible refine gate_dst (N := 1) rfl ?_); (try (refine gate_guard (by rfl) ?_; dsimp only)); refine box_event ?hg (N := 1) ?hd (cs := #[.int .i64 a0_0, .float .f64 a0_1, .string a0_2]) (t := 54) ?hr ?_; (case hd => rfl); (case hg => rfl); (case hr => first | (go_simp; done) | (go_simp; rfl)); intro gb378 hg w20 hbox hb; have BK378 := Aside0.mk (hbox); have GW378 := bZ HB hg; have GE378 := bZ HB hg; replace HB := bW HB hb; clear hb hbox hg; obtain ⟨hcz21_0, hcz21_1, hcz21_2, hfz21_0, hfz21_1, hfz21_2⟩ := bf3 (w := w20) BK378) | (go_at_call 59; (with_reducible refine (engrossref1_bits.calls a0_1 t382 _ A18.out).mono ?_); rintro e w' ⟨rfl, ⟨nd, rfl⟩⟩; (try first | exact ⟨rfl, _, World.drewN_drewN _ _ _⟩ | exact ⟨rfl, _, Eq.trans (World.drewN_drewN _ _ _) (congrArg (World.drewN _) (Nat.add_assoc _ _ _))⟩)))
 repeat (go_quiet (first | ((with_reducible refine gate_dst (N := 1) rfl ?_); (try (refine gate_guard (by rfl) ?_; dsimp only)); refine box_event ?hg (N := 1) ?hd (cs := #[.int .i64 a0_0, .float .f64 a0_1, .string a0_2]) (t := 54) ?hr ?_; (case hd => rfl); (case hg => rfl); (case hr => first | (go_simp; done) | (go_simp; rfl)); intro gb378 hg w20 hbox hb; have BK378 := Aside0.mk (hbox); have GW378 := bZ HB hg; have GE378 := bZ HB hg; replace HB := bW HB hb; clear hb hbox hg; obtain ⟨hcz21_0, hcz21_1, hcz21_2, hfz21_0, hfz21_1, hfz21_2⟩ := bf3 (w := w20) BK378) | (go_at_call 59; (with_reducible refine (engrossref1_bits.calls a0_1 t382 _ A18.out).mono ?_); rintro e w' ⟨rfl, ⟨nd, rfl⟩⟩; (try first | exact ⟨rfl, _, World.drewN_drewN _ _ _⟩ | exact ⟨rfl, _, Eq.trans (World.drewN_drewN _ _ _) (congrArg (World.drewN _) (Nat.add_assoc _ _ _))⟩))); try go_wp2_with (first | ((with_reducible refine gate_dst (N := 1) rfl ?_); (try (refine gate_guard (by rfl) ?_; dsimp only)); refine box_event ?hg (N := 1) ?hd (cs := #[.int .i64 a0_0, .float .f64 a0_1, .string a0_2]) (t := 54) ?hr ?_; (case hd => rfl); (case hg => rfl); (case hr => first | (go_simp; done) | (go_simp; rfl)); intro gb378 hg w20 hbox hb; have BK378 := Aside0.mk (hbox); have GW378 := bZ HB hg; have GE378 := bZ HB hg; replace HB := bW HB hb; clear hb hbox hg; obtain ⟨hcz21_0, hcz21_1, hcz21_2, hfz21_0, hfz21_1, hfz21_2⟩ := bf3 (w := w20) BK378) | (go_at_call 59; (with_reducible refine (engrossref1_bits.calls a0_1 t382 _ A18.out).mono ?_); rintro e w' ⟨rfl, ⟨nd, rfl⟩⟩; (try first | exact ⟨rfl, _, World.drewN_drewN _ _ _⟩ | exact ⟨rfl, _, Eq.trans (World.drewN_drewN _ _ _) (congrArg (World.drewN _) (Nat.add_assoc _ _ _))⟩))))
 go_ret
 exact xB HB
def engrossref10_May.f (a0_0 : ByteArray) (a0_1 : Int) (a0_2 : Nat) (a0_3 : ByteArray) (a0_4 : Int) (a0_5 : Int) (a0_6 : Nat) (a0_7 : ByteArray) : Option (Bool) := (engrossref1_MayKey.f a0_0).bind fun t384 => (if t384 = true then ((engrossref1_MayVal.f a0_1 a0_2 a0_3).bind fun t385 => (if t385 = true then ((engrossref1_MayVal.f a0_5 a0_6 a0_7).bind fun t386 => (if t386 = true then (if a0_4 < 0 then (some false) else (if a0_4 > 1099511627776 then (some false) else (if a0_4 > 0 then (some true) else (if a0_5 = 0 then (some (a0_1 != 0)) else (some false))))) else (some false))) else (some false))) else (some false))
set_option maxHeartbeats 8000000 in
set_option maxRecDepth 100000 in
theorem engrossref10_May.calls (a0_0 : ByteArray) (a0_1 : Int) (a0_2 : Nat) (a0_3 : ByteArray) (a0_4 : Int) (a0_5 : Int) (a0_6 : Nat) (a0_7 : ByteArray) (r : Bool) (w : World) (h : engrossref10_May.f a0_0 a0_1 a0_2 a0_3 a0_4 a0_5 a0_6 a0_7 = some r) :
  Calls Try.prog 31 #[.agg #[.string a0_0, .int .i64 a0_1, .float .f64 a0_2, .string a0_3, .int .i64 a0_4, .int .i64 a0_5, .float .f64 a0_6, .string a0_7]] w fun e w' => e = .returned (.bool r) ∧ Below w.heap.size w w' := by
 have hu56 := Try.underlying56
 have hu54 := Try.underlying54
 have HB := Aside0.mk (Below.refl w.heap.size w)
 have H : ((engrossref1_MayKey.f a0_0).bind fun t384 => (if t384 = true then ((engrossref1_MayVal.f a0_1 a0_2 a0_3).bind fun t385 => (if t385 = true then ((engrossref1_MayVal.f a0_5 a0_6 a0_7).bind fun t386 => (if t386 = true then (if a0_4 < 0 then (some false) else (if a0_4 > 1099511627776 then (some false) else (if a0_4 > 0 then (some true) else (if a0_5 = 0 then (some (a0_1 != 0)) else (some false))))) else (some false))) else (some false))) else (some false))) = some r := h
 clear h
 replace H := Option.bind_eq_some_iff.mp H
 obtain ⟨t384, A20, H⟩ := H
 replace H : (if t384 = true then ((engrossref1_MayVal.f a0_1 a0_2 a0_3).bind fun t385 => (if t385 = true then ((engrossref1_MayVal.f a0_5 a0_6 a0_7).bind fun t386 => (if t386 = true then (if a0_4 < 0 then (some false) else (if a0_4 > 1099511627776 then (some false) else (if a0_4 > 0 then (some true) else (if a0_5 = 0 then (some (a0_1 != 0)) else (some false))))) else (some false))) else (some false))) else (some false)) = some r := H
 have A2 := Aside0.mk A20
 clear A20
 by_cases c3 : t384 = true
 rotate_left
 ·replace c3 := Bool.eq_false_iff.mpr c3
  subst c3
  have H1 : (some false) = some r := by rw [if_neg (show ¬ (false = true) by decide)] at H; exact H
  clear H
  have H := H1
  clear H1
  obtain rfl := Option.some.inj H
  go_enter Try.func31, Try.ntmps31
  go_wp2_with (first | ((with_reducible refine gate_dst (N := 1) rfl ?_); refine box_event ?hg (N := 1) ?hd (cs := #[.string a0_0, .int .i64 a0_1, .float .f64 a0_2, .string a0_3, .int .i64 a0_4, .int .i64 a0_5, .float .f64 a0_6, .string a0_7]) (t := 56) ?hr ?_; (case hd => rfl); (case hg => rfl); (case hr => first | (go_simp; done) | (go_simp; rfl)); intro gb383 hg w50 hbox hb; have BK383 := Aside0.mk (hbox); have GW383 := bZ HB hg; have GE383 := bZ HB hg; replace HB := bW HB hb; clear hb hbox hg; obtain ⟨hcz51_0, hcz51_1, hcz51_2, hcz51_3, hcz51_4, hcz51_5, hcz51_6, hcz51_7, hfz51_0, hfz51_1, hfz51_2, hfz51_3, hfz51_4, hfz51_5, hfz51_6, hfz51_7⟩ := bf8 (w := w50) BK383) | ((with_reducible refine gate_callee (f := 32) rfl ?_); refine gL (some 5) Try.func32 #[.string a0_0] ?_; (with_reducible refine (engrossref1_MayKey.calls a0_0 false _ A2.out).mono ?_); rintro e w' ⟨rfl, ⟨nd, rfl⟩⟩; refine ⟨_, rfl, ?_⟩))
  go_ret
  exact xB HB
 subst c3
 have H1 : ((engrossref1_MayVal.f a0_1 a0_2 a0_3).bind fun t385 => (if t385 = true then ((engrossref1_MayVal.f a0_5 a0_6 a0_7).bind fun t386 => (if t386 = true then (if a0_4 < 0 then (some false) else (if a0_4 > 1099511627776 then (some false) else (if a0_4 > 0 then (some true) else (if a0_5 = 0 then (some (a0_1 != 0)) else (some false))))) else (some false))) else (some false))) = some r := by rw [if_pos rfl] at H; exact H
 clear H
 have H := H1
 clear H1
 replace H := Option.bind_eq_some_iff.mp H
 obtain ⟨t385, A40, H⟩ := H
 replace H : (if t385 = true then ((engrossref1_MayVal.f a0_5 a0_6 a0_7).bind fun t386 => (if t386 = true then (if a0_4 < 0 then (some false) else (if a0_4 > 1099511627776 then (some false) else (if a0_4 > 0 then (some true) else (if a0_5 = 0 then (some (a0_1 != 0)) else (some false))))) else (some false))) else (some false)) = some r := H
 have A4 := Aside0.mk A40
 clear A40
 by_cases c5 : t385 = true
 rotate_left
 ·replace c5 := Bool.eq_false_iff.mpr c5
  subst c5
  have H1 : (some false) = some r := by rw [if_neg (show ¬ (false = true) by decide)] at H; exact H
  clear H
  have H := H1
  clear H1
  obtain rfl := Option.some.inj H
  go_enter Try.func31, Try.ntmps31
  go_wp2_with (first | ((with_reducible refine gate_dst (N := 1) rfl ?_); refine box_event ?hg (N := 1) ?hd (cs := #[.string a0_0, .int .i64 a0_1, .float .f64 a0_2, .string a0_3, .int .i64 a0_4, .int .i64 a0_5, .float .f64 a0_6, .string a0_7]) (t := 56) ?hr ?_; (case hd => rfl); (case hg => rfl); (case hr => first | (go_simp; done) | (go_simp; rfl)); intro gb383 hg w47 hbox hb; have BK383 := Aside0.mk (hbox); have GW383 := bZ HB hg; have GE383 := bZ HB hg; replace HB := bW HB hb; clear hb hbox hg; obtain ⟨hcz48_0, hcz48_1, hcz48_2, hcz48_3, hcz48_4, hcz48_5, hcz48_6, hcz48_7, hfz48_0, hfz48_1, hfz48_2, hfz48_3, hfz48_4, hfz48_5, hfz48_6, hfz48_7⟩ := bf8 (w := w47) BK383) | ((with_reducible refine gate_callee (f := 32) rfl ?_); refine gL (some 5) Try.func32 #[.string a0_0] ?_; (with_reducible refine (engrossref1_MayKey.calls a0_0 true _ A2.out).mono ?_); rintro e w' ⟨rfl, ⟨nd, rfl⟩⟩; refine ⟨_, rfl, ?_⟩) | (go_at_call 47; (with_reducible refine (engrossref1_MayVal.calls a0_1 a0_2 a0_3 false _ A4.out).mono ?_); rintro e w49 ⟨rfl, hb⟩; replace BK383 := bB BK383 hb; replace HB := bW HB hb; (try clear hb); (try clear hb2); (try clear hk); (try clear hi)))
  go_ret
  exact xB HB
 subst c5
 have H1 : ((engrossref1_MayVal.f a0_5 a0_6 a0_7).bind fun t386 => (if t386 = true then (if a0_4 < 0 then (some false) else (if a0_4 > 1099511627776 then (some false) else (if a0_4 > 0 then (some true) else (if a0_5 = 0 then (some (a0_1 != 0)) else (some false))))) else (some false))) = some r := by rw [if_pos rfl] at H; exact H
 clear H
 have H := H1
 clear H1
 replace H := Option.bind_eq_some_iff.mp H
 obtain ⟨t386, A60, H⟩ := H
 replace H : (if t386 = true then (if a0_4 < 0 then (some false) else (if a0_4 > 1099511627776 then (some false) else (if a0_4 > 0 then (some true) else (if a0_5 = 0 then (some (a0_1 != 0)) else (some false))))) else (some false)) = some r := H
 have A6 := Aside0.mk A60
 clear A60
 by_cases c7 : t386 = true
 rotate_left
 ·replace c7 := Bool.eq_false_iff.mpr c7
  subst c7
  have H1 : (some false) = some r := by rw [if_neg (show ¬ (false = true) by decide)] at H; exact H
  clear H
  have H := H1
  clear H1
  obtain rfl := Option.some.inj H
  go_enter Try.func31, Try.ntmps31
  go_wp2_with (first | ((with_reducible refine gate_dst (N := 1) rfl ?_); refine box_event ?hg (N := 1) ?hd (cs := #[.string a0_0, .int .i64 a0_1, .float .f64 a0_2, .string a0_3, .int .i64 a0_4, .int .i64 a0_5, .float .f64 a0_6, .string a0_7]) (t := 56) ?hr ?_; (case hd => rfl); (case hg => rfl); (case hr => first | (go_simp; done) | (go_simp; rfl)); intro gb383 hg w42 hbox hb; have BK383 := Aside0.mk (hbox); have GW383 := bZ HB hg; have GE383 := bZ HB hg; replace HB := bW HB hb; clear hb hbox hg; obtain ⟨hcz43_0, hcz43_1, hcz43_2, hcz43_3, hcz43_4, hcz43_5, hcz43_6, hcz43_7, hfz43_0, hfz43_1, hfz43_2, hfz43_3, hfz43_4, hfz43_5, hfz43_6, hfz43_7⟩ := bf8 (w := w42) BK383) | ((with_reducible refine gate_callee (f := 32) rfl ?_); refine gL (some 5) Try.func32 #[.string a0_0] ?_; (with_reducible refine (engrossref1_MayKey.calls a0_0 true _ A2.out).mono ?_); rintro e w' ⟨rfl, ⟨nd, rfl⟩⟩; refine ⟨_, rfl, ?_⟩) | (go_at_call 47; (with_reducible refine (engrossref1_MayVal.calls a0_1 a0_2 a0_3 true _ A4.out).mono ?_); rintro e w44 ⟨rfl, hb⟩; replace BK383 := bB BK383 hb; replace HB := bW HB hb; (try clear hb); (try clear hb2); (try clear hk); (try clear hi); obtain ⟨hcz45_0, hcz45_1, hcz45_2, hcz45_3, hcz45_4, hcz45_5, hcz45_6, hcz45_7, hfz45_0, hfz45_1, hfz45_2, hfz45_3, hfz45_4, hfz45_5, hfz45_6, hfz45_7⟩ := bf8 (w := w44) BK383) | (go_at_call 47; (with_reducible refine (engrossref1_MayVal.calls a0_5 a0_6 a0_7 false _ A6.out).mono ?_); rintro e w46 ⟨rfl, hb⟩; replace BK383 := bB BK383 hb; replace HB := bW HB hb; (try clear hb); (try clear hb2); (try clear hk); (try clear hi)))
  go_ret
  exact xB HB
 subst c7
 have H1 : (if a0_4 < 0 then (some false) else (if a0_4 > 1099511627776 then (some false) else (if a0_4 > 0 then (some true) else (if a0_5 = 0 then (some (a0_1 != 0)) else (some false))))) = some r := by rw [if_pos rfl] at H; exact H
 clear H
 have H := H1
 clear H1
 by_cases c8 : a0_4 < 0
 ·rw [if_pos c8] at H
  have c8b0 : decide (a0_4 < 0) = true := decide_eq_true c8
  clear c8
  obtain rfl := Option.some.inj H
  go_enter Try.func31, Try.ntmps31
  go_wp2_with (first | ((with_reducible refine gate_dst (N := 1) rfl ?_); refine box_event ?hg (N := 1) ?hd (cs := #[.string a0_0, .int .i64 a0_1, .float .f64 a0_2, .string a0_3, .int .i64 a0_4, .int .i64 a0_5, .float .f64 a0_6, .string a0_7]) (t := 56) ?hr ?_; (case hd => rfl); (case hg => rfl); (case hr => first | (go_simp; done) | (go_simp; rfl)); intro gb383 hg w9 hbox hb; have BK383 := Aside0.mk (hbox); have GW383 := bZ HB hg; have GE383 := bZ HB hg; replace HB := bW HB hb; clear hb hbox hg; obtain ⟨hcz10_0, hcz10_1, hcz10_2, hcz10_3, hcz10_4, hcz10_5, hcz10_6, hcz10_7, hfz10_0, hfz10_1, hfz10_2, hfz10_3, hfz10_4, hfz10_5, hfz10_6, hfz10_7⟩ := bf8 (w := w9) BK383) | ((with_reducible refine gate_callee (f := 32) rfl ?_); refine gL (some 5) Try.func32 #[.string a0_0] ?_; (with_reducible refine (engrossref1_MayKey.calls a0_0 true _ A2.out).mono ?_); rintro e w' ⟨rfl, ⟨nd, rfl⟩⟩; refine ⟨_, rfl, ?_⟩) | (go_at_call 47; (with_reducible refine (engrossref1_MayVal.calls a0_1 a0_2 a0_3 true _ A4.out).mono ?_); rintro e w11 ⟨rfl, hb⟩; replace BK383 := bB BK383 hb; replace HB := bW HB hb; (try clear hb); (try clear hb2); (try clear hk); (try clear hi); obtain ⟨hcz12_0, hcz12_1, hcz12_2, hcz12_3, hcz12_4, hcz12_5, hcz12_6, hcz12_7, hfz12_0, hfz12_1, hfz12_2, hfz12_3, hfz12_4, hfz12_5, hfz12_6, hfz12_7⟩ := bf8 (w := w11) BK383) | (go_at_call 47; (with_reducible refine (engrossref1_MayVal.calls a0_5 a0_6 a0_7 true _ A6.out).mono ?_); rintro e w13 ⟨rfl, hb⟩; replace BK383 := bB BK383 hb; replace HB := bW HB hb; (try clear hb); (try clear hb2); (try clear hk); (try clear hi); obtain ⟨hcz14_0, hcz14_1, hcz14_2, hcz14_3, hcz14_4, hcz14_5, hcz14_6, hcz14_7, hfz14_0, hfz14_1, hfz14_2, hfz14_3, hfz14_4, hfz14_5, hfz14_6, hfz14_7⟩ := bf8 (w := w13) BK383))
  go_ret
  exact xB HB
 rw [if_neg c8] at H
 have c8b0 : decide (a0_4 < 0) = false := decide_eq_false c8
 clear c8
 by_cases c15 : a0_4 > 1099511627776
 ·rw [if_pos c15] at H
  have c15b0 : decide (1099511627776 < a0_4) = true := decide_eq_true c15
  clear c15
  obtain rfl := Option.some.inj H
  go_enter Try.func31, Try.ntmps31
  go_wp2_with (first | ((with_reducible refine gate_dst (N := 1) rfl ?_); refine box_event ?hg (N := 1) ?hd (cs := #[.string a0_0, .int .i64 a0_1, .float .f64 a0_2, .string a0_3, .int .i64 a0_4, .int .i64 a0_5, .float .f64 a0_6, .string a0_7]) (t := 56) ?hr ?_; (case hd => rfl); (case hg => rfl); (case hr => first | (go_simp; done) | (go_simp; rfl)); intro gb383 hg w16 hbox hb; have BK383 := Aside0.mk (hbox); have GW383 := bZ HB hg; have GE383 := bZ HB hg; replace HB := bW HB hb; clear hb hbox hg; obtain ⟨hcz17_0, hcz17_1, hcz17_2, hcz17_3, hcz17_4, hcz17_5, hcz17_6, hcz17_7, hfz17_0, hfz17_1, hfz17_2, hfz17_3, hfz17_4, hfz17_5, hfz17_6, hfz17_7⟩ := bf8 (w := w16) BK383) | ((with_reducible refine gate_callee (f := 32) rfl ?_); refine gL (some 5) Try.func32 #[.string a0_0] ?_; (with_reducible refine (engrossref1_MayKey.calls a0_0 true _ A2.out).mono ?_); rintro e w' ⟨rfl, ⟨nd, rfl⟩⟩; refine ⟨_, rfl, ?_⟩) | (go_at_call 47; (with_reducible refine (engrossref1_MayVal.calls a0_1 a0_2 a0_3 true _ A4.out).mono ?_); rintro e w18 ⟨rfl, hb⟩; replace BK383 := bB BK383 hb; replace HB := bW HB hb; (try clear hb); (try clear hb2); (try clear hk); (try clear hi); obtain ⟨hcz19_0, hcz19_1, hcz19_2, hcz19_3, hcz19_4, hcz19_5, hcz19_6, hcz19_7, hfz19_0, hfz19_1, hfz19_2, hfz19_3, hfz19_4, hfz19_5, hfz19_6, hfz19_7⟩ := bf8 (w := w18) BK383) | (go_at_call 47; (with_reducible refine (engrossref1_MayVal.calls a0_5 a0_6 a0_7 true _ A6.out).mono ?_); rintro e w20 ⟨rfl, hb⟩; replace BK383 := bB BK383 hb; replace HB := bW HB hb; (try clear hb); (try clear hb2); (try clear hk); (try clear hi); obtain ⟨hcz21_0, hcz21_1, hcz21_2, hcz21_3, hcz21_4, hcz21_5, hcz21_6, hcz21_7, hfz21_0, hfz21_1, hfz21_2, hfz21_3, hfz21_4, hfz21_5, hfz21_6, hfz21_7⟩ := bf8 (w := w20) BK383))
  go_ret
  exact xB HB
 rw [if_neg c15] at H
 have c15b0 : decide (1099511627776 < a0_4) = false := decide_eq_false c15
 clear c15
 by_cases c22 : a0_4 > 0
 ·rw [if_pos c22] at H
  have c22b0 : decide (0 < a0_4) = true := decide_eq_true c22
  clear c22
  obtain rfl := Option.some.inj H
  go_enter Try.func31, Try.ntmps31
  go_wp2_with (first | ((with_reducible refine gate_dst (N := 1) rfl ?_); refine box_event ?hg (N := 1) ?hd (cs := #[.string a0_0, .int .i64 a0_1, .float .f64 a0_2, .string a0_3, .int .i64 a0_4, .int .i64 a0_5, .float .f64 a0_6, .string a0_7]) (t := 56) ?hr ?_; (case hd => rfl); (case hg => rfl); (case hr => first | (go_simp; done) | (go_simp; rfl)); intro gb383 hg w23 hbox hb; have BK383 := Aside0.mk (hbox); have GW383 := bZ HB hg; have GE383 := bZ HB hg; replace HB := bW HB hb; clear hb hbox hg; obtain ⟨hcz24_0, hcz24_1, hcz24_2, hcz24_3, hcz24_4, hcz24_5, hcz24_6, hcz24_7, hfz24_0, hfz24_1, hfz24_2, hfz24_3, hfz24_4, hfz24_5, hfz24_6, hfz24_7⟩ := bf8 (w := w23) BK383) | ((with_reducible refine gate_callee (f := 32) rfl ?_); refine gL (some 5) Try.func32 #[.string a0_0] ?_; (with_reducible refine (engrossref1_MayKey.calls a0_0 true _ A2.out).mono ?_); rintro e w' ⟨rfl, ⟨nd, rfl⟩⟩; refine ⟨_, rfl, ?_⟩) | (go_at_call 47; (with_reducible refine (engrossref1_MayVal.calls a0_1 a0_2 a0_3 true _ A4.out).mono ?_); rintro e w25 ⟨rfl, hb⟩; replace BK383 := bB BK383 hb; replace HB := bW HB hb; (try clear hb); (try clear hb2); (try clear hk); (try clear hi); obtain ⟨hcz26_0, hcz26_1, hcz26_2, hcz26_3, hcz26_4, hcz26_5, hcz26_6, hcz26_7, hfz26_0, hfz26_1, hfz26_2, hfz26_3, hfz26_4, hfz26_5, hfz26_6, hfz26_7⟩ := bf8 (w := w25) BK383) | (go_at_call 47; (with_reducible refine (engrossref1_MayVal.calls a0_5 a0_6 a0_7 true _ A6.out).mono ?_); rintro e w27 ⟨rfl, hb⟩; replace BK383 := bB BK383 hb; replace HB := bW HB hb; (try clear hb); (try clear hb2); (try clear hk); (try clear hi); obtain ⟨hcz28_0, hcz28_1, hcz28_2, hcz28_3, hcz28_4, hcz28_5, hcz28_6, hcz28_7, hfz28_0, hfz28_1, hfz28_2, hfz28_3, hfz28_4, hfz28_5, hfz28_6, hfz28_7⟩ := bf8 (w := w27) BK383))
  go_ret
  exact xB HB
 rw [if_neg c22] at H
 have c22b0 : decide (0 < a0_4) = false := decide_eq_false c22
 clear c22
 by_cases c29 : a0_5 = 0
 rotate_left
 ·rw [if_neg c29] at H
  have c29b0 : (a0_5 == 0) = false := beq_eq_false_iff_ne.mpr c29
  have c29b1 : (a0_5 != 0) = true := bne_iff_ne.mpr c29
  obtain rfl := Option.some.inj H
  go_enter Try.func31, Try.ntmps31
  go_wp2_with (first | ((with_reducible refine gate_dst (N := 1) rfl ?_); refine box_event ?hg (N := 1) ?hd (cs := #[.string a0_0, .int .i64 a0_1, .float .f64 a0_2, .string a0_3, .int .i64 a0_4, .int .i64 a0_5, .float .f64 a0_6, .string a0_7]) (t := 56) ?hr ?_; (case hd => rfl); (case hg => rfl); (case hr => first | (go_simp; done) | (go_simp; rfl)); intro gb383 hg w36 hbox hb; have BK383 := Aside0.mk (hbox); have GW383 := bZ HB hg; have GE383 := bZ HB hg; replace HB := bW HB hb; clear hb hbox hg; obtain ⟨hcz37_0, hcz37_1, hcz37_2, hcz37_3, hcz37_4, hcz37_5, hcz37_6, hcz37_7, hfz37_0, hfz37_1, hfz37_2, hfz37_3, hfz37_4, hfz37_5, hfz37_6, hfz37_7⟩ := bf8 (w := w36) BK383) | ((with_reducible refine gate_callee (f := 32) rfl ?_); refine gL (some 5) Try.func32 #[.string a0_0] ?_; (with_reducible refine (engrossref1_MayKey.calls a0_0 true _ A2.out).mono ?_); rintro e w' ⟨rfl, ⟨nd, rfl⟩⟩; refine ⟨_, rfl, ?_⟩) | (go_at_call 47; (with_reducible refine (engrossref1_MayVal.calls a0_1 a0_2 a0_3 true _ A4.out).mono ?_); rintro e w38 ⟨rfl, hb⟩; replace BK383 := bB BK383 hb; replace HB := bW HB hb; (try clear hb); (try clear hb2); (try clear hk); (try clear hi); obtain ⟨hcz39_0, hcz39_1, hcz39_2, hcz39_3, hcz39_4, hcz39_5, hcz39_6, hcz39_7, hfz39_0, hfz39_1, hfz39_2, hfz39_3, hfz39_4, hfz39_5, hfz39_6, hfz39_7⟩ := bf8 (w := w38) BK383) | (go_at_call 47; (with_reducible refine (engrossref1_MayVal.calls a0_5 a0_6 a0_7 true _ A6.out).mono ?_); rintro e w40 ⟨rfl, hb⟩; replace BK383 := bB BK383 hb; replace HB := bW HB hb; (try clear hb); (try clear hb2); (try clear hk); (try clear hi); obtain ⟨hcz41_0, hcz41_1, hcz41_2, hcz41_3, hcz41_4, hcz41_5, hcz41_6, hcz41_7, hfz41_0, hfz41_1, hfz41_2, hfz41_3, hfz41_4, hfz41_5, hfz41_6, hfz41_7⟩ := bf8 (w := w40) BK383))
  go_ret
  exact xB HB
 rw [if_pos c29] at H
 have c29b0 : (a0_5 == 0) = true := beq_iff_eq.mpr c29
 have c29b1 : (a0_5 != 0) = false := bne_eq_false_iff_eq.mpr c29
 clear c29
 obtain rfl := Option.some.inj H
 go_enter Try.func31, Try.ntmps31
 go_wp2_with (first | ((with_reducible refine gate_dst (N := 1) rfl ?_); refine box_event ?hg (N := 1) ?hd (cs := #[.string a0_0, .int .i64 a0_1, .float .f64 a0_2, .string a0_3, .int .i64 a0_4, .int .i64 a0_5, .float .f64 a0_6, .string a0_7]) (t := 56) ?hr ?_; (case hd => rfl); (case hg => rfl); (case hr => first | (go_simp; done) | (go_simp; rfl)); intro gb383 hg w30 hbox hb; have BK383 := Aside0.mk (hbox); have GW383 := bZ HB hg; have GE383 := bZ HB hg; replace HB := bW HB hb; clear hb hbox hg; obtain ⟨hcz31_0, hcz31_1, hcz31_2, hcz31_3, hcz31_4, hcz31_5, hcz31_6, hcz31_7, hfz31_0, hfz31_1, hfz31_2, hfz31_3, hfz31_4, hfz31_5, hfz31_6, hfz31_7⟩ := bf8 (w := w30) BK383) | ((with_reducible refine gate_callee (f := 32) rfl ?_); refine gL (some 5) Try.func32 #[.string a0_0] ?_; (with_reducible refine (engrossref1_MayKey.calls a0_0 true _ A2.out).mono ?_); rintro e w' ⟨rfl, ⟨nd, rfl⟩⟩; refine ⟨_, rfl, ?_⟩) | (go_at_call 47; (with_reducible refine (engrossref1_MayVal.calls a0_1 a0_2 a0_3 true _ A4.out).mono ?_); rintro e w32 ⟨rfl, hb⟩; replace BK383 := bB BK383 hb; replace HB := bW HB hb; (try clear hb); (try clear hb2); (try clear hk); (try clear hi); obtain ⟨hcz33_0, hcz33_1, hcz33_2, hcz33_3, hcz33_4, hcz33_5, hcz33_6, hcz33_7, hfz33_0, hfz33_1, hfz33_2, hfz33_3, hfz33_4, hfz33_5, hfz33_6, hfz33_7⟩ := bf8 (w := w32) BK383) | (go_at_call 47; (with_reducible refine (engrossref1_MayVal.calls a0_5 a0_6 a0_7 true _ A6.out).mono ?_); rintro e w34 ⟨rfl, hb⟩; replace BK383 := bB BK383 hb; replace HB := bW HB hb; (try clear hb); (try clear hb2); (try clear hk); (try clear hi); obtain ⟨hcz35_0, hcz35_1, hcz35_2, hcz35_3, hcz35_4, hcz35_5, hcz35_6, hcz35_7, hfz35_0, hfz35_1, hfz35_2, hfz35_3, hfz35_4, hfz35_5, hfz35_6, hfz35_7⟩ := bf8 (w := w34) BK383))
 go_ret
 exact xB HB
end Go.Proofs.Ytmmjpieafbjggaa.P
end
section
namespace Go.Proofs.Ytmmjpieafbjggaa.P
open Go.RowKit Go.Proofs.YtmmjpieafbjggaaW.PrintWords Go.Proofs.YtmmjpieafbjggaaW.PrintLast Go.Proofs.YtmmjpieafbjggaaW.PrintMore
attribute [local go_sem] max2_int min2_int max_two min_two max_three min_three max_four min_four   -- for this text's walks alone
attribute [local go_sem] x_str_gtr x_str_leq x_str_geq ext_bits ext_frombits ext_neg x_store_float Instr.field asAgg
set_option linter.unusedVariables false
set_option linter.unusedSimpArgs false
mutual
def engrossref10_MayNode.l0 : Nat → Int → Bool → List (S56) → List ByteArray → List Int → Option (Bool)
 | 0, _, _, _, _, _ => none
 | k + 1, x3, x388000, x388001, x388002, x388003 => if x3 < (x388001.length : Int) then (if 0 ≤ x3 then ((engrossref10_May.f ((rd_T56 x388001 x3).f0) ((rd_T56 x388001 x3).f1.f0) ((rd_T56 x388001 x3).f1.f1) ((rd_T56 x388001 x3).f1.f2) ((rd_T56 x388001 x3).f2) ((rd_T56 x388001 x3).f3.f0) ((rd_T56 x388001 x3).f3.f1) ((rd_T56 x388001 x3).f3.f2)).bind fun t389 => (if t389 = true then (if x3 > 0 then (if 0 ≤ (wrap64 (x3 - 1)) then (if (wrap64 (x3 - 1)) < (x388001.length : Int) then (if ((Op.bytesLess (((rd_T56 x388001 (wrap64 (x3 - 1))).f0).toList) (((rd_T56 x388001 x3).f0).toList)) = true) then (engrossref10_MayNode.l0 k (wrap64 (x3 + 1)) x388000 x388001 x388002 x388003) else (some false)) else (none)) else (none)) else (engrossref10_MayNode.l0 k (wrap64 (x3 + 1)) x388000 x388001 x388002 x388003)) else (some false))) else (none)) else (if (x388002.length : Int) = 0 then (some ((x388003.length : Int) == 0)) else (some false))
def engrossref10_MayNode.j1 : Nat → Bool → Bool → List (S56) → List ByteArray → List Int → Option (Bool)
 | 0, _, _, _, _, _ => none
 | k + 1, x77, x388000, x388001, x388002, x388003 => if x77 = true then (some false) else (engrossref10_MayNode.l1 k 0 x388000 x388001 x388002 x388003)
def engrossref10_MayNode.l1 : Nat → Int → Bool → List (S56) → List ByteArray → List Int → Option (Bool)
 | 0, _, _, _, _, _ => none
 | k + 1, x4, x388000, x388001, x388002, x388003 => if x4 < (x388003.length : Int) then (if 0 ≤ x4 then (if (rd x388003 x4) < 2 then (some false) else (if (rd x388003 x4) > 31 then (some false) else (engrossref10_MayNode.l1 k (wrap64 (x4 + 1)) x388000 x388001 x388002 x388003))) else (none)) else (engrossref10_MayNode.l2 k 0 x388000 x388001 x388002 x388003)
def engrossref10_MayNode.l2 : Nat → Int → Bool → List (S56) → List ByteArray → List Int → Option (Bool)
 | 0, _, _, _, _, _ => none
 | k + 1, x5, x388000, x388001, x388002, x388003 => if x5 < (x388002.length : Int) then (if 0 ≤ x5 then ((engrossref1_MayKey.f (rdOf ByteArray.empty x388002 x5)).bind fun t395 => (if t395 = true then (if x5 > 0 then (if 0 ≤ (wrap64 (x5 - 1)) then (if (wrap64 (x5 - 1)) < (x388002.length : Int) then (if ((Op.bytesLess ((rdOf ByteArray.empty x388002 (wrap64 (x5 - 1))).toList) ((rdOf ByteArray.empty x388002 x5).toList)) = true) then (engrossref10_MayNode.l2 k (wrap64 (x5 + 1)) x388000 x388001 x388002 x388003) else (some false)) else (none)) else (none)) else (engrossref10_MayNode.l2 k (wrap64 (x5 + 1)) x388000 x388001 x388002 x388003)) else (some false))) else (none)) else (some true)
end
def engrossref10_MayNode.f (k : Nat) (a0_0 : Bool) (l0_1 : List (S56)) (l0_2 : List ByteArray) (l0_3 : List Int) : Option (Bool) := if a0_0 = true then (engrossref10_MayNode.l0 k 0 a0_0 l0_1 l0_2 l0_3) else (if (l0_1.length : Int) = 0 then (if (l0_3.length : Int) < 1 then (engrossref10_MayNode.j1 k true a0_0 l0_1 l0_2 l0_3) else (if (l0_3.length : Int) > 32 then (engrossref10_MayNode.j1 k true a0_0 l0_1 l0_2 l0_3) else (engrossref10_MayNode.j1 k ((l0_2.length : Int) != (wrap64 ((l0_3.length : Int) - 1))) a0_0 l0_1 l0_2 l0_3))) else (engrossref10_MayNode.j1 k true a0_0 l0_1 l0_2 l0_3))
def engrossref10_MayNode.T5 : Bool × List (List Nat × List Nat) := (true, [([], []), ([0], [0]), ([], []), ([1, 2], [1, 2]), ([3], [3]), ([4], [4]), ([5], [5]), ([6, 5], [6]), ([7], [7]), ([8, 7], [7, 8]), ([9, 7, 7], [7, 9]), ([10], [10]), ([11, 10], [10, 11]), ([10], [10]), ([12, 13, 10], [10, 12, 13]), ([14, 10], [10, 14]), ([15, 10], [10, 15]), ([10], [10]), ([17, 10], [10, 17]), ([10], [10]), ([19, 10], [10, 19]), ([18, 20, 10], [10, 18, 20]), ([21, 10], [10, 21]), ([22, 10], [10, 22]), ([16, 23, 10], [10, 16, 23]), ([10, 24, 7], [7, 10, 24]), ([7, 25], [7, 25])])
def engrossref10_MayNode.B5 : List Nat := [0, 1, 0, 7, 15, 31, 63, 127, 255, 511, 1023, 2047, 4095, 2047, 16383, 32767, 65535, 2047, 133119, 2047, 526335, 1968127, 4065279, 8259583, 16777215, 33554431, 67108863]
theorem engrossref10_MayNode.tab5 : rtab .any (opsOf Try.f15 5) = engrossref10_MayNode.T5 := by kernel_rfl
theorem engrossref10_MayNode.bits5 : waitsOk engrossref10_MayNode.T5.2 engrossref10_MayNode.B5 = true := by kernel_rfl
def engrossref10_MayNode.T18 : Bool × List (List Nat × List Nat) := (true, [([], []), ([0], [0]), ([], []), ([1, 2], [1, 2]), ([3], [3]), ([4], [4]), ([5], [5]), ([6, 5], [6]), ([7], [7]), ([8, 7], [7, 8]), ([9, 7, 7], [7, 9]), ([10], [10]), ([11, 10], [10, 11]), ([10], [10]), ([12, 13, 10], [10, 12, 13]), ([14, 10], [10, 14]), ([10], [10]), ([16, 10], [10, 16]), ([10], [10]), ([18, 10], [10, 18]), ([17, 19, 10], [10, 17, 19]), ([20, 10], [10, 20]), ([15, 21, 10], [10, 15, 21]), ([10, 22, 7], [7, 10, 22]), ([7, 23], [7, 23])])
def engrossref10_MayNode.B18 : List Nat := [0, 1, 0, 7, 15, 31, 63, 127, 255, 511, 1023, 2047, 4095, 2047, 16383, 32767, 2047, 67583, 2047, 264191, 985087, 2033663, 4194303, 8388607, 16777215]
theorem engrossref10_MayNode.tab18 : rtab .any (opsOf Try.f15 18) = engrossref10_MayNode.T18 := by kernel_rfl
theorem engrossref10_MayNode.bits18 : waitsOk engrossref10_MayNode.T18.2 engrossref10_MayNode.B18 = true := by kernel_rfl
set_option maxHeartbeats 8000000 in
set_option maxRecDepth 100000 in
theorem engrossref10_MayNode.calls (k : Nat) (a0_0 : Bool) (A0_1 : Option Addr) (c0_1 : Nat) (l0_1 : List (S56)) (A0_2 : Option Addr) (c0_2 : Nat) (l0_2 : List ByteArray) (A0_3 : Option Addr) (c0_3 : Nat) (l0_3 : List Int) (r : Bool) (w : World) (hr0_1 : Kd.C k56 w A0_1 l0_1.length l0_1) (hc0_1 : l0_1.length ≤ c0_1) (hr0_2 : Kd.C Kd.string w A0_2 l0_2.length l0_2) (hc0_2 : l0_2.length ≤ c0_2) (hr0_3 : Kd.C (Kd.int .i64) w A0_3 l0_3.length l0_3) (hc0_3 : l0_3.length ≤ c0_3) (h : engrossref10_MayNode.f k a0_0 l0_1 l0_2 l0_3 = some r) :
  Calls Try.prog 15 #[.agg #[.bool a0_0, .slice A0_1 l0_1.length c0_1, .slice A0_2 l0_2.length c0_2, .slice A0_3 l0_3.length c0_3]] w fun e w' => e = .returned (.bool r) ∧ Below w.heap.size w w' := by
 have hu26 := Try.underlying26
 have hu56 := Try.underlying56
 have HR0_1 := Aside0.mk hr0_1
 have HC0_1 := Aside0.mk hc0_1
 clear hr0_1 hc0_1
 have HR0_2 := Aside0.mk hr0_2
 have HC0_2 := Aside0.mk hc0_2
 clear hr0_2 hc0_2
 have HR0_3 := Aside0.mk hr0_3
 have HC0_3 := Aside0.mk hc0_3
 clear hr0_3 hc0_3
 have HB := Aside0.mk (Below.refl w.heap.size w)
 have H : (if a0_0 = true then (engrossref10_MayNode.l0 k 0 a0_0 l0_1 l0_2 l0_3) else (if (l0_1.length : Int) = 0 then (if (l0_3.length : Int) < 1 then (engrossref10_MayNode.j1 k true a0_0 l0_1 l0_2 l0_3) else (if (l0_3.length : Int) > 32 then (engrossref10_MayNode.j1 k true a0_0 l0_1 l0_2 l0_3) else (engrossref10_MayNode.j1 k ((l0_2.length : Int) != (wrap64 ((l0_3.length : Int) - 1))) a0_0 l0_1 l0_2 l0_3))) else (engrossref10_MayNode.j1 k true a0_0 l0_1 l0_2 l0_3))) = some r := h
 clear h
 by_cases c2 : a0_0 = true
 rotate_left
 ·replace c2 := Bool.eq_false_iff.mpr c2
  subst c2
  have H1 : (if (l0_1.length : Int) = 0 then (if (l0_3.length : Int) < 1 then (engrossref10_MayNode.j1 k true false l0_1 l0_2 l0_3) else (if (l0_3.length : Int) > 32 then (engrossref10_MayNode.j1 k true false l0_1 l0_2 l0_3) else (engrossref10_MayNode.j1 k ((l0_2.length : Int) != (wrap64 ((l0_3.length : Int) - 1))) false l0_1 l0_2 l0_3))) else (engrossref10_MayNode.j1 k true false l0_1 l0_2 l0_3)) = some r := by rw [if_neg (show ¬ (false = true) by decide)] at H; exact H
  clear H
  have H := H1
  clear H1
  have HC29 := Aside0.mk H
  clear H
  go_enter Try.func15, Try.ntmps15
  go_upto_region 8 with (first | ((with_reducible refine gate_dst (N := 1) rfl ?_); (try (refine gate_guard (by rfl) ?_; dsimp only)); refine box_event ?hg (N := 1) ?hd (cs := #[.bool false, .slice A0_1 l0_1.length c0_1, .slice A0_2 l0_2.length c0_2, .slice A0_3 l0_3.length c0_3]) (t := 26) ?hr ?_; (case hd => rfl); (case hg => rfl); (case hr => first | (go_simp; done) | (go_simp; rfl)); intro gb387 hg w30 hbox hb; have BK387 := Aside0.mk (hbox); have GW387 := bZ HB hg; have GE387 := bZ HB hg; replace HB := bW HB hb; clear hb hbox hg; obtain ⟨hcz31_0, hcz31_1, hcz31_2, hcz31_3, hfz31_0, hfz31_1, hfz31_2, hfz31_3⟩ := bf4 (w := w30) BK387))
  (try simp only [Act.put, List.setIfInBounds_toArray, List.set_cons_zero, List.set_cons_succ])
  go_cut [77] (fun v77 wc => ∃ (kq : Nat) (x77_28 : Bool), v77 = .bool x77_28 ∧ Aside0 (engrossref10_MayNode.j1 kq x77_28 false l0_1 l0_2 l0_3 = some r) ∧ Aside0 (kq ≤ k) ∧ Aside0 (wc.heap[gb387]? = some (.cells #[.bool false, (.slice A0_1 l0_1.length c0_1), (.slice A0_2 l0_2.length c0_2), (.slice A0_3 l0_3.length c0_3)] 26 (0, 0))) ∧ Aside0 (Below w.heap.size w wc))
  case first =>
   have H := HC29.out
   clear HC29
   by_cases c32 : (l0_1.length : Int) = 0
   rotate_left
   ·rw [if_neg c32] at H
    have c32b0 : ((l0_1.length : Int) == 0) = false := beq_eq_false_iff_ne.mpr c32
    have c32b1 : ((l0_1.length : Int) != 0) = true := bne_iff_ne.mpr c32
    have c32b2 : ¬ (l0_1 = []) := fun h_ => c32 (by rw [h_]; rfl)
    (first | rw [c32b0] | (simp only [i64_w, i32_w]; rw [c32b0]) | skip)
    have H' := Aside0.mk H
    clear H
    obtain ⟨hcz38_0, hcz38_1, hcz38_2, hcz38_3, hfz38_0, hfz38_1, hfz38_2, hfz38_3⟩ := bf4 (w := w30) BK387
    go_wp2
    go_meet
    case rel => exact ⟨_, (true), (by first | rfl | (simp; done) | (simp [*]; done)), H', ⟨by first | omega | exact Nat.le_refl _⟩, ⟨by (with_reducible repeat (first | refine blk_drewN ?_ _ | refine blk_drew ?_ | refine blk_alloc ?_ _)); exact BK387.out⟩, ⟨by repeat (first | (with_reducible first | exact HB.out | apply below_alloc | apply pw_below_drewN | apply below_drew1 | refine below_set ?_ GE387.out) | exact HB.out)⟩⟩
   rw [if_pos c32] at H
   have c32b0 : ((l0_1.length : Int) == 0) = true := beq_iff_eq.mpr c32
   have c32b1 : ((l0_1.length : Int) != 0) = false := bne_eq_false_iff_eq.mpr c32
   clear c32
   (first | rw [c32b0] | (simp only [i64_w, i32_w]; rw [c32b0]) | skip)
   by_cases c33 : (l0_3.length : Int) < 1
   ·rw [if_pos c33] at H
    have c33b0 : decide ((l0_3.length : Int) < 1) = true := decide_eq_true c33
    have c33b1 : decide (l0_3.length < 1) = true := decide_eq_true (by omega)
    clear c33
    have H' := Aside0.mk H
    clear H
    obtain ⟨hcz34_0, hcz34_1, hcz34_2, hcz34_3, hfz34_0, hfz34_1, hfz34_2, hfz34_3⟩ := bf4 (w := w30) BK387
    go_wp2
    go_meet
    case rel => exact ⟨_, (true), (by first | rfl | (simp; done) | (simp [*]; done)), H', ⟨by first | omega | exact Nat.le_refl _⟩, ⟨by (with_reducible repeat (first | refine blk_drewN ?_ _ | refine blk_drew ?_ | refine blk_alloc ?_ _)); exact BK387.out⟩, ⟨by repeat (first | (with_reducible first | exact HB.out | apply below_alloc | apply pw_below_drewN | apply below_drew1 | refine below_set ?_ GE387.out) | exact HB.out)⟩⟩
   rw [if_neg c33] at H
   have c33b0 : decide ((l0_3.length : Int) < 1) = false := decide_eq_false c33
   have c33b1 : decide (l0_3.length < 1) = false := decide_eq_false (by omega)
   clear c33
   by_cases c35 : (l0_3.length : Int) > 32
   ·rw [if_pos c35] at H
    have c35b0 : decide (32 < (l0_3.length : Int)) = true := decide_eq_true c35
    have c35b1 : decide (32 < l0_3.length) = true := decide_eq_true (by omega)
    clear c35
    have H' := Aside0.mk H
    clear H
    obtain ⟨hcz36_0, hcz36_1, hcz36_2, hcz36_3, hfz36_0, hfz36_1, hfz36_2, hfz36_3⟩ := bf4 (w := w30) BK387
    go_wp2
    go_meet
    case rel => exact ⟨_, (true), (by first | rfl | (simp; done) | (simp [*]; done)), H', ⟨by first | omega | exact Nat.le_refl _⟩, ⟨by (with_reducible repeat (first | refine blk_drewN ?_ _ | refine blk_drew ?_ | refine blk_alloc ?_ _)); exact BK387.out⟩, ⟨by repeat (first | (with_reducible first | exact HB.out | apply below_alloc | apply pw_below_drewN | apply below_drew1 | refine below_set ?_ GE387.out) | exact HB.out)⟩⟩
   rw [if_neg c35] at H
   have c35b0 : decide (32 < (l0_3.length : Int)) = false := decide_eq_false c35
   have c35b1 : decide (32 < l0_3.length) = false := decide_eq_false (by omega)
   clear c35
   have H' := Aside0.mk H
   clear H
   obtain ⟨hcz37_0, hcz37_1, hcz37_2, hcz37_3, hfz37_0, hfz37_1, hfz37_2, hfz37_3⟩ := bf4 (w := w30) BK387
   go_wp2
   go_meet
   case rel => exact ⟨_, (((l0_2.length : Int) != (wrap64 ((l0_3.length : Int) - 1)))), (by first | rfl | (simp; done) | (simp [*]; done)), H', ⟨by first | omega | exact Nat.le_refl _⟩, ⟨by (with_reducible repeat (first | refine blk_drewN ?_ _ | refine blk_drew ?_ | refine blk_alloc ?_ _)); exact BK387.out⟩, ⟨by repeat (first | (with_reducible first | exact HB.out | apply below_alloc | apply pw_below_drewN | apply below_drew1 | refine below_set ?_ GE387.out) | exact HB.out)⟩⟩
  case rest =>
   clear HC29
   try clear c1
   try clear c2
   try clear p2
   try clear c3
   try clear p3
   try clear q3
   try clear hx3
   try clear c5
   try clear c5b0
   try clear c6
   try clear p6
   try clear c8
   try clear c9
   try clear c9b0
   try clear c11
   try clear c12
   try clear c15
   try clear c26
   try clear c26b0
   try clear c26b1
   try clear c26b2
   try clear c31
   try clear c32
   try clear c32b0
   try clear c32b1
   try clear c32b2
   try clear c33
   try clear c33b0
   try clear c33b1
   try clear c35
   try clear c35b0
   try clear c35b1
   try clear p38
   try clear q38
   try clear hx38
   try clear hcz20_0
   try clear hcz20_1
   try clear hcz20_2
   try clear hcz20_3
   try clear hcz23_0
   try clear hcz23_1
   try clear hcz23_2
   try clear hcz23_3
   try clear hcz27_0
   try clear hcz27_1
   try clear hcz27_2
   try clear hcz27_3
   try clear hcz28_0
   try clear hcz28_1
   try clear hcz28_2
   try clear hcz28_3
   try clear hcz31_0
   try clear hcz31_1
   try clear hcz31_2
   try clear hcz31_3
   try clear hcz34_0
   try clear hcz34_1
   try clear hcz34_2
   try clear hcz34_3
   try clear hcz36_0
   try clear hcz36_1
   try clear hcz36_2
   try clear hcz36_3
   try clear hcz37_0
   try clear hcz37_1
   try clear hcz37_2
   try clear hcz37_3
   try clear hcz38_0
   try clear hcz38_1
   try clear hcz38_2
   try clear hcz38_3
   try clear hfz20_0
   try clear hfz20_1
   try clear hfz20_2
   try clear hfz20_3
   try clear hfz23_0
   try clear hfz23_1
   try clear hfz23_2
   try clear hfz23_3
   try clear hfz27_0
   try clear hfz27_1
   try clear hfz27_2
   try clear hfz27_3
   try clear hfz28_0
   try clear hfz28_1
   try clear hfz28_2
   try clear hfz28_3
   try clear hfz31_0
   try clear hfz31_1
   try clear hfz31_2
   try clear hfz31_3
   try clear hfz34_0
   try clear hfz34_1
   try clear hfz34_2
   try clear hfz34_3
   try clear hfz36_0
   try clear hfz36_1
   try clear hfz36_2
   try clear hfz36_3
   try clear hfz37_0
   try clear hfz37_1
   try clear hfz37_2
   try clear hfz37_3
   try clear hfz38_0
   try clear hfz38_1
   try clear hfz38_2
   try clear hfz38_3
   try clear hx388_0
   try clear hx388_1
   try clear hx388_2
   try clear hx388_3
   try clear hx388_4
   try clear hx388_5
   try clear hx388_6
   try clear hx388_7
   try clear p388
   try clear q388
   obtain ⟨kq, x77_28, rfl, HA, HJ28, BK387, HB⟩ := hcut
   cases kq with
   | zero => exact absurd HA.out (by simp [engrossref10_MayNode.j1])
   | succ kj28 =>
    have H := HA.out
    clear HA
    simp only [engrossref10_MayNode.j1] at H
    by_cases c39 : x77_28 = true
    ·subst c39
     have H1 : (some false) = some r := by rw [if_pos rfl] at H; exact H
     clear H
     have H := H1
     clear H1
     obtain rfl := Option.some.inj H
     go_wp2
     go_ret
     exact xB HB
    replace c39 := Bool.eq_false_iff.mpr c39
    subst c39
    have H1 : (engrossref10_MayNode.l1 kj28 0 false l0_1 l0_2 l0_3) = some r := by rw [if_neg (show ¬ (false = true) by decide)] at H; exact H
    clear H
    have H := H1
    clear H1
    have H' := Aside0.mk H
    clear H
    go_wp2
    go_loopg [4] kj28 (fun kq v4 w' => ∃ (x4_2 : Int), v4 = .int .i64 x4_2 ∧ Aside0 (engrossref10_MayNode.l1 kq x4_2 false l0_1 l0_2 l0_3 = some r) ∧ Aside0 (kq ≤ kj28) ∧ Aside0 (w'.heap[gb387]? = some (.cells #[.bool false, (.slice A0_1 l0_1.length c0_1), (.slice A0_2 l0_2.length c0_2), (.slice A0_3 l0_3.length c0_3)] 26 (0, 0))) ∧ Aside0 (Below w.heap.size w w'))
    case atStart => exact ⟨(0), (by first | rfl | (simp; done) | (simp [*]; done)), H', ⟨Nat.le_refl _⟩, ⟨by (with_reducible repeat (first | refine blk_drewN ?_ _ | refine blk_drew ?_ | refine blk_alloc ?_ _)); exact BK387.out⟩, ⟨by repeat (first | (with_reducible first | exact HB.out | apply below_alloc | apply pw_below_drewN | apply below_drew1 | refine below_set ?_ GE387.out) | exact HB.out)⟩⟩
    case round =>
     clear H'
     try clear c1
     try clear c2
     try clear p2
     try clear c3
     try clear p3
     try clear q3
     try clear hx3
     try clear c5
     try clear c5b0
     try clear c6
     try clear p6
     try clear c8
     try clear c9
     try clear c9b0
     try clear c11
     try clear c12
     try clear c15
     try clear c26
     try clear c26b0
     try clear c26b1
     try clear c26b2
     try clear c31
     try clear c32
     try clear c32b0
     try clear c32b1
     try clear c32b2
     try clear c33
     try clear c33b0
     try clear c33b1
     try clear c35
     try clear c35b0
     try clear c35b1
     try clear p38
     try clear q38
     try clear hx38
     try clear c39
     try clear hcz20_0
     try clear hcz20_1
     try clear hcz20_2
     try clear hcz20_3
     try clear hcz23_0
     try clear hcz23_1
     try clear hcz23_2
     try clear hcz23_3
     try clear hcz27_0
     try clear hcz27_1
     try clear hcz27_2
     try clear hcz27_3
     try clear hcz28_0
     try clear hcz28_1
     try clear hcz28_2
     try clear hcz28_3
     try clear hcz31_0
     try clear hcz31_1
     try clear hcz31_2
     try clear hcz31_3
     try clear hcz34_0
     try clear hcz34_1
     try clear hcz34_2
     try clear hcz34_3
     try clear hcz36_0
     try clear hcz36_1
     try clear hcz36_2
     try clear hcz36_3
     try clear hcz37_0
     try clear hcz37_1
     try clear hcz37_2
     try clear hcz37_3
     try clear hcz38_0
     try clear hcz38_1
     try clear hcz38_2
     try clear hcz38_3
     try clear hfz20_0
     try clear hfz20_1
     try clear hfz20_2
     try clear hfz20_3
     try clear hfz23_0
     try clear hfz23_1
     try clear hfz23_2
     try clear hfz23_3
     try clear hfz27_0
     try clear hfz27_1
     try clear hfz27_2
     try clear hfz27_3
     try clear hfz28_0
     try clear hfz28_1
     try clear hfz28_2
     try clear hfz28_3
     try clear hfz31_0
     try clear hfz31_1
     try clear hfz31_2
     try clear hfz31_3
     try clear hfz34_0
     try clear hfz34_1
     try clear hfz34_2
     try clear hfz34_3
     try clear hfz36_0
     try clear hfz36_1
     try clear hfz36_2
     try clear hfz36_3
     try clear hfz37_0
     try clear hfz37_1
     try clear hfz37_2
     try clear hfz37_3
     try clear hfz38_0
     try clear hfz38_1
     try clear hfz38_2
     try clear hfz38_3
     try clear hx388_0
     try clear hx388_1
     try clear hx388_2
     try clear hx388_3
     try clear hx388_4
     try clear hx388_5
     try clear hx388_6
     try clear hx388_7
     try clear p2
     try clear p3
     try clear p38
     try clear p388
     try clear p6
     try clear q3
     try clear q38
     try clear q388
     obtain ⟨x4_2, rfl, HA, HK2, BK387, HB⟩ := hrel
     cases gk with
     | zero => exact absurd HA.out (by simp [engrossref10_MayNode.l1])
     | succ k2 =>
      have H := HA.out
      clear HA
      simp only [engrossref10_MayNode.l1] at H
      by_cases c40 : x4_2 < (l0_3.length : Int)
      ·rw [if_pos c40] at H
       have c40b0 : decide (x4_2 < (l0_3.length : Int)) = true := decide_eq_true c40
       clear c40
       by_cases c41 : 0 ≤ x4_2
       rotate_left
       ·rw [if_neg c41] at H
        exact absurd H (by simp)
       rw [if_pos c41] at H
       have c41b0 : decide (0 ≤ x4_2) = true := decide_eq_true c41
       clear c41
       by_cases c42 : (rd l0_3 x4_2) < 2
       ·rw [if_pos c42] at H
        have c42b0 : decide ((rd l0_3 x4_2) < 2) = true := decide_eq_true c42
        clear c42
        obtain rfl := Option.some.inj H
        obtain ⟨hcz43_0, hcz43_1, hcz43_2, hcz43_3, hfz43_0, hfz43_1, hfz43_2, hfz43_3⟩ := bf4 (w := wr) BK387
        have p392 : 0 ≤ (x4_2 : Int) := of_decide_eq_true (by first | (with_reducible assumption) | assumption)
        have q392 : x4_2 < (l0_3.length : Int) := of_decide_eq_true (by first | (with_reducible assumption) | assumption)
        obtain ⟨ad392, e392, hx392_0⟩ := Kd.at_int HR0_3.out x4_2 p392 q392
        cases e392
        replace hx392_0 := (HB.out.cell (World.block_lt_of_cell? w _ hx392_0)).trans hx392_0
        replace p392 := eq_true p392
        replace q392 := eq_true q392
        go_wp2
        go_ret
        exact xB HB
       rw [if_neg c42] at H
       have c42b0 : decide ((rd l0_3 x4_2) < 2) = false := decide_eq_false c42
       clear c42
       by_cases c44 : (rd l0_3 x4_2) > 31
       ·rw [if_pos c44] at H
        have c44b0 : decide (31 < (rd l0_3 x4_2)) = true := decide_eq_true c44
        clear c44
        obtain rfl := Option.some.inj H
        obtain ⟨hcz45_0, hcz45_1, hcz45_2, hcz45_3, hfz45_0, hfz45_1, hfz45_2, hfz45_3⟩ := bf4 (w := wr) BK387
        have p392 : 0 ≤ (x4_2 : Int) := of_decide_eq_true (by first | (with_reducible assumption) | assumption)
        have q392 : x4_2 < (l0_3.length : Int) := of_decide_eq_true (by first | (with_reducible assumption) | assumption)
        obtain ⟨ad392, e392, hx392_0⟩ := Kd.at_int HR0_3.out x4_2 p392 q392
        cases e392
        replace hx392_0 := (HB.out.cell (World.block_lt_of_cell? w _ hx392_0)).trans hx392_0
        replace p392 := eq_true p392
        replace q392 := eq_true q392
        have p393 : 0 ≤ (x4_2 : Int) := of_decide_eq_true (by first | (with_reducible assumption) | assumption)
        have q393 : x4_2 < (l0_3.length : Int) := of_decide_eq_true (by first | (with_reducible assumption) | assumption)
        obtain ⟨ad393, e393, hx393_0⟩ := Kd.at_int HR0_3.out x4_2 p393 q393
        obtain rfl : ad392 = ad393 := (by injection e393)
        replace hx393_0 := (HB.out.cell (World.block_lt_of_cell? w _ hx393_0)).trans hx393_0
        replace p393 := eq_true p393
        replace q393 := eq_true q393
        go_wp2
        go_ret
        exact xB HB
       rw [if_neg c44] at H
       have c44b0 : decide (31 < (rd l0_3 x4_2)) = false := decide_eq_false c44
       clear c44
       have H' := Aside0.mk H
       clear H
       obtain ⟨hcz46_0, hcz46_1, hcz46_2, hcz46_3, hfz46_0, hfz46_1, hfz46_2, hfz46_3⟩ := bf4 (w := wr) BK387
       have p392 : 0 ≤ (x4_2 : Int) := of_decide_eq_true (by first | (with_reducible assumption) | assumption)
       have q392 : x4_2 < (l0_3.length : Int) := of_decide_eq_true (by first | (with_reducible assumption) | assumption)
       obtain ⟨ad392, e392, hx392_0⟩ := Kd.at_int HR0_3.out x4_2 p392 q392
       cases e392
       replace hx392_0 := (HB.out.cell (World.block_lt_of_cell? w _ hx392_0)).trans hx392_0
       replace p392 := eq_true p392
       replace q392 := eq_true q392
       have p393 : 0 ≤ (x4_2 : Int) := of_decide_eq_true (by first | (with_reducible assumption) | assumption)
       have q393 : x4_2 < (l0_3.length : Int) := of_decide_eq_true (by first | (with_reducible assumption) | assumption)
       obtain ⟨ad393, e393, hx393_0⟩ := Kd.at_int HR0_3.out x4_2 p393 q393
       obtain rfl : ad392 = ad393 := (by injection e393)
       replace hx393_0 := (HB.out.cell (World.block_lt_of_cell? w _ hx393_0)).trans hx393_0
       replace p393 := eq_true p393
       replace q393 := eq_true q393
       go_wp2
       go_roundg k2
       case measure => have := HJ28.out; have := HK2.out; omega
       case rel => exact ⟨(wrap64 (x4_2 + 1)), (by first | rfl | (simp; done) | (simp [*]; done)), H', ⟨by have := HJ28.out; have := HK2.out; omega⟩, ⟨by (with_reducible repeat (first | refine blk_drewN ?_ _ | refine blk_drew ?_ | refine blk_alloc ?_ _)); exact BK387.out⟩, ⟨by repeat (first | (with_reducible first | exact HB.out | apply below_alloc | apply pw_below_drewN | apply below_drew1 | refine below_set ?_ GE387.out) | exact HB.out)⟩⟩
      rw [if_neg c40] at H
      have c40b0 : decide (x4_2 < (l0_3.length : Int)) = false := decide_eq_false c40
      clear c40
      have H' := Aside0.mk H
      clear H
      obtain ⟨hcz47_0, hcz47_1, hcz47_2, hcz47_3, hfz47_0, hfz47_1, hfz47_2, hfz47_3⟩ := bf4 (w := wr) BK387
      go_wp2
      go_loopg [5] k2 (fun kq v5 w' => ∃ (x5_3 : Int), v5 = .int .i64 x5_3 ∧ Aside0 (engrossref10_MayNode.l2 kq x5_3 false l0_1 l0_2 l0_3 = some r) ∧ Aside0 (kq ≤ k2) ∧ Aside0 (w'.heap[gb387]? = some (.cells #[.bool false, (.slice A0_1 l0_1.length c0_1), (.slice A0_2 l0_2.length c0_2), (.slice A0_3 l0_3.length c0_3)] 26 (0, 0))) ∧ Aside0 (Below w.heap.size w w'))
      case atStart => exact ⟨(0), (by first | rfl | (simp; done) | (simp [*]; done)), H', ⟨Nat.le_refl _⟩, ⟨by (with_reducible repeat (first | refine blk_drewN ?_ _ | refine blk_drew ?_ | refine blk_alloc ?_ _)); exact BK387.out⟩, ⟨by repeat (first | (with_reducible first | exact HB.out | apply below_alloc | apply pw_below_drewN | apply below_drew1 | refine below_set ?_ GE387.out) | exact HB.out)⟩⟩
      case round =>
       clear H'
       try clear c1
       try clear c2
       try clear p2
       try clear c3
       try clear p3
       try clear q3
       try clear hx3
       try clear c4
       try clear c5
       try clear c5b0
       try clear c6
       try clear p6
       try clear c8
       try clear c9
       try clear c9b0
       try clear c11
       try clear c12
       try clear c15
       try clear c26
       try clear c26b0
       try clear c26b1
       try clear c26b2
       try clear c31
       try clear c32
       try clear c32b0
       try clear c32b1
       try clear c32b2
       try clear c33
       try clear c33b0
       try clear c33b1
       try clear c35
       try clear c35b0
       try clear c35b1
       try clear p38
       try clear q38
       try clear hx38
       try clear c39
       try clear p39
       try clear q39
       try clear hx39
       try clear c40
       try clear c40b0
       try clear c41
       try clear c41b0
       try clear c42
       try clear c42b0
       try clear c44
       try clear c44b0
       try clear hcz20_0
       try clear hcz20_1
       try clear hcz20_2
       try clear hcz20_3
       try clear hcz23_0
       try clear hcz23_1
       try clear hcz23_2
       try clear hcz23_3
       try clear hcz27_0
       try clear hcz27_1
       try clear hcz27_2
       try clear hcz27_3
       try clear hcz28_0
       try clear hcz28_1
       try clear hcz28_2
       try clear hcz28_3
       try clear hcz31_0
       try clear hcz31_1
       try clear hcz31_2
       try clear hcz31_3
       try clear hcz34_0
       try clear hcz34_1
       try clear hcz34_2
       try clear hcz34_3
       try clear hcz36_0
       try clear hcz36_1
       try clear hcz36_2
       try clear hcz36_3
       try clear hcz37_0
       try clear hcz37_1
       try clear hcz37_2
       try clear hcz37_3
       try clear hcz38_0
       try clear hcz38_1
       try clear hcz38_2
       try clear hcz38_3
       try clear hcz43_0
       try clear hcz43_1
       try clear hcz43_2
       try clear hcz43_3
       try clear hcz45_0
       try clear hcz45_1
       try clear hcz45_2
       try clear hcz45_3
       try clear hcz46_0
       try clear hcz46_1
       try clear hcz46_2
       try clear hcz46_3
       try clear hcz47_0
       try clear hcz47_1
       try clear hcz47_2
       try clear hcz47_3
       try clear hfz20_0
       try clear hfz20_1
       try clear hfz20_2
       try clear hfz20_3
       try clear hfz23_0
       try clear hfz23_1
       try clear hfz23_2
       try clear hfz23_3
       try clear hfz27_0
       try clear hfz27_1
       try clear hfz27_2
       try clear hfz27_3
       try clear hfz28_0
       try clear hfz28_1
       try clear hfz28_2
       try clear hfz28_3
       try clear hfz31_0
       try clear hfz31_1
       try clear hfz31_2
       try clear hfz31_3
       try clear hfz34_0
       try clear hfz34_1
       try clear hfz34_2
       try clear hfz34_3
       try clear hfz36_0
       try clear hfz36_1
       try clear hfz36_2
       try clear hfz36_3
       try clear hfz37_0
       try clear hfz37_1
       try clear hfz37_2
       try clear hfz37_3
       try clear hfz38_0
       try clear hfz38_1
       try clear hfz38_2
       try clear hfz38_3
       try clear hfz43_0
       try clear hfz43_1
       try clear hfz43_2
       try clear hfz43_3
       try clear hfz45_0
       try clear hfz45_1
       try clear hfz45_2
       try clear hfz45_3
       try clear hfz46_0
       try clear hfz46_1
       try clear hfz46_2
       try clear hfz46_3
       try clear hfz47_0
       try clear hfz47_1
       try clear hfz47_2
       try clear hfz47_3
       try clear hx388_0
       try clear hx388_1
       try clear hx388_2
       try clear hx388_3
       try clear hx388_4
       try clear hx388_5
       try clear hx388_6
       try clear hx388_7
       try clear hx392_0
       try clear hx393_0
       try clear p2
       try clear p3
       try clear p38
       try clear p388
       try clear p392
       try clear p393
       try clear p6
       try clear q3
       try clear q38
       try clear q388
       try clear q392
       try clear q393
       obtain ⟨x5_3, rfl, HA, HK3, BK387, HB⟩ := hrel
       cases gk with
       | zero => exact absurd HA.out (by simp [engrossref10_MayNode.l2])
       | succ k3 =>
        have H := HA.out
        clear HA
        simp only [engrossref10_MayNode.l2] at H
        by_cases c48 : x5_3 < (l0_2.length : Int)
        rotate_left
        ·rw [if_neg c48] at H
         have c48b0 : decide (x5_3 < (l0_2.length : Int)) = false := decide_eq_false c48
         clear c48
         obtain rfl := Option.some.inj H
         obtain ⟨hcz65_0, hcz65_1, hcz65_2, hcz65_3, hfz65_0, hfz65_1, hfz65_2, hfz65_3⟩ := bf4 (w := wr) BK387
         go_wp2
         go_ret
         exact xB HB
        rw [if_pos c48] at H
        have c48b0 : decide (x5_3 < (l0_2.length : Int)) = true := decide_eq_true c48
        clear c48
        by_cases c49 : 0 ≤ x5_3
        rotate_left
        ·rw [if_neg c49] at H
         exact absurd H (by simp)
        rw [if_pos c49] at H
        have c49b0 : decide (0 ≤ x5_3) = true := decide_eq_true c49
        clear c49
        replace H := Option.bind_eq_some_iff.mp H
        obtain ⟨t395, A500, H⟩ := H
        replace H : (if t395 = true then (if x5_3 > 0 then (if 0 ≤ (wrap64 (x5_3 - 1)) then (if (wrap64 (x5_3 - 1)) < (l0_2.length : Int) then (if ((Op.bytesLess ((rdOf ByteArray.empty l0_2 (wrap64 (x5_3 - 1))).toList) ((rdOf ByteArray.empty l0_2 x5_3).toList)) = true) then (engrossref10_MayNode.l2 k3 (wrap64 (x5_3 + 1)) false l0_1 l0_2 l0_3) else (some false)) else (none)) else (none)) else (engrossref10_MayNode.l2 k3 (wrap64 (x5_3 + 1)) false l0_1 l0_2 l0_3)) else (some false)) = some r := H
        have A50 := Aside0.mk A500
        clear A500
        by_cases c51 : t395 = true
        rotate_left
        ·replace c51 := Bool.eq_false_iff.mpr c51
         subst c51
         have H1 : (some false) = some r := by rw [if_neg (show ¬ (false = true) by decide)] at H; exact H
         clear H
         have H := H1
         clear H1
         obtain rfl := Option.some.inj H
         obtain ⟨hcz63_0, hcz63_1, hcz63_2, hcz63_3, hfz63_0, hfz63_1, hfz63_2, hfz63_3⟩ := bf4 (w := wr) BK387
         try go_wp2
         replace BK387 := Aside0.mk (blk_drew BK387.out)
         replace HB := Aside0.mk (below_drew1 HB.out)
         have p394 : 0 ≤ (x5_3 : Int) := of_decide_eq_true (by first | (with_reducible assumption) | assumption)
         have q394 : x5_3 < (l0_2.length : Int) := of_decide_eq_true (by first | (with_reducible assumption) | assumption)
         obtain ⟨ad394, e394, hx394_0⟩ := Kd.at_string HR0_2.out x5_3 p394 q394
         have hw394_0 := hx394_0
         cases e394
         replace hx394_0 := (HB.out.cell (World.block_lt_of_cell? w _ hx394_0)).trans hx394_0
         replace p394 := eq_true p394
         replace q394 := eq_true q394
         refine start_ (n := 25) (S := fun w' => w'.cell? ⟨gb387, 0, none⟩ = some (.bool false) ∧ w'.cell? ⟨gb387, 1, none⟩ = some (.slice A0_1 l0_1.length c0_1) ∧ w'.cell? ⟨gb387, 2, none⟩ = some (.slice (some ad394) l0_2.length c0_2) ∧ w'.cell? ⟨gb387, 3, none⟩ = some (.slice A0_3 l0_3.length c0_3) ∧ w'.cell? (ad394.add (x5_3).toNat) = some (.string (rdOf ByteArray.empty l0_2 x5_3))) (ds := []) #[false,false,false,false,false,false,false,false,false,false,false,false,false,false,false,false,false,false,false,false,false,false,false,false,false] (by kernel_rfl) rfl rfl (bn4 BK387 (((HB.out.cell (World.block_lt_of_cell? w _ hw394_0)).trans hw394_0))) (fun hHeld => ?_); refine with_tabW engrossref10_MayNode.tab18 engrossref10_MayNode.bits18 (fun HT_ HW_ => ?_)
         generalize wr.drew = w64 at BK387 HB hx394_0 hHeld ⊢
         refine pA 0 106 HT_ ?_
         refine pA 2 108 HT_ ?_
         refine tA 1 107 HT_ HW_ hHeld ?_ (hy := by rintro w' ⟨s0, s1, s2, s3, s4⟩; go_simp; with_reducible rfl)
         refine pA 3 109 HT_ ?_
         refine tA 4 110 HT_ HW_ hHeld ?_ (hy := by rintro w' ⟨s0, s1, s2, s3, s4⟩; go_simp; with_reducible rfl)
         refine oA 5 (some 111) HT_ (fun K hK => ?_)
         refine goes_ Try.func32 (by kernel_rfl) rfl #[.string (rdOf ByteArray.empty l0_2 x5_3)] (by rfl) rfl rfl (by (try simp only [List.map_toArray, List.map_cons, List.map_nil]); first | done | rfl | (simp only [List.length_drop, List.length_take]; rfl)) ?_
         with_reducible refine (engrossref1_MayKey.calls (rdOf ByteArray.empty l0_2 x5_3) false _ A50.out).mono ?_
         rintro e w' ⟨rfl, ⟨nd, rfl⟩⟩
         refine ⟨_, rfl, ?_⟩
         refine hK.out _ _ (bn4 BK387 (((HB.out.cell (World.block_lt_of_cell? w _ hw394_0)).trans hw394_0))) (fun hHeld => ?_)
         clear hK K
         refine norm_ (a' := ?_) ?_ ?_
         rotate_left
         ·show Act.put _ (some 111) _ = _
          simp only [Act.put, List.setIfInBounds_toArray, List.set_cons_zero, List.set_cons_succ, i64_w, i32_w]
          rfl
         refine pA 6 112 HT_ ?_
         refine pA 7 113 HT_ ?_
         refine pU 8 114 HT_ ?_
         refine pU 9 115 HT_ ?_
         refine pU 10 116 HT_ ?_
         refine pU 11 117 HT_ ?_
         refine pU 12 118 HT_ ?_
         refine pU 13 119 HT_ ?_
         refine pU 14 120 HT_ ?_
         refine pU 15 121 HT_ ?_
         refine pU 16 122 HT_ ?_
         refine pU 17 123 HT_ ?_
         refine pU 18 124 HT_ ?_
         refine pU 19 125 HT_ ?_
         refine pU 20 126 HT_ ?_
         refine pU 21 127 HT_ ?_
         refine pU 22 128 HT_ ?_
         refine pU 23 129 HT_ ?_
         refine pA 24 130 HT_ ?_
         refine done_ (done_of HT_.out (by kernel_rfl)) ?_
         try go_wp2
         go_ret
         exact xB HB
        subst c51
        have H1 : (if x5_3 > 0 then (if 0 ≤ (wrap64 (x5_3 - 1)) then (if (wrap64 (x5_3 - 1)) < (l0_2.length : Int) then (if ((Op.bytesLess ((rdOf ByteArray.empty l0_2 (wrap64 (x5_3 - 1))).toList) ((rdOf ByteArray.empty l0_2 x5_3).toList)) = true) then (engrossref10_MayNode.l2 k3 (wrap64 (x5_3 + 1)) false l0_1 l0_2 l0_3) else (some false)) else (none)) else (none)) else (engrossref10_MayNode.l2 k3 (wrap64 (x5_3 + 1)) false l0_1 l0_2 l0_3)) = some r := by rw [if_pos rfl] at H; exact H
        clear H
        have H := H1
        clear H1
        by_cases c52 : x5_3 > 0
        rotate_left
        ·rw [if_neg c52] at H
         have c52b0 : decide (0 < x5_3) = false := decide_eq_false c52
         clear c52
         have H' := Aside0.mk H
         clear H
         obtain ⟨hcz61_0, hcz61_1, hcz61_2, hcz61_3, hfz61_0, hfz61_1, hfz61_2, hfz61_3⟩ := bf4 (w := wr) BK387
         try go_wp2
         replace BK387 := Aside0.mk (blk_drew BK387.out)
         replace HB := Aside0.mk (below_drew1 HB.out)
         have p394 : 0 ≤ (x5_3 : Int) := of_decide_eq_true (by first | (with_reducible assumption) | assumption)
         have q394 : x5_3 < (l0_2.length : Int) := of_decide_eq_true (by first | (with_reducible assumption) | assumption)
         obtain ⟨ad394, e394, hx394_0⟩ := Kd.at_string HR0_2.out x5_3 p394 q394
         have hw394_0 := hx394_0
         cases e394
         replace hx394_0 := (HB.out.cell (World.block_lt_of_cell? w _ hx394_0)).trans hx394_0
         replace p394 := eq_true p394
         replace q394 := eq_true q394
         refine start_ (n := 25) (S := fun w' => w'.cell? ⟨gb387, 0, none⟩ = some (.bool false) ∧ w'.cell? ⟨gb387, 1, none⟩ = some (.slice A0_1 l0_1.length c0_1) ∧ w'.cell? ⟨gb387, 2, none⟩ = some (.slice (some ad394) l0_2.length c0_2) ∧ w'.cell? ⟨gb387, 3, none⟩ = some (.slice A0_3 l0_3.length c0_3) ∧ w'.cell? (ad394.add (x5_3).toNat) = some (.string (rdOf ByteArray.empty l0_2 x5_3))) (ds := []) #[false,false,false,false,false,false,false,false,false,false,false,false,false,false,false,false,false,false,false,false,false,false,false,false,false] (by kernel_rfl) rfl rfl (bn4 BK387 (((HB.out.cell (World.block_lt_of_cell? w _ hw394_0)).trans hw394_0))) (fun hHeld => ?_); refine with_tabW engrossref10_MayNode.tab18 engrossref10_MayNode.bits18 (fun HT_ HW_ => ?_)
         generalize wr.drew = w62 at BK387 HB hx394_0 hHeld ⊢
         refine pA 0 106 HT_ ?_
         refine pA 2 108 HT_ ?_
         refine tA 1 107 HT_ HW_ hHeld ?_ (hy := by rintro w' ⟨s0, s1, s2, s3, s4⟩; go_simp; with_reducible rfl)
         refine pA 3 109 HT_ ?_
         refine tA 4 110 HT_ HW_ hHeld ?_ (hy := by rintro w' ⟨s0, s1, s2, s3, s4⟩; go_simp; with_reducible rfl)
         refine oA 5 (some 111) HT_ (fun K hK => ?_)
         refine goes_ Try.func32 (by kernel_rfl) rfl #[.string (rdOf ByteArray.empty l0_2 x5_3)] (by rfl) rfl rfl (by (try simp only [List.map_toArray, List.map_cons, List.map_nil]); first | done | rfl | (simp only [List.length_drop, List.length_take]; rfl)) ?_
         with_reducible refine (engrossref1_MayKey.calls (rdOf ByteArray.empty l0_2 x5_3) true _ A50.out).mono ?_
         rintro e w' ⟨rfl, ⟨nd, rfl⟩⟩
         refine ⟨_, rfl, ?_⟩
         refine hK.out _ _ (bn4 BK387 (((HB.out.cell (World.block_lt_of_cell? w _ hw394_0)).trans hw394_0))) (fun hHeld => ?_)
         clear hK K
         refine norm_ (a' := ?_) ?_ ?_
         rotate_left
         ·show Act.put _ (some 111) _ = _
          simp only [Act.put, List.setIfInBounds_toArray, List.set_cons_zero, List.set_cons_succ, i64_w, i32_w]
          rfl
         refine pA 6 112 HT_ ?_
         refine pA 7 113 HT_ ?_
         refine pA 8 114 HT_ ?_
         refine pA 9 115 HT_ ?_
         refine pA 10 116 HT_ ?_
         refine pU 11 117 HT_ ?_
         refine pU 12 118 HT_ ?_
         refine pU 13 119 HT_ ?_
         refine pU 14 120 HT_ ?_
         refine pU 15 121 HT_ ?_
         refine pU 16 122 HT_ ?_
         refine pU 17 123 HT_ ?_
         refine pU 18 124 HT_ ?_
         refine pU 19 125 HT_ ?_
         refine pU 20 126 HT_ ?_
         refine pU 21 127 HT_ ?_
         refine pU 22 128 HT_ ?_
         refine pA 23 129 HT_ ?_
         refine pA 24 130 HT_ ?_
         refine done_ (done_of HT_.out (by kernel_rfl)) ?_
         try go_wp2
         go_roundg k3
         case measure => have := HJ28.out; have := HK2.out; have := HK3.out; omega
         case rel => exact ⟨(wrap64 (x5_3 + 1)), (by first | rfl | (simp; done) | (simp [*]; done)), H', ⟨by have := HJ28.out; have := HK2.out; have := HK3.out; omega⟩, ⟨by (with_reducible repeat (first | refine blk_drewN ?_ _ | refine blk_drew ?_ | refine blk_alloc ?_ _)); exact BK387.out⟩, ⟨by repeat (first | (with_reducible first | exact HB.out | apply below_alloc | apply pw_below_drewN | apply below_drew1 | refine below_set ?_ GE387.out) | exact HB.out)⟩⟩
        rw [if_pos c52] at H
        have c52b0 : decide (0 < x5_3) = true := decide_eq_true c52
        clear c52
        obtain ⟨ji53, hji53⟩ : ∃ j_ : Int, (wrap64 (x5_3 - 1)) = j_ := ⟨_, rfl⟩
        replace H : (if 0 ≤ (ji53) then (if (ji53) < (l0_2.length : Int) then (if ((Op.bytesLess ((rdOf ByteArray.empty l0_2 (ji53)).toList) ((rdOf ByteArray.empty l0_2 x5_3).toList)) = true) then (engrossref10_MayNode.l2 k3 (wrap64 (x5_3 + 1)) false l0_1 l0_2 l0_3) else (some false)) else (none)) else (none)) = some r := by first | (rw [hji53] at H; exact H) | (simp only [hji53] at H ⊢; exact H)
        (try rw [hji53] at A50)
        have hji53w : (IntKind.i64.wrap (x5_3 - 1)) = ji53 := (i64_w _).trans hji53
        by_cases c54 : 0 ≤ (ji53)
        rotate_left
        ·rw [if_neg c54] at H
         exact absurd H (by simp)
        rw [if_pos c54] at H
        have c54b0 : decide (0 ≤ (ji53)) = true := decide_eq_true c54
        clear c54
        by_cases c55 : (ji53) < (l0_2.length : Int)
        rotate_left
        ·rw [if_neg c55] at H
         exact absurd H (by simp)
        rw [if_pos c55] at H
        have c55b0 : decide ((ji53) < (l0_2.length : Int)) = true := decide_eq_true c55
        clear c55
        by_cases c56 : ((Op.bytesLess ((rdOf ByteArray.empty l0_2 (ji53)).toList) ((rdOf ByteArray.empty l0_2 x5_3).toList)) = true)
        rotate_left
        ·rw [if_neg c56] at H
         have c56b0 : (Op.bytesLess ((rdOf ByteArray.empty l0_2 (ji53)).toList) ((rdOf ByteArray.empty l0_2 x5_3).toList)) = false := by simpa using c56
         clear c56
         obtain rfl := Option.some.inj H
         obtain ⟨hcz59_0, hcz59_1, hcz59_2, hcz59_3, hfz59_0, hfz59_1, hfz59_2, hfz59_3⟩ := bf4 (w := wr) BK387
         try go_wp2
         replace BK387 := Aside0.mk (blk_drew BK387.out)
         replace HB := Aside0.mk (below_drew1 HB.out)
         have p394 : 0 ≤ (x5_3 : Int) := of_decide_eq_true (by first | (with_reducible assumption) | assumption)
         have q394 : x5_3 < (l0_2.length : Int) := of_decide_eq_true (by first | (with_reducible assumption) | assumption)
         obtain ⟨ad394, e394, hx394_0⟩ := Kd.at_string HR0_2.out x5_3 p394 q394
         have hw394_0 := hx394_0
         cases e394
         replace hx394_0 := (HB.out.cell (World.block_lt_of_cell? w _ hx394_0)).trans hx394_0
         replace p394 := eq_true p394
         replace q394 := eq_true q394
         have p396 : 0 ≤ (x5_3 : Int) := of_decide_eq_true (by first | (with_reducible assumption) | assumption)
         have q396 : x5_3 < (l0_2.length : Int) := of_decide_eq_true (by first | (with_reducible assumption) | assumption)
         obtain ⟨ad396, e396, hx396_0⟩ := Kd.at_string HR0_2.out x5_3 p396 q396
         have hw396_0 := hx396_0
         obtain rfl : ad394 = ad396 := (by injection e396)
         replace hx396_0 := (HB.out.cell (World.block_lt_of_cell? w _ hx396_0)).trans hx396_0
         replace p396 := eq_true p396
         replace q396 := eq_true q396
         have p397 : 0 ≤ ((ji53) : Int) := of_decide_eq_true (by first | (with_reducible assumption) | assumption)
         have q397 : (ji53) < (l0_2.length : Int) := of_decide_eq_true (by first | (with_reducible assumption) | assumption)
         obtain ⟨ad397, e397, hx397_0⟩ := Kd.at_string HR0_2.out (ji53) p397 q397
         have hw397_0 := hx397_0
         obtain rfl : ad394 = ad397 := (by injection e397)
         replace hx397_0 := (HB.out.cell (World.block_lt_of_cell? w _ hx397_0)).trans hx397_0
         replace p397 := eq_true p397
         replace q397 := eq_true q397
         refine start_ (n := 25) (S := fun w' => w'.cell? ⟨gb387, 0, none⟩ = some (.bool false) ∧ w'.cell? ⟨gb387, 1, none⟩ = some (.slice A0_1 l0_1.length c0_1) ∧ w'.cell? ⟨gb387, 2, none⟩ = some (.slice (some ad394) l0_2.length c0_2) ∧ w'.cell? ⟨gb387, 3, none⟩ = some (.slice A0_3 l0_3.length c0_3) ∧ w'.cell? (ad394.add (x5_3).toNat) = some (.string (rdOf ByteArray.empty l0_2 x5_3)) ∧ w'.cell? (ad394.add (x5_3).toNat) = some (.string (rdOf ByteArray.empty l0_2 x5_3)) ∧ w'.cell? (ad394.add ((ji53)).toNat) = some (.string (rdOf ByteArray.empty l0_2 (ji53)))) (ds := []) #[false,false,false,false,false,false,false,false,false,false,false,false,false,false,false,false,false,false,false,false,false,false,false,false,false] (by kernel_rfl) rfl rfl (bn4 BK387 ⟨((HB.out.cell (World.block_lt_of_cell? w _ hw394_0)).trans hw394_0), ((HB.out.cell (World.block_lt_of_cell? w _ hw396_0)).trans hw396_0), ((HB.out.cell (World.block_lt_of_cell? w _ hw397_0)).trans hw397_0)⟩) (fun hHeld => ?_); refine with_tabW engrossref10_MayNode.tab18 engrossref10_MayNode.bits18 (fun HT_ HW_ => ?_)
         generalize wr.drew = w60 at BK387 HB hx394_0 hx396_0 hx397_0 hHeld ⊢
         refine pA 0 106 HT_ ?_
         refine pA 2 108 HT_ ?_
         refine tA 1 107 HT_ HW_ hHeld ?_ (hy := by rintro w' ⟨s0, s1, s2, s3, s4, s5, s6⟩; go_simp; with_reducible rfl)
         refine pA 3 109 HT_ ?_
         refine tA 4 110 HT_ HW_ hHeld ?_ (hy := by rintro w' ⟨s0, s1, s2, s3, s4, s5, s6⟩; go_simp; with_reducible rfl)
         refine oA 5 (some 111) HT_ (fun K hK => ?_)
         refine goes_ Try.func32 (by kernel_rfl) rfl #[.string (rdOf ByteArray.empty l0_2 x5_3)] (by rfl) rfl rfl (by (try simp only [List.map_toArray, List.map_cons, List.map_nil]); first | done | rfl | (simp only [List.length_drop, List.length_take]; rfl)) ?_
         with_reducible refine (engrossref1_MayKey.calls (rdOf ByteArray.empty l0_2 x5_3) true _ A50.out).mono ?_
         rintro e w' ⟨rfl, ⟨nd, rfl⟩⟩
         refine ⟨_, rfl, ?_⟩
         refine hK.out _ _ (bn4 BK387 ⟨((HB.out.cell (World.block_lt_of_cell? w _ hw394_0)).trans hw394_0), ((HB.out.cell (World.block_lt_of_cell? w _ hw396_0)).trans hw396_0), ((HB.out.cell (World.block_lt_of_cell? w _ hw397_0)).trans hw397_0)⟩) (fun hHeld => ?_)
         clear hK K
         refine norm_ (a' := ?_) ?_ ?_
         rotate_left
         ·show Act.put _ (some 111) _ = _
          simp only [Act.put, List.setIfInBounds_toArray, List.set_cons_zero, List.set_cons_succ, i64_w, i32_w]
          rfl
         refine pA 6 112 HT_ ?_
         refine pA 7 113 HT_ ?_
         refine pA 8 114 HT_ ?_
         refine pA 9 115 HT_ ?_
         refine pA 10 116 HT_ ?_
         refine pA 11 117 HT_ ?_
         refine pA 13 119 HT_ ?_
         refine pA 16 122 HT_ ?_
         refine pA 18 124 HT_ ?_
         refine pA 19 125 HT_ ?_
         refine tA 12 118 HT_ HW_ hHeld ?_ (hy := by rintro w' ⟨s0, s1, s2, s3, s4, s5, s6⟩; go_simp; with_reducible rfl)
         refine pA 14 120 HT_ ?_
         refine tA 15 121 HT_ HW_ hHeld ?_ (hy := by rintro w' ⟨s0, s1, s2, s3, s4, s5, s6⟩; go_simp; with_reducible rfl)
         refine tA 17 123 HT_ HW_ hHeld ?_ (hy := by rintro w' ⟨s0, s1, s2, s3, s4, s5, s6⟩; go_simp; with_reducible rfl)
         refine pA 20 126 HT_ ?_
         refine tA 21 127 HT_ HW_ hHeld ?_ (hy := by rintro w' ⟨s0, s1, s2, s3, s4, s5, s6⟩; go_simp; with_reducible rfl)
         refine pA 22 128 HT_ ?_
         refine pA 23 129 HT_ ?_
         refine pA 24 130 HT_ ?_
         refine done_ (done_of HT_.out (by kernel_rfl)) ?_
         try go_wp2
         go_ret
         exact ⟨by first | rfl | (simp [errW_none, errW_some] <;> rfl) | (simp only [← hji53]; first | rfl | (simp [errW_none, errW_some] <;> rfl)) | (simp [*, errW_none, errW_some] <;> rfl), by repeat (first | (with_reducible first | exact HB.out | apply below_alloc | apply pw_below_drewN | apply below_drew1 | refine below_set ?_ GE387.out) | exact HB.out)⟩
        rw [if_pos c56] at H
        have c56b0 : (Op.bytesLess ((rdOf ByteArray.empty l0_2 (ji53)).toList) ((rdOf ByteArray.empty l0_2 x5_3).toList)) = true := c56
        clear c56
        have H' := Aside0.mk H
        clear H
        obtain ⟨hcz57_0, hcz57_1, hcz57_2, hcz57_3, hfz57_0, hfz57_1, hfz57_2, hfz57_3⟩ := bf4 (w := wr) BK387
        try go_wp2
        replace BK387 := Aside0.mk (blk_drew BK387.out)
        replace HB := Aside0.mk (below_drew1 HB.out)
        have p394 : 0 ≤ (x5_3 : Int) := of_decide_eq_true (by first | (with_reducible assumption) | assumption)
        have q394 : x5_3 < (l0_2.length : Int) := of_decide_eq_true (by first | (with_reducible assumption) | assumption)
        obtain ⟨ad394, e394, hx394_0⟩ := Kd.at_string HR0_2.out x5_3 p394 q394
        have hw394_0 := hx394_0
        cases e394
        replace hx394_0 := (HB.out.cell (World.block_lt_of_cell? w _ hx394_0)).trans hx394_0
        replace p394 := eq_true p394
        replace q394 := eq_true q394
        have p396 : 0 ≤ (x5_3 : Int) := of_decide_eq_true (by first | (with_reducible assumption) | assumption)
        have q396 : x5_3 < (l0_2.length : Int) := of_decide_eq_true (by first | (with_reducible assumption) | assumption)
        obtain ⟨ad396, e396, hx396_0⟩ := Kd.at_string HR0_2.out x5_3 p396 q396
        have hw396_0 := hx396_0
        obtain rfl : ad394 = ad396 := (by injection e396)
        replace hx396_0 := (HB.out.cell (World.block_lt_of_cell? w _ hx396_0)).trans hx396_0
        replace p396 := eq_true p396
        replace q396 := eq_true q396
        have p397 : 0 ≤ ((ji53) : Int) := of_decide_eq_true (by first | (with_reducible assumption) | assumption)
        have q397 : (ji53) < (l0_2.length : Int) := of_decide_eq_true (by first | (with_reducible assumption) | assumption)
        obtain ⟨ad397, e397, hx397_0⟩ := Kd.at_string HR0_2.out (ji53) p397 q397
        have hw397_0 := hx397_0
        obtain rfl : ad394 = ad397 := (by injection e397)
        replace hx397_0 := (HB.out.cell (World.block_lt_of_cell? w _ hx397_0)).trans hx397_0
        replace p397 := eq_true p397
        replace q397 := eq_true q397
        refine start_ (n := 25) (S := fun w' => w'.cell? ⟨gb387, 0, none⟩ = some (.bool false) ∧ w'.cell? ⟨gb387, 1, none⟩ = some (.slice A0_1 l0_1.length c0_1) ∧ w'.cell? ⟨gb387, 2, none⟩ = some (.slice (some ad394) l0_2.length c0_2) ∧ w'.cell? ⟨gb387, 3, none⟩ = some (.slice A0_3 l0_3.length c0_3) ∧ w'.cell? (ad394.add (x5_3).toNat) = some (.string (rdOf ByteArray.empty l0_2 x5_3)) ∧ w'.cell? (ad394.add (x5_3).toNat) = some (.string (rdOf ByteArray.empty l0_2 x5_3)) ∧ w'.cell? (ad394.add ((ji53)).toNat) = some (.string (rdOf ByteArray.empty l0_2 (ji53)))) (ds := []) #[false,false,false,false,false,false,false,false,false,false,false,false,false,false,false,false,false,false,false,false,false,false,false,false,false] (by kernel_rfl) rfl rfl (bn4 BK387 ⟨((HB.out.cell (World.block_lt_of_cell? w _ hw394_0)).trans hw394_0), ((HB.out.cell (World.block_lt_of_cell? w _ hw396_0)).trans hw396_0), ((HB.out.cell (World.block_lt_of_cell? w _ hw397_0)).trans hw397_0)⟩) (fun hHeld => ?_); refine with_tabW engrossref10_MayNode.tab18 engrossref10_MayNode.bits18 (fun HT_ HW_ => ?_)
        generalize wr.drew = w58 at BK387 HB hx394_0 hx396_0 hx397_0 hHeld ⊢
        refine pA 0 106 HT_ ?_
        refine pA 2 108 HT_ ?_
        refine tA 1 107 HT_ HW_ hHeld ?_ (hy := by rintro w' ⟨s0, s1, s2, s3, s4, s5, s6⟩; go_simp; with_reducible rfl)
        refine pA 3 109 HT_ ?_
        refine tA 4 110 HT_ HW_ hHeld ?_ (hy := by rintro w' ⟨s0, s1, s2, s3, s4, s5, s6⟩; go_simp; with_reducible rfl)
        refine oA 5 (some 111) HT_ (fun K hK => ?_)
        refine goes_ Try.func32 (by kernel_rfl) rfl #[.string (rdOf ByteArray.empty l0_2 x5_3)] (by rfl) rfl rfl (by (try simp only [List.map_toArray, List.map_cons, List.map_nil]); first | done | rfl | (simp only [List.length_drop, List.length_take]; rfl)) ?_
        with_reducible refine (engrossref1_MayKey.calls (rdOf ByteArray.empty l0_2 x5_3) true _ A50.out).mono ?_
        rintro e w' ⟨rfl, ⟨nd, rfl⟩⟩
        refine ⟨_, rfl, ?_⟩
        refine hK.out _ _ (bn4 BK387 ⟨((HB.out.cell (World.block_lt_of_cell? w _ hw394_0)).trans hw394_0), ((HB.out.cell (World.block_lt_of_cell? w _ hw396_0)).trans hw396_0), ((HB.out.cell (World.block_lt_of_cell? w _ hw397_0)).trans hw397_0)⟩) (fun hHeld => ?_)
        clear hK K
        refine norm_ (a' := ?_) ?_ ?_
        rotate_left
        ·show Act.put _ (some 111) _ = _
         simp only [Act.put, List.setIfInBounds_toArray, List.set_cons_zero, List.set_cons_succ, i64_w, i32_w]
         rfl
        refine pA 6 112 HT_ ?_
        refine pA 7 113 HT_ ?_
        refine pA 8 114 HT_ ?_
        refine pA 9 115 HT_ ?_
        refine pA 10 116 HT_ ?_
        refine pA 11 117 HT_ ?_
        refine pA 13 119 HT_ ?_
        refine pA 16 122 HT_ ?_
        refine pA 18 124 HT_ ?_
        refine pA 19 125 HT_ ?_
        refine tA 12 118 HT_ HW_ hHeld ?_ (hy := by rintro w' ⟨s0, s1, s2, s3, s4, s5, s6⟩; go_simp; with_reducible rfl)
        refine pA 14 120 HT_ ?_
        refine tA 15 121 HT_ HW_ hHeld ?_ (hy := by rintro w' ⟨s0, s1, s2, s3, s4, s5, s6⟩; go_simp; with_reducible rfl)
        refine tA 17 123 HT_ HW_ hHeld ?_ (hy := by rintro w' ⟨s0, s1, s2, s3, s4, s5, s6⟩; go_simp; with_reducible rfl)
        refine pA 20 126 HT_ ?_
        refine tA 21 127 HT_ HW_ hHeld ?_ (hy := by rintro w' ⟨s0, s1, s2, s3, s4, s5, s6⟩; go_simp; with_reducible rfl)
        refine pA 22 128 HT_ ?_
        refine pA 23 129 HT_ ?_
        refine pA 24 130 HT_ ?_
        refine done_ (done_of HT_.out (by kernel_rfl)) ?_
        try go_wp2
        go_roundg k3
        case measure => have := HJ28.out; have := HK2.out; have := HK3.out; omega
        case rel => exact ⟨(wrap64 (x5_3 + 1)), (by first | rfl | (simp; done) | (simp [*]; done)), H', ⟨by have := HJ28.out; have := HK2.out; have := HK3.out; omega⟩, ⟨by (with_reducible repeat (first | refine blk_drewN ?_ _ | refine blk_drew ?_ | refine blk_alloc ?_ _)); exact BK387.out⟩, ⟨by repeat (first | (with_reducible first | exact HB.out | apply below_alloc | apply pw_below_drewN | apply below_drew1 | refine below_set ?_ GE387.out) | exact HB.out)⟩⟩
 subst c2
 have H1 : (engrossref10_MayNode.l0 k 0 true l0_1 l0_2 l0_3) = some r := by rw [if_pos rfl] at H; exact H
 clear H
 have H := H1
 clear H1
 have H' := Aside0.mk H
 clear H
 go_enter Try.func15, Try.ntmps15
 go_wp2_with (first | ((with_reducible refine gate_dst (N := 1) rfl ?_); (try (refine gate_guard (by rfl) ?_; dsimp only)); refine box_event ?hg (N := 1) ?hd (cs := #[.bool true, .slice A0_1 l0_1.length c0_1, .slice A0_2 l0_2.length c0_2, .slice A0_3 l0_3.length c0_3]) (t := 26) ?hr ?_; (case hd => rfl); (case hg => rfl); (case hr => first | (go_simp; done) | (go_simp; rfl)); intro gb387 hg w3 hbox hb; have BK387 := Aside0.mk (hbox); have GW387 := bZ HB hg; have GE387 := bZ HB hg; replace HB := bW HB hb; clear hb hbox hg; obtain ⟨hcz4_0, hcz4_1, hcz4_2, hcz4_3, hfz4_0, hfz4_1, hfz4_2, hfz4_3⟩ := bf4 (w := w3) BK387))
 go_loopg [3] k (fun kq v3 w' => ∃ (x3_1 : Int), v3 = .int .i64 x3_1 ∧ Aside0 (engrossref10_MayNode.l0 kq x3_1 true l0_1 l0_2 l0_3 = some r) ∧ Aside0 (kq ≤ k) ∧ Aside0 (w'.heap[gb387]? = some (.cells #[.bool true, (.slice A0_1 l0_1.length c0_1), (.slice A0_2 l0_2.length c0_2), (.slice A0_3 l0_3.length c0_3)] 26 (0, 0))) ∧ Aside0 (Below w.heap.size w w'))
 case atStart => exact ⟨(0), (by first | rfl | (simp; done) | (simp [*]; done)), H', ⟨Nat.le_refl _⟩, ⟨by (with_reducible repeat (first | refine blk_drewN ?_ _ | refine blk_drew ?_ | refine blk_alloc ?_ _)); exact BK387.out⟩, ⟨by repeat (first | (with_reducible first | exact HB.out | apply below_alloc | apply pw_below_drewN | apply below_drew1 | refine below_set ?_ GE387.out) | exact HB.out)⟩⟩
 case round =>
  clear H'
  try clear c1
  try clear c2
  try clear p2
  try clear hcz4_0
  try clear hcz4_1
  try clear hcz4_2
  try clear hcz4_3
  try clear hfz4_0
  try clear hfz4_1
  try clear hfz4_2
  try clear hfz4_3
  obtain ⟨x3_1, rfl, HA, HK1, BK387, HB⟩ := hrel
  cases gk with
  | zero => exact absurd HA.out (by simp [engrossref10_MayNode.l0])
  | succ k1 =>
   have H := HA.out
   clear HA
   simp only [engrossref10_MayNode.l0] at H
   by_cases c5 : x3_1 < (l0_1.length : Int)
   rotate_left
   ·rw [if_neg c5] at H
    have c5b0 : decide (x3_1 < (l0_1.length : Int)) = false := decide_eq_false c5
    clear c5
    by_cases c26 : (l0_2.length : Int) = 0
    ·rw [if_pos c26] at H
     have c26b0 : ((l0_2.length : Int) == 0) = true := beq_iff_eq.mpr c26
     have c26b1 : ((l0_2.length : Int) != 0) = false := bne_eq_false_iff_eq.mpr c26
     clear c26
     obtain rfl := Option.some.inj H
     obtain ⟨hcz27_0, hcz27_1, hcz27_2, hcz27_3, hfz27_0, hfz27_1, hfz27_2, hfz27_3⟩ := bf4 (w := wr) BK387
     go_wp2
     go_ret
     exact xB HB
    rw [if_neg c26] at H
    have c26b0 : ((l0_2.length : Int) == 0) = false := beq_eq_false_iff_ne.mpr c26
    have c26b1 : ((l0_2.length : Int) != 0) = true := bne_iff_ne.mpr c26
    have c26b2 : ¬ (l0_2 = []) := fun h_ => c26 (by rw [h_]; rfl)
    obtain rfl := Option.some.inj H
    obtain ⟨hcz28_0, hcz28_1, hcz28_2, hcz28_3, hfz28_0, hfz28_1, hfz28_2, hfz28_3⟩ := bf4 (w := wr) BK387
    go_wp2
    go_ret
    exact xB HB
   rw [if_pos c5] at H
   have c5b0 : decide (x3_1 < (l0_1.length : Int)) = true := decide_eq_true c5
   clear c5
   by_cases c6 : 0 ≤ x3_1
   rotate_left
   ·rw [if_neg c6] at H
    exact absurd H (by simp)
   rw [if_pos c6] at H
   have c6b0 : decide (0 ≤ x3_1) = true := decide_eq_true c6
   clear c6
   replace H := Option.bind_eq_some_iff.mp H
   obtain ⟨t389, A70, H⟩ := H
   replace H : (if t389 = true then (if x3_1 > 0 then (if 0 ≤ (wrap64 (x3_1 - 1)) then (if (wrap64 (x3_1 - 1)) < (l0_1.length : Int) then (if ((Op.bytesLess (((rd_T56 l0_1 (wrap64 (x3_1 - 1))).f0).toList) (((rd_T56 l0_1 x3_1).f0).toList)) = true) then (engrossref10_MayNode.l0 k1 (wrap64 (x3_1 + 1)) true l0_1 l0_2 l0_3) else (some false)) else (none)) else (none)) else (engrossref10_MayNode.l0 k1 (wrap64 (x3_1 + 1)) true l0_1 l0_2 l0_3)) else (some false)) = some r := H
   have A7 := Aside0.mk A70
   clear A70
   by_cases c8 : t389 = true
   rotate_left
   ·replace c8 := Bool.eq_false_iff.mpr c8
    subst c8
    have H1 : (some false) = some r := by rw [if_neg (show ¬ (false = true) by decide)] at H; exact H
    clear H
    have H := H1
    clear H1
    obtain rfl := Option.some.inj H
    obtain ⟨hcz23_0, hcz23_1, hcz23_2, hcz23_3, hfz23_0, hfz23_1, hfz23_2, hfz23_3⟩ := bf4 (w := wr) BK387
    try go_wp2
    replace BK387 := Aside0.mk (blk_drew BK387.out)
    replace HB := Aside0.mk (below_drew1 HB.out)
    have p388 : 0 ≤ (x3_1 : Int) := of_decide_eq_true (by first | (with_reducible assumption) | assumption)
    have q388 : x3_1 < (l0_1.length : Int) := of_decide_eq_true (by first | (with_reducible assumption) | assumption)
    obtain ⟨ad388, e388, hx388_0, hx388_1, hx388_2, hx388_3, hx388_4, hx388_5, hx388_6, hx388_7⟩ := at_T56 HR0_1.out x3_1 p388 q388
    have hw388_7 := hx388_7
    have hw388_6 := hx388_6
    have hw388_5 := hx388_5
    have hw388_4 := hx388_4
    have hw388_3 := hx388_3
    have hw388_2 := hx388_2
    have hw388_1 := hx388_1
    have hw388_0 := hx388_0
    cases e388
    replace hx388_0 := (HB.out.cell (World.block_lt_of_cell? w _ hx388_0)).trans hx388_0
    replace hx388_1 := (HB.out.cell (World.block_lt_of_cell? w _ hx388_1)).trans hx388_1
    replace hx388_2 := (HB.out.cell (World.block_lt_of_cell? w _ hx388_2)).trans hx388_2
    replace hx388_3 := (HB.out.cell (World.block_lt_of_cell? w _ hx388_3)).trans hx388_3
    replace hx388_4 := (HB.out.cell (World.block_lt_of_cell? w _ hx388_4)).trans hx388_4
    replace hx388_5 := (HB.out.cell (World.block_lt_of_cell? w _ hx388_5)).trans hx388_5
    replace hx388_6 := (HB.out.cell (World.block_lt_of_cell? w _ hx388_6)).trans hx388_6
    replace hx388_7 := (HB.out.cell (World.block_lt_of_cell? w _ hx388_7)).trans hx388_7
    replace p388 := eq_true p388
    replace q388 := eq_true q388
    refine start_ (n := 27) (S := fun w' => w'.cell? ⟨gb387, 0, none⟩ = some (.bool true) ∧ w'.cell? ⟨gb387, 1, none⟩ = some (.slice (some ad388) l0_1.length c0_1) ∧ w'.cell? ⟨gb387, 2, none⟩ = some (.slice A0_2 l0_2.length c0_2) ∧ w'.cell? ⟨gb387, 3, none⟩ = some (.slice A0_3 l0_3.length c0_3) ∧ w'.cell? (ad388.add ((x3_1).toNat * 8)) = some (.string ((rd_T56 l0_1 x3_1).f0)) ∧ w'.cell? ⟨(ad388.add ((x3_1).toNat * 8)).block, (ad388.add ((x3_1).toNat * 8)).off + 1, none⟩ = some (.int .i64 ((rd_T56 l0_1 x3_1).f1.f0)) ∧ w'.cell? ⟨(ad388.add ((x3_1).toNat * 8)).block, (ad388.add ((x3_1).toNat * 8)).off + 2, none⟩ = some (.float .f64 ((rd_T56 l0_1 x3_1).f1.f1)) ∧ w'.cell? ⟨(ad388.add ((x3_1).toNat * 8)).block, (ad388.add ((x3_1).toNat * 8)).off + 3, none⟩ = some (.string ((rd_T56 l0_1 x3_1).f1.f2)) ∧ w'.cell? ⟨(ad388.add ((x3_1).toNat * 8)).block, (ad388.add ((x3_1).toNat * 8)).off + 4, none⟩ = some (.int .i64 ((rd_T56 l0_1 x3_1).f2)) ∧ w'.cell? ⟨(ad388.add ((x3_1).toNat * 8)).block, (ad388.add ((x3_1).toNat * 8)).off + 5, none⟩ = some (.int .i64 ((rd_T56 l0_1 x3_1).f3.f0)) ∧ w'.cell? ⟨(ad388.add ((x3_1).toNat * 8)).block, (ad388.add ((x3_1).toNat * 8)).off + 6, none⟩ = some (.float .f64 ((rd_T56 l0_1 x3_1).f3.f1)) ∧ w'.cell? ⟨(ad388.add ((x3_1).toNat * 8)).block, (ad388.add ((x3_1).toNat * 8)).off + 7, none⟩ = some (.string ((rd_T56 l0_1 x3_1).f3.f2))) (ds := []) #[false,false,false,false,false,false,false,false,false,false,false,false,false,false,false,false,false,false,false,false,false,false,false,false,false,false,false] (by kernel_rfl) rfl rfl (bn4 BK387 ⟨((HB.out.cell (World.block_lt_of_cell? w _ hw388_0)).trans hw388_0), ((HB.out.cell (World.block_lt_of_cell? w _ hw388_1)).trans hw388_1), ((HB.out.cell (World.block_lt_of_cell? w _ hw388_2)).trans hw388_2), ((HB.out.cell (World.block_lt_of_cell? w _ hw388_3)).trans hw388_3), ((HB.out.cell (World.block_lt_of_cell? w _ hw388_4)).trans hw388_4), ((HB.out.cell (World.block_lt_of_cell? w _ hw388_5)).trans hw388_5), ((HB.out.cell (World.block_lt_of_cell? w _ hw388_6)).trans hw388_6), ((HB.out.cell (World.block_lt_of_cell? w _ hw388_7)).trans hw388_7)⟩) (fun hHeld => ?_); refine with_tabW engrossref10_MayNode.tab5 engrossref10_MayNode.bits5 (fun HT_ HW_ => ?_)
    generalize wr.drew = w24 at BK387 HB hx388_0 hx388_1 hx388_2 hx388_3 hx388_4 hx388_5 hx388_6 hx388_7 hHeld ⊢
    refine pA 0 15 HT_ ?_
    refine pA 2 17 HT_ ?_
    refine tA 1 16 HT_ HW_ hHeld ?_ (hy := by rintro w' ⟨s0, s1, s2, s3, s4, s5, s6, s7, s8, s9, s10, s11⟩; go_simp; with_reducible rfl)
    refine pA 3 18 HT_ ?_
    refine tA 4 19 HT_ HW_ hHeld ?_ (hy := by rintro w' ⟨s0, s1, s2, s3, s4, s5, s6, s7, s8, s9, s10, s11⟩; go_simp; with_reducible rfl)
    refine oA 5 (some 20) HT_ (fun K hK => ?_)
    refine goes_ Try.func31 (by kernel_rfl) rfl #[.agg #[.string ((rd_T56 l0_1 x3_1).f0), .int .i64 ((rd_T56 l0_1 x3_1).f1.f0), .float .f64 ((rd_T56 l0_1 x3_1).f1.f1), .string ((rd_T56 l0_1 x3_1).f1.f2), .int .i64 ((rd_T56 l0_1 x3_1).f2), .int .i64 ((rd_T56 l0_1 x3_1).f3.f0), .float .f64 ((rd_T56 l0_1 x3_1).f3.f1), .string ((rd_T56 l0_1 x3_1).f3.f2)]] (by rfl) rfl rfl (by (try simp only [List.map_toArray, List.map_cons, List.map_nil]); first | done | rfl | (simp only [List.length_drop, List.length_take]; rfl)) ?_
    with_reducible refine (engrossref10_May.calls ((rd_T56 l0_1 x3_1).f0) ((rd_T56 l0_1 x3_1).f1.f0) ((rd_T56 l0_1 x3_1).f1.f1) ((rd_T56 l0_1 x3_1).f1.f2) ((rd_T56 l0_1 x3_1).f2) ((rd_T56 l0_1 x3_1).f3.f0) ((rd_T56 l0_1 x3_1).f3.f1) ((rd_T56 l0_1 x3_1).f3.f2) false _ A7.out).mono ?_
    rintro e w25 ⟨rfl, hb⟩
    refine ⟨_, rfl, ?_⟩
    replace BK387 := bB BK387 hb
    replace HB := bW HB hb
    (try clear hb)
    (try clear hb2)
    (try clear hk)
    (try clear hi)
    refine hK.out _ _ (bn4 BK387 ⟨((HB.out.cell (World.block_lt_of_cell? w _ hw388_0)).trans hw388_0), ((HB.out.cell (World.block_lt_of_cell? w _ hw388_1)).trans hw388_1), ((HB.out.cell (World.block_lt_of_cell? w _ hw388_2)).trans hw388_2), ((HB.out.cell (World.block_lt_of_cell? w _ hw388_3)).trans hw388_3), ((HB.out.cell (World.block_lt_of_cell? w _ hw388_4)).trans hw388_4), ((HB.out.cell (World.block_lt_of_cell? w _ hw388_5)).trans hw388_5), ((HB.out.cell (World.block_lt_of_cell? w _ hw388_6)).trans hw388_6), ((HB.out.cell (World.block_lt_of_cell? w _ hw388_7)).trans hw388_7)⟩) (fun hHeld => ?_)
    clear hK K
    refine norm_ (a' := ?_) ?_ ?_
    rotate_left
    ·show Act.put _ (some 20) _ = _
     simp only [Act.put, List.setIfInBounds_toArray, List.set_cons_zero, List.set_cons_succ, i64_w, i32_w]
     rfl
    refine pA 6 21 HT_ ?_
    refine pA 7 22 HT_ ?_
    refine pU 8 23 HT_ ?_
    refine pU 9 24 HT_ ?_
    refine pU 10 25 HT_ ?_
    refine pU 11 26 HT_ ?_
    refine pU 12 27 HT_ ?_
    refine pU 13 28 HT_ ?_
    refine pU 14 29 HT_ ?_
    refine pU 15 30 HT_ ?_
    refine pU 16 31 HT_ ?_
    refine pU 17 32 HT_ ?_
    refine pU 18 33 HT_ ?_
    refine pU 19 34 HT_ ?_
    refine pU 20 35 HT_ ?_
    refine pU 21 36 HT_ ?_
    refine pU 22 37 HT_ ?_
    refine pU 23 38 HT_ ?_
    refine pU 24 39 HT_ ?_
    refine pU 25 40 HT_ ?_
    refine pA 26 41 HT_ ?_
    refine done_ (done_of HT_.out (by kernel_rfl)) ?_
    try go_wp2
    go_ret
    exact xB HB
   subst c8
   have H1 : (if x3_1 > 0 then (if 0 ≤ (wrap64 (x3_1 - 1)) then (if (wrap64 (x3_1 - 1)) < (l0_1.length : Int) then (if ((Op.bytesLess (((rd_T56 l0_1 (wrap64 (x3_1 - 1))).f0).toList) (((rd_T56 l0_1 x3_1).f0).toList)) = true) then (engrossref10_MayNode.l0 k1 (wrap64 (x3_1 + 1)) true l0_1 l0_2 l0_3) else (some false)) else (none)) else (none)) else (engrossref10_MayNode.l0 k1 (wrap64 (x3_1 + 1)) true l0_1 l0_2 l0_3)) = some r := by rw [if_pos rfl] at H; exact H
   clear H
   have H := H1
   clear H1
   by_cases c9 : x3_1 > 0
   rotate_left
   ·rw [if_neg c9] at H
    have c9b0 : decide (0 < x3_1) = false := decide_eq_false c9
    clear c9
    have H' := Aside0.mk H
    clear H
    obtain ⟨hcz20_0, hcz20_1, hcz20_2, hcz20_3, hfz20_0, hfz20_1, hfz20_2, hfz20_3⟩ := bf4 (w := wr) BK387
    try go_wp2
    replace BK387 := Aside0.mk (blk_drew BK387.out)
    replace HB := Aside0.mk (below_drew1 HB.out)
    have p388 : 0 ≤ (x3_1 : Int) := of_decide_eq_true (by first | (with_reducible assumption) | assumption)
    have q388 : x3_1 < (l0_1.length : Int) := of_decide_eq_true (by first | (with_reducible assumption) | assumption)
    obtain ⟨ad388, e388, hx388_0, hx388_1, hx388_2, hx388_3, hx388_4, hx388_5, hx388_6, hx388_7⟩ := at_T56 HR0_1.out x3_1 p388 q388
    have hw388_7 := hx388_7
    have hw388_6 := hx388_6
    have hw388_5 := hx388_5
    have hw388_4 := hx388_4
    have hw388_3 := hx388_3
    have hw388_2 := hx388_2
    have hw388_1 := hx388_1
    have hw388_0 := hx388_0
    cases e388
    replace hx388_0 := (HB.out.cell (World.block_lt_of_cell? w _ hx388_0)).trans hx388_0
    replace hx388_1 := (HB.out.cell (World.block_lt_of_cell? w _ hx388_1)).trans hx388_1
    replace hx388_2 := (HB.out.cell (World.block_lt_of_cell? w _ hx388_2)).trans hx388_2
    replace hx388_3 := (HB.out.cell (World.block_lt_of_cell? w _ hx388_3)).trans hx388_3
    replace hx388_4 := (HB.out.cell (World.block_lt_of_cell? w _ hx388_4)).trans hx388_4
    replace hx388_5 := (HB.out.cell (World.block_lt_of_cell? w _ hx388_5)).trans hx388_5
    replace hx388_6 := (HB.out.cell (World.block_lt_of_cell? w _ hx388_6)).trans hx388_6
    replace hx388_7 := (HB.out.cell (World.block_lt_of_cell? w _ hx388_7)).trans hx388_7
    replace p388 := eq_true p388
    replace q388 := eq_true q388
    refine start_ (n := 27) (S := fun w' => w'.cell? ⟨gb387, 0, none⟩ = some (.bool true) ∧ w'.cell? ⟨gb387, 1, none⟩ = some (.slice (some ad388) l0_1.length c0_1) ∧ w'.cell? ⟨gb387, 2, none⟩ = some (.slice A0_2 l0_2.length c0_2) ∧ w'.cell? ⟨gb387, 3, none⟩ = some (.slice A0_3 l0_3.length c0_3) ∧ w'.cell? (ad388.add ((x3_1).toNat * 8)) = some (.string ((rd_T56 l0_1 x3_1).f0)) ∧ w'.cell? ⟨(ad388.add ((x3_1).toNat * 8)).block, (ad388.add ((x3_1).toNat * 8)).off + 1, none⟩ = some (.int .i64 ((rd_T56 l0_1 x3_1).f1.f0)) ∧ w'.cell? ⟨(ad388.add ((x3_1).toNat * 8)).block, (ad388.add ((x3_1).toNat * 8)).off + 2, none⟩ = some (.float .f64 ((rd_T56 l0_1 x3_1).f1.f1)) ∧ w'.cell? ⟨(ad388.add ((x3_1).toNat * 8)).block, (ad388.add ((x3_1).toNat * 8)).off + 3, none⟩ = some (.string ((rd_T56 l0_1 x3_1).f1.f2)) ∧ w'.cell? ⟨(ad388.add ((x3_1).toNat * 8)).block, (ad388.add ((x3_1).toNat * 8)).off + 4, none⟩ = some (.int .i64 ((rd_T56 l0_1 x3_1).f2)) ∧ w'.cell? ⟨(ad388.add ((x3_1).toNat * 8)).block, (ad388.add ((x3_1).toNat * 8)).off + 5, none⟩ = some (.int .i64 ((rd_T56 l0_1 x3_1).f3.f0)) ∧ w'.cell? ⟨(ad388.add ((x3_1).toNat * 8)).block, (ad388.add ((x3_1).toNat * 8)).off + 6, none⟩ = some (.float .f64 ((rd_T56 l0_1 x3_1).f3.f1)) ∧ w'.cell? ⟨(ad388.add ((x3_1).toNat * 8)).block, (ad388.add ((x3_1).toNat * 8)).off + 7, none⟩ = some (.string ((rd_T56 l0_1 x3_1).f3.f2))) (ds := []) #[false,false,false,false,false,false,false,false,false,false,false,false,false,false,false,false,false,false,false,false,false,false,false,false,false,false,false] (by kernel_rfl) rfl rfl (bn4 BK387 ⟨((HB.out.cell (World.block_lt_of_cell? w _ hw388_0)).trans hw388_0), ((HB.out.cell (World.block_lt_of_cell? w _ hw388_1)).trans hw388_1), ((HB.out.cell (World.block_lt_of_cell? w _ hw388_2)).trans hw388_2), ((HB.out.cell (World.block_lt_of_cell? w _ hw388_3)).trans hw388_3), ((HB.out.cell (World.block_lt_of_cell? w _ hw388_4)).trans hw388_4), ((HB.out.cell (World.block_lt_of_cell? w _ hw388_5)).trans hw388_5), ((HB.out.cell (World.block_lt_of_cell? w _ hw388_6)).trans hw388_6), ((HB.out.cell (World.block_lt_of_cell? w _ hw388_7)).trans hw388_7)⟩) (fun hHeld => ?_); refine with_tabW engrossref10_MayNode.tab5 engrossref10_MayNode.bits5 (fun HT_ HW_ => ?_)
    generalize wr.drew = w21 at BK387 HB hx388_0 hx388_1 hx388_2 hx388_3 hx388_4 hx388_5 hx388_6 hx388_7 hHeld ⊢
    refine pA 0 15 HT_ ?_
    refine pA 2 17 HT_ ?_
    refine tA 1 16 HT_ HW_ hHeld ?_ (hy := by rintro w' ⟨s0, s1, s2, s3, s4, s5, s6, s7, s8, s9, s10, s11⟩; go_simp; with_reducible rfl)
    refine pA 3 18 HT_ ?_
    refine tA 4 19 HT_ HW_ hHeld ?_ (hy := by rintro w' ⟨s0, s1, s2, s3, s4, s5, s6, s7, s8, s9, s10, s11⟩; go_simp; with_reducible rfl)
    refine oA 5 (some 20) HT_ (fun K hK => ?_)
    refine goes_ Try.func31 (by kernel_rfl) rfl #[.agg #[.string ((rd_T56 l0_1 x3_1).f0), .int .i64 ((rd_T56 l0_1 x3_1).f1.f0), .float .f64 ((rd_T56 l0_1 x3_1).f1.f1), .string ((rd_T56 l0_1 x3_1).f1.f2), .int .i64 ((rd_T56 l0_1 x3_1).f2), .int .i64 ((rd_T56 l0_1 x3_1).f3.f0), .float .f64 ((rd_T56 l0_1 x3_1).f3.f1), .string ((rd_T56 l0_1 x3_1).f3.f2)]] (by rfl) rfl rfl (by (try simp only [List.map_toArray, List.map_cons, List.map_nil]); first | done | rfl | (simp only [List.length_drop, List.length_take]; rfl)) ?_
    with_reducible refine (engrossref10_May.calls ((rd_T56 l0_1 x3_1).f0) ((rd_T56 l0_1 x3_1).f1.f0) ((rd_T56 l0_1 x3_1).f1.f1) ((rd_T56 l0_1 x3_1).f1.f2) ((rd_T56 l0_1 x3_1).f2) ((rd_T56 l0_1 x3_1).f3.f0) ((rd_T56 l0_1 x3_1).f3.f1) ((rd_T56 l0_1 x3_1).f3.f2) true _ A7.out).mono ?_
    rintro e w22 ⟨rfl, hb⟩
    refine ⟨_, rfl, ?_⟩
    replace BK387 := bB BK387 hb
    replace HB := bW HB hb
    (try clear hb)
    (try clear hb2)
    (try clear hk)
    (try clear hi)
    refine hK.out _ _ (bn4 BK387 ⟨((HB.out.cell (World.block_lt_of_cell? w _ hw388_0)).trans hw388_0), ((HB.out.cell (World.block_lt_of_cell? w _ hw388_1)).trans hw388_1), ((HB.out.cell (World.block_lt_of_cell? w _ hw388_2)).trans hw388_2), ((HB.out.cell (World.block_lt_of_cell? w _ hw388_3)).trans hw388_3), ((HB.out.cell (World.block_lt_of_cell? w _ hw388_4)).trans hw388_4), ((HB.out.cell (World.block_lt_of_cell? w _ hw388_5)).trans hw388_5), ((HB.out.cell (World.block_lt_of_cell? w _ hw388_6)).trans hw388_6), ((HB.out.cell (World.block_lt_of_cell? w _ hw388_7)).trans hw388_7)⟩) (fun hHeld => ?_)
    clear hK K
    refine norm_ (a' := ?_) ?_ ?_
    rotate_left
    ·show Act.put _ (some 20) _ = _
     simp only [Act.put, List.setIfInBounds_toArray, List.set_cons_zero, List.set_cons_succ, i64_w, i32_w]
     rfl
    refine pA 6 21 HT_ ?_
    refine pA 7 22 HT_ ?_
    refine pA 8 23 HT_ ?_
    refine pA 9 24 HT_ ?_
    refine pA 10 25 HT_ ?_
    refine pU 11 26 HT_ ?_
    refine pU 12 27 HT_ ?_
    refine pU 13 28 HT_ ?_
    refine pU 14 29 HT_ ?_
    refine pU 15 30 HT_ ?_
    refine pU 16 31 HT_ ?_
    refine pU 17 32 HT_ ?_
    refine pU 18 33 HT_ ?_
    refine pU 19 34 HT_ ?_
    refine pU 20 35 HT_ ?_
    refine pU 21 36 HT_ ?_
    refine pU 22 37 HT_ ?_
    refine pU 23 38 HT_ ?_
    refine pU 24 39 HT_ ?_
    refine pA 25 40 HT_ ?_
    refine pA 26 41 HT_ ?_
    refine done_ (done_of HT_.out (by kernel_rfl)) ?_
    try go_wp2
    go_roundg k1
    case measure => have := HK1.out; omega
    case rel => exact ⟨(wrap64 (x3_1 + 1)), (by first | rfl | (simp; done) | (simp [*]; done)), H', ⟨by have := HK1.out; omega⟩, ⟨by (with_reducible repeat (first | refine blk_drewN ?_ _ | refine blk_drew ?_ | refine blk_alloc ?_ _)); exact BK387.out⟩, ⟨by repeat (first | (with_reducible first | exact HB.out | apply below_alloc | apply pw_below_drewN | apply below_drew1 | refine below_set ?_ GE387.out) | exact HB.out)⟩⟩
   rw [if_pos c9] at H
   have c9b0 : decide (0 < x3_1) = true := decide_eq_true c9
   clear c9
   obtain ⟨ji10, hji10⟩ : ∃ j_ : Int, (wrap64 (x3_1 - 1)) = j_ := ⟨_, rfl⟩
   replace H : (if 0 ≤ (ji10) then (if (ji10) < (l0_1.length : Int) then (if ((Op.bytesLess (((rd_T56 l0_1 (ji10)).f0).toList) (((rd_T56 l0_1 x3_1).f0).toList)) = true) then (engrossref10_MayNode.l0 k1 (wrap64 (x3_1 + 1)) true l0_1 l0_2 l0_3) else (some false)) else (none)) else (none)) = some r := by first | (rw [hji10] at H; exact H) | (simp only [hji10] at H ⊢; exact H)
   (try rw [hji10] at A7)
   have hji10w : (IntKind.i64.wrap (x3_1 - 1)) = ji10 := (i64_w _).trans hji10
   by_cases c11 : 0 ≤ (ji10)
   rotate_left
   ·rw [if_neg c11] at H
    exact absurd H (by simp)
   rw [if_pos c11] at H
   have c11b0 : decide (0 ≤ (ji10)) = true := decide_eq_true c11
   clear c11
   by_cases c12 : (ji10) < (l0_1.length : Int)
   rotate_left
   ·rw [if_neg c12] at H
    exact absurd H (by simp)
   rw [if_pos c12] at H
   have c12b0 : decide ((ji10) < (l0_1.length : Int)) = true := decide_eq_true c12
   clear c12
   by_cases c13 : ((Op.bytesLess (((rd_T56 l0_1 (ji10)).f0).toList) (((rd_T56 l0_1 x3_1).f0).toList)) = true)
   rotate_left
   ·rw [if_neg c13] at H
    have c13b0 : (Op.bytesLess (((rd_T56 l0_1 (ji10)).f0).toList) (((rd_T56 l0_1 x3_1).f0).toList)) = false := by simpa using c13
    clear c13
    obtain rfl := Option.some.inj H
    obtain ⟨hcz17_0, hcz17_1, hcz17_2, hcz17_3, hfz17_0, hfz17_1, hfz17_2, hfz17_3⟩ := bf4 (w := wr) BK387
    try go_wp2
    replace BK387 := Aside0.mk (blk_drew BK387.out)
    replace HB := Aside0.mk (below_drew1 HB.out)
    have p388 : 0 ≤ (x3_1 : Int) := of_decide_eq_true (by first | (with_reducible assumption) | assumption)
    have q388 : x3_1 < (l0_1.length : Int) := of_decide_eq_true (by first | (with_reducible assumption) | assumption)
    obtain ⟨ad388, e388, hx388_0, hx388_1, hx388_2, hx388_3, hx388_4, hx388_5, hx388_6, hx388_7⟩ := at_T56 HR0_1.out x3_1 p388 q388
    have hw388_7 := hx388_7
    have hw388_6 := hx388_6
    have hw388_5 := hx388_5
    have hw388_4 := hx388_4
    have hw388_3 := hx388_3
    have hw388_2 := hx388_2
    have hw388_1 := hx388_1
    have hw388_0 := hx388_0
    cases e388
    replace hx388_0 := (HB.out.cell (World.block_lt_of_cell? w _ hx388_0)).trans hx388_0
    replace hx388_1 := (HB.out.cell (World.block_lt_of_cell? w _ hx388_1)).trans hx388_1
    replace hx388_2 := (HB.out.cell (World.block_lt_of_cell? w _ hx388_2)).trans hx388_2
    replace hx388_3 := (HB.out.cell (World.block_lt_of_cell? w _ hx388_3)).trans hx388_3
    replace hx388_4 := (HB.out.cell (World.block_lt_of_cell? w _ hx388_4)).trans hx388_4
    replace hx388_5 := (HB.out.cell (World.block_lt_of_cell? w _ hx388_5)).trans hx388_5
    replace hx388_6 := (HB.out.cell (World.block_lt_of_cell? w _ hx388_6)).trans hx388_6
    replace hx388_7 := (HB.out.cell (World.block_lt_of_cell? w _ hx388_7)).trans hx388_7
    replace p388 := eq_true p388
    replace q388 := eq_true q388
    have p390 : 0 ≤ (x3_1 : Int) := of_decide_eq_true (by first | (with_reducible assumption) | assumption)
    have q390 : x3_1 < (l0_1.length : Int) := of_decide_eq_true (by first | (with_reducible assumption) | assumption)
    obtain ⟨ad390, e390, hx390_0, hx390_1, hx390_2, hx390_3, hx390_4, hx390_5, hx390_6, hx390_7⟩ := at_T56 HR0_1.out x3_1 p390 q390
    have hw390_7 := hx390_7
    have hw390_6 := hx390_6
    have hw390_5 := hx390_5
    have hw390_4 := hx390_4
    have hw390_3 := hx390_3
    have hw390_2 := hx390_2
    have hw390_1 := hx390_1
    have hw390_0 := hx390_0
    obtain rfl : ad388 = ad390 := (by injection e390)
    replace hx390_0 := (HB.out.cell (World.block_lt_of_cell? w _ hx390_0)).trans hx390_0
    replace hx390_1 := (HB.out.cell (World.block_lt_of_cell? w _ hx390_1)).trans hx390_1
    replace hx390_2 := (HB.out.cell (World.block_lt_of_cell? w _ hx390_2)).trans hx390_2
    replace hx390_3 := (HB.out.cell (World.block_lt_of_cell? w _ hx390_3)).trans hx390_3
    replace hx390_4 := (HB.out.cell (World.block_lt_of_cell? w _ hx390_4)).trans hx390_4
    replace hx390_5 := (HB.out.cell (World.block_lt_of_cell? w _ hx390_5)).trans hx390_5
    replace hx390_6 := (HB.out.cell (World.block_lt_of_cell? w _ hx390_6)).trans hx390_6
    replace hx390_7 := (HB.out.cell (World.block_lt_of_cell? w _ hx390_7)).trans hx390_7
    replace p390 := eq_true p390
    replace q390 := eq_true q390
    have p391 : 0 ≤ ((ji10) : Int) := of_decide_eq_true (by first | (with_reducible assumption) | assumption)
    have q391 : (ji10) < (l0_1.length : Int) := of_decide_eq_true (by first | (with_reducible assumption) | assumption)
    obtain ⟨ad391, e391, hx391_0, hx391_1, hx391_2, hx391_3, hx391_4, hx391_5, hx391_6, hx391_7⟩ := at_T56 HR0_1.out (ji10) p391 q391
    have hw391_7 := hx391_7
    have hw391_6 := hx391_6
    have hw391_5 := hx391_5
    have hw391_4 := hx391_4
    have hw391_3 := hx391_3
    have hw391_2 := hx391_2
    have hw391_1 := hx391_1
    have hw391_0 := hx391_0
    obtain rfl : ad388 = ad391 := (by injection e391)
    replace hx391_0 := (HB.out.cell (World.block_lt_of_cell? w _ hx391_0)).trans hx391_0
    replace hx391_1 := (HB.out.cell (World.block_lt_of_cell? w _ hx391_1)).trans hx391_1
    replace hx391_2 := (HB.out.cell (World.block_lt_of_cell? w _ hx391_2)).trans hx391_2
    replace hx391_3 := (HB.out.cell (World.block_lt_of_cell? w _ hx391_3)).trans hx391_3
    replace hx391_4 := (HB.out.cell (World.block_lt_of_cell? w _ hx391_4)).trans hx391_4
    replace hx391_5 := (HB.out.cell (World.block_lt_of_cell? w _ hx391_5)).trans hx391_5
    replace hx391_6 := (HB.out.cell (World.block_lt_of_cell? w _ hx391_6)).trans hx391_6
    replace hx391_7 := (HB.out.cell (World.block_lt_of_cell? w _ hx391_7)).trans hx391_7
    replace p391 := eq_true p391
    replace q391 := eq_true q391
    refine start_ (n := 27) (S := fun w' => w'.cell? ⟨gb387, 0, none⟩ = some (.bool true) ∧ w'.cell? ⟨gb387, 1, none⟩ = some (.slice (some ad388) l0_1.length c0_1) ∧ w'.cell? ⟨gb387, 2, none⟩ = some (.slice A0_2 l0_2.length c0_2) ∧ w'.cell? ⟨gb387, 3, none⟩ = some (.slice A0_3 l0_3.length c0_3) ∧ w'.cell? (ad388.add ((x3_1).toNat * 8)) = some (.string ((rd_T56 l0_1 x3_1).f0)) ∧ w'.cell? ⟨(ad388.add ((x3_1).toNat * 8)).block, (ad388.add ((x3_1).toNat * 8)).off + 1, none⟩ = some (.int .i64 ((rd_T56 l0_1 x3_1).f1.f0)) ∧ w'.cell? ⟨(ad388.add ((x3_1).toNat * 8)).block, (ad388.add ((x3_1).toNat * 8)).off + 2, none⟩ = some (.float .f64 ((rd_T56 l0_1 x3_1).f1.f1)) ∧ w'.cell? ⟨(ad388.add ((x3_1).toNat * 8)).block, (ad388.add ((x3_1).toNat * 8)).off + 3, none⟩ = some (.string ((rd_T56 l0_1 x3_1).f1.f2)) ∧ w'.cell? ⟨(ad388.add ((x3_1).toNat * 8)).block, (ad388.add ((x3_1).toNat * 8)).off + 4, none⟩ = some (.int .i64 ((rd_T56 l0_1 x3_1).f2)) ∧ w'.cell? ⟨(ad388.add ((x3_1).toNat * 8)).block, (ad388.add ((x3_1).toNat * 8)).off + 5, none⟩ = some (.int .i64 ((rd_T56 l0_1 x3_1).f3.f0)) ∧ w'.cell? ⟨(ad388.add ((x3_1).toNat * 8)).block, (ad388.add ((x3_1).toNat * 8)).off + 6, none⟩ = some (.float .f64 ((rd_T56 l0_1 x3_1).f3.f1)) ∧ w'.cell? ⟨(ad388.add ((x3_1).toNat * 8)).block, (ad388.add ((x3_1).toNat * 8)).off + 7, none⟩ = some (.string ((rd_T56 l0_1 x3_1).f3.f2)) ∧ w'.cell? (ad388.add ((x3_1).toNat * 8)) = some (.string ((rd_T56 l0_1 x3_1).f0)) ∧ w'.cell? ⟨(ad388.add ((x3_1).toNat * 8)).block, (ad388.add ((x3_1).toNat * 8)).off + 1, none⟩ = some (.int .i64 ((rd_T56 l0_1 x3_1).f1.f0)) ∧ w'.cell? ⟨(ad388.add ((x3_1).toNat * 8)).block, (ad388.add ((x3_1).toNat * 8)).off + 2, none⟩ = some (.float .f64 ((rd_T56 l0_1 x3_1).f1.f1)) ∧ w'.cell? ⟨(ad388.add ((x3_1).toNat * 8)).block, (ad388.add ((x3_1).toNat * 8)).off + 3, none⟩ = some (.string ((rd_T56 l0_1 x3_1).f1.f2)) ∧ w'.cell? ⟨(ad388.add ((x3_1).toNat * 8)).block, (ad388.add ((x3_1).toNat * 8)).off + 4, none⟩ = some (.int .i64 ((rd_T56 l0_1 x3_1).f2)) ∧ w'.cell? ⟨(ad388.add ((x3_1).toNat * 8)).block, (ad388.add ((x3_1).toNat * 8)).off + 5, none⟩ = some (.int .i64 ((rd_T56 l0_1 x3_1).f3.f0)) ∧ w'.cell? ⟨(ad388.add ((x3_1).toNat * 8)).block, (ad388.add ((x3_1).toNat * 8)).off + 6, none⟩ = some (.float .f64 ((rd_T56 l0_1 x3_1).f3.f1)) ∧ w'.cell? ⟨(ad388.add ((x3_1).toNat * 8)).block, (ad388.add ((x3_1).toNat * 8)).off + 7, none⟩ = some (.string ((rd_T56 l0_1 x3_1).f3.f2)) ∧ w'.cell? (ad388.add (((ji10)).toNat * 8)) = some (.string ((rd_T56 l0_1 (ji10)).f0)) ∧ w'.cell? ⟨(ad388.add (((ji10)).toNat * 8)).block, (ad388.add (((ji10)).toNat * 8)).off + 1, none⟩ = some (.int .i64 ((rd_T56 l0_1 (ji10)).f1.f0)) ∧ w'.cell? ⟨(ad388.add (((ji10)).toNat * 8)).block, (ad388.add (((ji10)).toNat * 8)).off + 2, none⟩ = some (.float .f64 ((rd_T56 l0_1 (ji10)).f1.f1)) ∧ w'.cell? ⟨(ad388.add (((ji10)).toNat * 8)).block, (ad388.add (((ji10)).toNat * 8)).off + 3, none⟩ = some (.string ((rd_T56 l0_1 (ji10)).f1.f2)) ∧ w'.cell? ⟨(ad388.add (((ji10)).toNat * 8)).block, (ad388.add (((ji10)).toNat * 8)).off + 4, none⟩ = some (.int .i64 ((rd_T56 l0_1 (ji10)).f2)) ∧ w'.cell? ⟨(ad388.add (((ji10)).toNat * 8)).block, (ad388.add (((ji10)).toNat * 8)).off + 5, none⟩ = some (.int .i64 ((rd_T56 l0_1 (ji10)).f3.f0)) ∧ w'.cell? ⟨(ad388.add (((ji10)).toNat * 8)).block, (ad388.add (((ji10)).toNat * 8)).off + 6, none⟩ = some (.float .f64 ((rd_T56 l0_1 (ji10)).f3.f1)) ∧ w'.cell? ⟨(ad388.add (((ji10)).toNat * 8)).block, (ad388.add (((ji10)).toNat * 8)).off + 7, none⟩ = some (.string ((rd_T56 l0_1 (ji10)).f3.f2))) (ds := []) #[false,false,false,false,false,false,false,false,false,false,false,false,false,false,false,false,false,false,false,false,false,false,false,false,false,false,false] (by kernel_rfl) rfl rfl (bn4 BK387 ⟨((HB.out.cell (World.block_lt_of_cell? w _ hw388_0)).trans hw388_0), ((HB.out.cell (World.block_lt_of_cell? w _ hw388_1)).trans hw388_1), ((HB.out.cell (World.block_lt_of_cell? w _ hw388_2)).trans hw388_2), ((HB.out.cell (World.block_lt_of_cell? w _ hw388_3)).trans hw388_3), ((HB.out.cell (World.block_lt_of_cell? w _ hw388_4)).trans hw388_4), ((HB.out.cell (World.block_lt_of_cell? w _ hw388_5)).trans hw388_5), ((HB.out.cell (World.block_lt_of_cell? w _ hw388_6)).trans hw388_6), ((HB.out.cell (World.block_lt_of_cell? w _ hw388_7)).trans hw388_7), ((HB.out.cell (World.block_lt_of_cell? w _ hw390_0)).trans hw390_0), ((HB.out.cell (World.block_lt_of_cell? w _ hw390_1)).trans hw390_1), ((HB.out.cell (World.block_lt_of_cell? w _ hw390_2)).trans hw390_2), ((HB.out.cell (World.block_lt_of_cell? w _ hw390_3)).trans hw390_3), ((HB.out.cell (World.block_lt_of_cell? w _ hw390_4)).trans hw390_4), ((HB.out.cell (World.block_lt_of_cell? w _ hw390_5)).trans hw390_5), ((HB.out.cell (World.block_lt_of_cell? w _ hw390_6)).trans hw390_6), ((HB.out.cell (World.block_lt_of_cell? w _ hw390_7)).trans hw390_7), ((HB.out.cell (World.block_lt_of_cell? w _ hw391_0)).trans hw391_0), ((HB.out.cell (World.block_lt_of_cell? w _ hw391_1)).trans hw391_1), ((HB.out.cell (World.block_lt_of_cell? w _ hw391_2)).trans hw391_2), ((HB.out.cell (World.block_lt_of_cell? w _ hw391_3)).trans hw391_3), ((HB.out.cell (World.block_lt_of_cell? w _ hw391_4)).trans hw391_4), ((HB.out.cell (World.block_lt_of_cell? w _ hw391_5)).trans hw391_5), ((HB.out.cell (World.block_lt_of_cell? w _ hw391_6)).trans hw391_6), ((HB.out.cell (World.block_lt_of_cell? w _ hw391_7)).trans hw391_7)⟩) (fun hHeld => ?_); refine with_tabW engrossref10_MayNode.tab5 engrossref10_MayNode.bits5 (fun HT_ HW_ => ?_)
    generalize wr.drew = w18 at BK387 HB hx388_0 hx388_1 hx388_2 hx388_3 hx388_4 hx388_5 hx388_6 hx388_7 hx390_0 hx390_1 hx390_2 hx390_3 hx390_4 hx390_5 hx390_6 hx390_7 hx391_0 hx391_1 hx391_2 hx391_3 hx391_4 hx391_5 hx391_6 hx391_7 hHeld ⊢
    refine pA 0 15 HT_ ?_
    refine pA 2 17 HT_ ?_
    refine tA 1 16 HT_ HW_ hHeld ?_ (hy := by rintro w' ⟨s0, s1, s2, s3, s4, s5, s6, s7, s8, s9, s10, s11, s12, s13, s14, s15, s16, s17, s18, s19, s20, s21, s22, s23, s24, s25, s26, s27⟩; go_simp; with_reducible rfl)
    refine pA 3 18 HT_ ?_
    refine tA 4 19 HT_ HW_ hHeld ?_ (hy := by rintro w' ⟨s0, s1, s2, s3, s4, s5, s6, s7, s8, s9, s10, s11, s12, s13, s14, s15, s16, s17, s18, s19, s20, s21, s22, s23, s24, s25, s26, s27⟩; go_simp; with_reducible rfl)
    refine oA 5 (some 20) HT_ (fun K hK => ?_)
    refine goes_ Try.func31 (by kernel_rfl) rfl #[.agg #[.string ((rd_T56 l0_1 x3_1).f0), .int .i64 ((rd_T56 l0_1 x3_1).f1.f0), .float .f64 ((rd_T56 l0_1 x3_1).f1.f1), .string ((rd_T56 l0_1 x3_1).f1.f2), .int .i64 ((rd_T56 l0_1 x3_1).f2), .int .i64 ((rd_T56 l0_1 x3_1).f3.f0), .float .f64 ((rd_T56 l0_1 x3_1).f3.f1), .string ((rd_T56 l0_1 x3_1).f3.f2)]] (by rfl) rfl rfl (by (try simp only [List.map_toArray, List.map_cons, List.map_nil]); first | done | rfl | (simp only [List.length_drop, List.length_take]; rfl)) ?_
    with_reducible refine (engrossref10_May.calls ((rd_T56 l0_1 x3_1).f0) ((rd_T56 l0_1 x3_1).f1.f0) ((rd_T56 l0_1 x3_1).f1.f1) ((rd_T56 l0_1 x3_1).f1.f2) ((rd_T56 l0_1 x3_1).f2) ((rd_T56 l0_1 x3_1).f3.f0) ((rd_T56 l0_1 x3_1).f3.f1) ((rd_T56 l0_1 x3_1).f3.f2) true _ A7.out).mono ?_
    rintro e w19 ⟨rfl, hb⟩
    refine ⟨_, rfl, ?_⟩
    replace BK387 := bB BK387 hb
    replace HB := bW HB hb
    (try clear hb)
    (try clear hb2)
    (try clear hk)
    (try clear hi)
    refine hK.out _ _ (bn4 BK387 ⟨((HB.out.cell (World.block_lt_of_cell? w _ hw388_0)).trans hw388_0), ((HB.out.cell (World.block_lt_of_cell? w _ hw388_1)).trans hw388_1), ((HB.out.cell (World.block_lt_of_cell? w _ hw388_2)).trans hw388_2), ((HB.out.cell (World.block_lt_of_cell? w _ hw388_3)).trans hw388_3), ((HB.out.cell (World.block_lt_of_cell? w _ hw388_4)).trans hw388_4), ((HB.out.cell (World.block_lt_of_cell? w _ hw388_5)).trans hw388_5), ((HB.out.cell (World.block_lt_of_cell? w _ hw388_6)).trans hw388_6), ((HB.out.cell (World.block_lt_of_cell? w _ hw388_7)).trans hw388_7), ((HB.out.cell (World.block_lt_of_cell? w _ hw390_0)).trans hw390_0), ((HB.out.cell (World.block_lt_of_cell? w _ hw390_1)).trans hw390_1), ((HB.out.cell (World.block_lt_of_cell? w _ hw390_2)).trans hw390_2), ((HB.out.cell (World.block_lt_of_cell? w _ hw390_3)).trans hw390_3), ((HB.out.cell (World.block_lt_of_cell? w _ hw390_4)).trans hw390_4), ((HB.out.cell (World.block_lt_of_cell? w _ hw390_5)).trans hw390_5), ((HB.out.cell (World.block_lt_of_cell? w _ hw390_6)).trans hw390_6), ((HB.out.cell (World.block_lt_of_cell? w _ hw390_7)).trans hw390_7), ((HB.out.cell (World.block_lt_of_cell? w _ hw391_0)).trans hw391_0), ((HB.out.cell (World.block_lt_of_cell? w _ hw391_1)).trans hw391_1), ((HB.out.cell (World.block_lt_of_cell? w _ hw391_2)).trans hw391_2), ((HB.out.cell (World.block_lt_of_cell? w _ hw391_3)).trans hw391_3), ((HB.out.cell (World.block_lt_of_cell? w _ hw391_4)).trans hw391_4), ((HB.out.cell (World.block_lt_of_cell? w _ hw391_5)).trans hw391_5), ((HB.out.cell (World.block_lt_of_cell? w _ hw391_6)).trans hw391_6), ((HB.out.cell (World.block_lt_of_cell? w _ hw391_7)).trans hw391_7)⟩) (fun hHeld => ?_)
    clear hK K
    refine norm_ (a' := ?_) ?_ ?_
    rotate_left
    ·show Act.put _ (some 20) _ = _
     simp only [Act.put, List.setIfInBounds_toArray, List.set_cons_zero, List.set_cons_succ, i64_w, i32_w]
     rfl
    refine pA 6 21 HT_ ?_
    refine pA 7 22 HT_ ?_
    refine pA 8 23 HT_ ?_
    refine pA 9 24 HT_ ?_
    refine pA 10 25 HT_ ?_
    refine pA 11 26 HT_ ?_
    refine pA 13 28 HT_ ?_
    refine pA 17 32 HT_ ?_
    refine pA 19 34 HT_ ?_
    refine pA 20 35 HT_ ?_
    refine tA 12 27 HT_ HW_ hHeld ?_ (hy := by rintro w' ⟨s0, s1, s2, s3, s4, s5, s6, s7, s8, s9, s10, s11, s12, s13, s14, s15, s16, s17, s18, s19, s20, s21, s22, s23, s24, s25, s26, s27⟩; go_simp; with_reducible rfl)
    refine pA 14 29 HT_ ?_
    refine pA 15 30 HT_ ?_
    refine tA 16 31 HT_ HW_ hHeld ?_ (hy := by rintro w' ⟨s0, s1, s2, s3, s4, s5, s6, s7, s8, s9, s10, s11, s12, s13, s14, s15, s16, s17, s18, s19, s20, s21, s22, s23, s24, s25, s26, s27⟩; go_simp; with_reducible rfl)
    refine tA 18 33 HT_ HW_ hHeld ?_ (hy := by rintro w' ⟨s0, s1, s2, s3, s4, s5, s6, s7, s8, s9, s10, s11, s12, s13, s14, s15, s16, s17, s18, s19, s20, s21, s22, s23, s24, s25, s26, s27⟩; go_simp; with_reducible rfl)
    refine pA 21 36 HT_ ?_
    refine pA 22 37 HT_ ?_
    refine tA 23 38 HT_ HW_ hHeld ?_ (hy := by rintro w' ⟨s0, s1, s2, s3, s4, s5, s6, s7, s8, s9, s10, s11, s12, s13, s14, s15, s16, s17, s18, s19, s20, s21, s22, s23, s24, s25, s26, s27⟩; go_simp; with_reducible rfl)
    refine pA 24 39 HT_ ?_
    refine pA 25 40 HT_ ?_
    refine pA 26 41 HT_ ?_
    refine done_ (done_of HT_.out (by kernel_rfl)) ?_
    try go_wp2
    go_ret
    exact ⟨by first | rfl | (simp [errW_none, errW_some] <;> rfl) | (simp only [← hji10]; first | rfl | (simp [errW_none, errW_some] <;> rfl)) | (simp [*, errW_none, errW_some] <;> rfl), by repeat (first | (with_reducible first | exact HB.out | apply below_alloc | apply pw_below_drewN | apply below_drew1 | refine below_set ?_ GE387.out) | exact HB.out)⟩
   rw [if_pos c13] at H
   have c13b0 : (Op.bytesLess (((rd_T56 l0_1 (ji10)).f0).toList) (((rd_T56 l0_1 x3_1).f0).toList)) = true := c13
   clear c13
   have H' := Aside0.mk H
   clear H
   obtain ⟨hcz14_0, hcz14_1, hcz14_2, hcz14_3, hfz14_0, hfz14_1, hfz14_2, hfz14_3⟩ := bf4 (w := wr) BK387
   try go_wp2
   replace BK387 := Aside0.mk (blk_drew BK387.out)
   replace HB := Aside0.mk (below_drew1 HB.out)
   have p388 : 0 ≤ (x3_1 : Int) := of_decide_eq_true (by first | (with_reducible assumption) | assumption)
   have q388 : x3_1 < (l0_1.length : Int) := of_decide_eq_true (by first | (with_reducible assumption) | assumption)
   obtain ⟨ad388, e388, hx388_0, hx388_1, hx388_2, hx388_3, hx388_4, hx388_5, hx388_6, hx388_7⟩ := at_T56 HR0_1.out x3_1 p388 q388
   have hw388_7 := hx388_7
   have hw388_6 := hx388_6
   have hw388_5 := hx388_5
   have hw388_4 := hx388_4
   have hw388_3 := hx388_3
   have hw388_2 := hx388_2
   have hw388_1 := hx388_1
   have hw388_0 := hx388_0
   cases e388
   replace hx388_0 := (HB.out.cell (World.block_lt_of_cell? w _ hx388_0)).trans hx388_0
   replace hx388_1 := (HB.out.cell (World.block_lt_of_cell? w _ hx388_1)).trans hx388_1
   replace hx388_2 := (HB.out.cell (World.block_lt_of_cell? w _ hx388_2)).trans hx388_2
   replace hx388_3 := (HB.out.cell (World.block_lt_of_cell? w _ hx388_3)).trans hx388_3
   replace hx388_4 := (HB.out.cell (World.block_lt_of_cell? w _ hx388_4)).trans hx388_4
   replace hx388_5 := (HB.out.cell (World.block_lt_of_cell? w _ hx388_5)).trans hx388_5
   replace hx388_6 := (HB.out.cell (World.block_lt_of_cell? w _ hx388_6)).trans hx388_6
   replace hx388_7 := (HB.out.cell (World.block_lt_of_cell? w _ hx388_7)).trans hx388_7
   replace p388 := eq_true p388
   replace q388 := eq_true q388
   have p390 : 0 ≤ (x3_1 : Int) := of_decide_eq_true (by first | (with_reducible assumption) | assumption)
   have q390 : x3_1 < (l0_1.length : Int) := of_decide_eq_true (by first | (with_reducible assumption) | assumption)
   obtain ⟨ad390, e390, hx390_0, hx390_1, hx390_2, hx390_3, hx390_4, hx390_5, hx390_6, hx390_7⟩ := at_T56 HR0_1.out x3_1 p390 q390
   have hw390_7 := hx390_7
   have hw390_6 := hx390_6
   have hw390_5 := hx390_5
   have hw390_4 := hx390_4
   have hw390_3 := hx390_3
   have hw390_2 := hx390_2
   have hw390_1 := hx390_1
   have hw390_0 := hx390_0
   obtain rfl : ad388 = ad390 := (by injection e390)
   replace hx390_0 := (HB.out.cell (World.block_lt_of_cell? w _ hx390_0)).trans hx390_0
   replace hx390_1 := (HB.out.cell (World.block_lt_of_cell? w _ hx390_1)).trans hx390_1
   replace hx390_2 := (HB.out.cell (World.block_lt_of_cell? w _ hx390_2)).trans hx390_2
   replace hx390_3 := (HB.out.cell (World.block_lt_of_cell? w _ hx390_3)).trans hx390_3
   replace hx390_4 := (HB.out.cell (World.block_lt_of_cell? w _ hx390_4)).trans hx390_4
   replace hx390_5 := (HB.out.cell (World.block_lt_of_cell? w _ hx390_5)).trans hx390_5
   replace hx390_6 := (HB.out.cell (World.block_lt_of_cell? w _ hx390_6)).trans hx390_6
   replace hx390_7 := (HB.out.cell (World.block_lt_of_cell? w _ hx390_7)).trans hx390_7
   replace p390 := eq_true p390
   replace q390 := eq_true q390
   have p391 : 0 ≤ ((ji10) : Int) := of_decide_eq_true (by first | (with_reducible assumption) | assumption)
   have q391 : (ji10) < (l0_1.length : Int) := of_decide_eq_true (by first | (with_reducible assumption) | assumption)
   obtain ⟨ad391, e391, hx391_0, hx391_1, hx391_2, hx391_3, hx391_4, hx391_5, hx391_6, hx391_7⟩ := at_T56 HR0_1.out (ji10) p391 q391
   have hw391_7 := hx391_7
   have hw391_6 := hx391_6
   have hw391_5 := hx391_5
   have hw391_4 := hx391_4
   have hw391_3 := hx391_3
   have hw391_2 := hx391_2
   have hw391_1 := hx391_1
   have hw391_0 := hx391_0
   obtain rfl : ad388 = ad391 := (by injection e391)
   replace hx391_0 := (HB.out.cell (World.block_lt_of_cell? w _ hx391_0)).trans hx391_0
   replace hx391_1 := (HB.out.cell (World.block_lt_of_cell? w _ hx391_1)).trans hx391_1
   replace hx391_2 := (HB.out.cell (World.block_lt_of_cell? w _ hx391_2)).trans hx391_2
   replace hx391_3 := (HB.out.cell (World.block_lt_of_cell? w _ hx391_3)).trans hx391_3
   replace hx391_4 := (HB.out.cell (World.block_lt_of_cell? w _ hx391_4)).trans hx391_4
   replace hx391_5 := (HB.out.cell (World.block_lt_of_cell? w _ hx391_5)).trans hx391_5
   replace hx391_6 := (HB.out.cell (World.block_lt_of_cell? w _ hx391_6)).trans hx391_6
   replace hx391_7 := (HB.out.cell (World.block_lt_of_cell? w _ hx391_7)).trans hx391_7
   replace p391 := eq_true p391
   replace q391 := eq_true q391
   refine start_ (n := 27) (S := fun w' => w'.cell? ⟨gb387, 0, none⟩ = some (.bool true) ∧ w'.cell? ⟨gb387, 1, none⟩ = some (.slice (some ad388) l0_1.length c0_1) ∧ w'.cell? ⟨gb387, 2, none⟩ = some (.slice A0_2 l0_2.length c0_2) ∧ w'.cell? ⟨gb387, 3, none⟩ = some (.slice A0_3 l0_3.length c0_3) ∧ w'.cell? (ad388.add ((x3_1).toNat * 8)) = some (.string ((rd_T56 l0_1 x3_1).f0)) ∧ w'.cell? ⟨(ad388.add ((x3_1).toNat * 8)).block, (ad388.add ((x3_1).toNat * 8)).off + 1, none⟩ = some (.int .i64 ((rd_T56 l0_1 x3_1).f1.f0)) ∧ w'.cell? ⟨(ad388.add ((x3_1).toNat * 8)).block, (ad388.add ((x3_1).toNat * 8)).off + 2, none⟩ = some (.float .f64 ((rd_T56 l0_1 x3_1).f1.f1)) ∧ w'.cell? ⟨(ad388.add ((x3_1).toNat * 8)).block, (ad388.add ((x3_1).toNat * 8)).off + 3, none⟩ = some (.string ((rd_T56 l0_1 x3_1).f1.f2)) ∧ w'.cell? ⟨(ad388.add ((x3_1).toNat * 8)).block, (ad388.add ((x3_1).toNat * 8)).off + 4, none⟩ = some (.int .i64 ((rd_T56 l0_1 x3_1).f2)) ∧ w'.cell? ⟨(ad388.add ((x3_1).toNat * 8)).block, (ad388.add ((x3_1).toNat * 8)).off + 5, none⟩ = some (.int .i64 ((rd_T56 l0_1 x3_1).f3.f0)) ∧ w'.cell? ⟨(ad388.add ((x3_1).toNat * 8)).block, (ad388.add ((x3_1).toNat * 8)).off + 6, none⟩ = some (.float .f64 ((rd_T56 l0_1 x3_1).f3.f1)) ∧ w'.cell? ⟨(ad388.add ((x3_1).toNat * 8)).block, (ad388.add ((x3_1).toNat * 8)).off + 7, none⟩ = some (.string ((rd_T56 l0_1 x3_1).f3.f2)) ∧ w'.cell? (ad388.add ((x3_1).toNat * 8)) = some (.string ((rd_T56 l0_1 x3_1).f0)) ∧ w'.cell? ⟨(ad388.add ((x3_1).toNat * 8)).block, (ad388.add ((x3_1).toNat * 8)).off + 1, none⟩ = some (.int .i64 ((rd_T56 l0_1 x3_1).f1.f0)) ∧ w'.cell? ⟨(ad388.add ((x3_1).toNat * 8)).block, (ad388.add ((x3_1).toNat * 8)).off + 2, none⟩ = some (.float .f64 ((rd_T56 l0_1 x3_1).f1.f1)) ∧ w'.cell? ⟨(ad388.add ((x3_1).toNat * 8)).block, (ad388.add ((x3_1).toNat * 8)).off + 3, none⟩ = some (.string ((rd_T56 l0_1 x3_1).f1.f2)) ∧ w'.cell? ⟨(ad388.add ((x3_1).toNat * 8)).block, (ad388.add ((x3_1).toNat * 8)).off + 4, none⟩ = some (.int .i64 ((rd_T56 l0_1 x3_1).f2)) ∧ w'.cell? ⟨(ad388.add ((x3_1).toNat * 8)).block, (ad388.add ((x3_1).toNat * 8)).off + 5, none⟩ = some (.int .i64 ((rd_T56 l0_1 x3_1).f3.f0)) ∧ w'.cell? ⟨(ad388.add ((x3_1).toNat * 8)).block, (ad388.add ((x3_1).toNat * 8)).off + 6, none⟩ = some (.float .f64 ((rd_T56 l0_1 x3_1).f3.f1)) ∧ w'.cell? ⟨(ad388.add ((x3_1).toNat * 8)).block, (ad388.add ((x3_1).toNat * 8)).off + 7, none⟩ = some (.string ((rd_T56 l0_1 x3_1).f3.f2)) ∧ w'.cell? (ad388.add (((ji10)).toNat * 8)) = some (.string ((rd_T56 l0_1 (ji10)).f0)) ∧ w'.cell? ⟨(ad388.add (((ji10)).toNat * 8)).block, (ad388.add (((ji10)).toNat * 8)).off + 1, none⟩ = some (.int .i64 ((rd_T56 l0_1 (ji10)).f1.f0)) ∧ w'.cell? ⟨(ad388.add (((ji10)).toNat * 8)).block, (ad388.add (((ji10)).toNat * 8)).off + 2, none⟩ = some (.float .f64 ((rd_T56 l0_1 (ji10)).f1.f1)) ∧ w'.cell? ⟨(ad388.add (((ji10)).toNat * 8)).block, (ad388.add (((ji10)).toNat * 8)).off + 3, none⟩ = some (.string ((rd_T56 l0_1 (ji10)).f1.f2)) ∧ w'.cell? ⟨(ad388.add (((ji10)).toNat * 8)).block, (ad388.add (((ji10)).toNat * 8)).off + 4, none⟩ = some (.int .i64 ((rd_T56 l0_1 (ji10)).f2)) ∧ w'.cell? ⟨(ad388.add (((ji10)).toNat * 8)).block, (ad388.add (((ji10)).toNat * 8)).off + 5, none⟩ = some (.int .i64 ((rd_T56 l0_1 (ji10)).f3.f0)) ∧ w'.cell? ⟨(ad388.add (((ji10)).toNat * 8)).block, (ad388.add (((ji10)).toNat * 8)).off + 6, none⟩ = some (.float .f64 ((rd_T56 l0_1 (ji10)).f3.f1)) ∧ w'.cell? ⟨(ad388.add (((ji10)).toNat * 8)).block, (ad388.add (((ji10)).toNat * 8)).off + 7, none⟩ = some (.string ((rd_T56 l0_1 (ji10)).f3.f2))) (ds := []) #[false,false,false,false,false,false,false,false,false,false,false,false,false,false,false,false,false,false,false,false,false,false,false,false,false,false,false] (by kernel_rfl) rfl rfl (bn4 BK387 ⟨((HB.out.cell (World.block_lt_of_cell? w _ hw388_0)).trans hw388_0), ((HB.out.cell (World.block_lt_of_cell? w _ hw388_1)).trans hw388_1), ((HB.out.cell (World.block_lt_of_cell? w _ hw388_2)).trans hw388_2), ((HB.out.cell (World.block_lt_of_cell? w _ hw388_3)).trans hw388_3), ((HB.out.cell (World.block_lt_of_cell? w _ hw388_4)).trans hw388_4), ((HB.out.cell (World.block_lt_of_cell? w _ hw388_5)).trans hw388_5), ((HB.out.cell (World.block_lt_of_cell? w _ hw388_6)).trans hw388_6), ((HB.out.cell (World.block_lt_of_cell? w _ hw388_7)).trans hw388_7), ((HB.out.cell (World.block_lt_of_cell? w _ hw390_0)).trans hw390_0), ((HB.out.cell (World.block_lt_of_cell? w _ hw390_1)).trans hw390_1), ((HB.out.cell (World.block_lt_of_cell? w _ hw390_2)).trans hw390_2), ((HB.out.cell (World.block_lt_of_cell? w _ hw390_3)).trans hw390_3), ((HB.out.cell (World.block_lt_of_cell? w _ hw390_4)).trans hw390_4), ((HB.out.cell (World.block_lt_of_cell? w _ hw390_5)).trans hw390_5), ((HB.out.cell (World.block_lt_of_cell? w _ hw390_6)).trans hw390_6), ((HB.out.cell (World.block_lt_of_cell? w _ hw390_7)).trans hw390_7), ((HB.out.cell (World.block_lt_of_cell? w _ hw391_0)).trans hw391_0), ((HB.out.cell (World.block_lt_of_cell? w _ hw391_1)).trans hw391_1), ((HB.out.cell (World.block_lt_of_cell? w _ hw391_2)).trans hw391_2), ((HB.out.cell (World.block_lt_of_cell? w _ hw391_3)).trans hw391_3), ((HB.out.cell (World.block_lt_of_cell? w _ hw391_4)).trans hw391_4), ((HB.out.cell (World.block_lt_of_cell? w _ hw391_5)).trans hw391_5), ((HB.out.cell (World.block_lt_of_cell? w _ hw391_6)).trans hw391_6), ((HB.out.cell (World.block_lt_of_cell? w _ hw391_7)).trans hw391_7)⟩) (fun hHeld => ?_); refine with_tabW engrossref10_MayNode.tab5 engrossref10_MayNode.bits5 (fun HT_ HW_ => ?_)
   generalize wr.drew = w15 at BK387 HB hx388_0 hx388_1 hx388_2 hx388_3 hx388_4 hx388_5 hx388_6 hx388_7 hx390_0 hx390_1 hx390_2 hx390_3 hx390_4 hx390_5 hx390_6 hx390_7 hx391_0 hx391_1 hx391_2 hx391_3 hx391_4 hx391_5 hx391_6 hx391_7 hHeld ⊢
   refine pA 0 15 HT_ ?_
   refine pA 2 17 HT_ ?_
   refine tA 1 16 HT_ HW_ hHeld ?_ (hy := by rintro w' ⟨s0, s1, s2, s3, s4, s5, s6, s7, s8, s9, s10, s11, s12, s13, s14, s15, s16, s17, s18, s19, s20, s21, s22, s23, s24, s25, s26, s27⟩; go_simp; with_reducible rfl)
   refine pA 3 18 HT_ ?_
   refine tA 4 19 HT_ HW_ hHeld ?_ (hy := by rintro w' ⟨s0, s1, s2, s3, s4, s5, s6, s7, s8, s9, s10, s11, s12, s13, s14, s15, s16, s17, s18, s19, s20, s21, s22, s23, s24, s25, s26, s27⟩; go_simp; with_reducible rfl)
   refine oA 5 (some 20) HT_ (fun K hK => ?_)
   refine goes_ Try.func31 (by kernel_rfl) rfl #[.agg #[.string ((rd_T56 l0_1 x3_1).f0), .int .i64 ((rd_T56 l0_1 x3_1).f1.f0), .float .f64 ((rd_T56 l0_1 x3_1).f1.f1), .string ((rd_T56 l0_1 x3_1).f1.f2), .int .i64 ((rd_T56 l0_1 x3_1).f2), .int .i64 ((rd_T56 l0_1 x3_1).f3.f0), .float .f64 ((rd_T56 l0_1 x3_1).f3.f1), .string ((rd_T56 l0_1 x3_1).f3.f2)]] (by rfl) rfl rfl (by (try simp only [List.map_toArray, List.map_cons, List.map_nil]); first | done | rfl | (simp only [List.length_drop, List.length_take]; rfl)) ?_
   with_reducible refine (engrossref10_May.calls ((rd_T56 l0_1 x3_1).f0) ((rd_T56 l0_1 x3_1).f1.f0) ((rd_T56 l0_1 x3_1).f1.f1) ((rd_T56 l0_1 x3_1).f1.f2) ((rd_T56 l0_1 x3_1).f2) ((rd_T56 l0_1 x3_1).f3.f0) ((rd_T56 l0_1 x3_1).f3.f1) ((rd_T56 l0_1 x3_1).f3.f2) true _ A7.out).mono ?_
   rintro e w16 ⟨rfl, hb⟩
   refine ⟨_, rfl, ?_⟩
   replace BK387 := bB BK387 hb
   replace HB := bW HB hb
   (try clear hb)
   (try clear hb2)
   (try clear hk)
   (try clear hi)
   refine hK.out _ _ (bn4 BK387 ⟨((HB.out.cell (World.block_lt_of_cell? w _ hw388_0)).trans hw388_0), ((HB.out.cell (World.block_lt_of_cell? w _ hw388_1)).trans hw388_1), ((HB.out.cell (World.block_lt_of_cell? w _ hw388_2)).trans hw388_2), ((HB.out.cell (World.block_lt_of_cell? w _ hw388_3)).trans hw388_3), ((HB.out.cell (World.block_lt_of_cell? w _ hw388_4)).trans hw388_4), ((HB.out.cell (World.block_lt_of_cell? w _ hw388_5)).trans hw388_5), ((HB.out.cell (World.block_lt_of_cell? w _ hw388_6)).trans hw388_6), ((HB.out.cell (World.block_lt_of_cell? w _ hw388_7)).trans hw388_7), ((HB.out.cell (World.block_lt_of_cell? w _ hw390_0)).trans hw390_0), ((HB.out.cell (World.block_lt_of_cell? w _ hw390_1)).trans hw390_1), ((HB.out.cell (World.block_lt_of_cell? w _ hw390_2)).trans hw390_2), ((HB.out.cell (World.block_lt_of_cell? w _ hw390_3)).trans hw390_3), ((HB.out.cell (World.block_lt_of_cell? w _ hw390_4)).trans hw390_4), ((HB.out.cell (World.block_lt_of_cell? w _ hw390_5)).trans hw390_5), ((HB.out.cell (World.block_lt_of_cell? w _ hw390_6)).trans hw390_6), ((HB.out.cell (World.block_lt_of_cell? w _ hw390_7)).trans hw390_7), ((HB.out.cell (World.block_lt_of_cell? w _ hw391_0)).trans hw391_0), ((HB.out.cell (World.block_lt_of_cell? w _ hw391_1)).trans hw391_1), ((HB.out.cell (World.block_lt_of_cell? w _ hw391_2)).trans hw391_2), ((HB.out.cell (World.block_lt_of_cell? w _ hw391_3)).trans hw391_3), ((HB.out.cell (World.block_lt_of_cell? w _ hw391_4)).trans hw391_4), ((HB.out.cell (World.block_lt_of_cell? w _ hw391_5)).trans hw391_5), ((HB.out.cell (World.block_lt_of_cell? w _ hw391_6)).trans hw391_6), ((HB.out.cell (World.block_lt_of_cell? w _ hw391_7)).trans hw391_7)⟩) (fun hHeld => ?_)
   clear hK K
   refine norm_ (a' := ?_) ?_ ?_
   rotate_left
   ·show Act.put _ (some 20) _ = _
    simp only [Act.put, List.setIfInBounds_toArray, List.set_cons_zero, List.set_cons_succ, i64_w, i32_w]
    rfl
   refine pA 6 21 HT_ ?_
   refine pA 7 22 HT_ ?_
   refine pA 8 23 HT_ ?_
   refine pA 9 24 HT_ ?_
   refine pA 10 25 HT_ ?_
   refine pA 11 26 HT_ ?_
   refine pA 13 28 HT_ ?_
   refine pA 17 32 HT_ ?_
   refine pA 19 34 HT_ ?_
   refine pA 20 35 HT_ ?_
   refine tA 12 27 HT_ HW_ hHeld ?_ (hy := by rintro w' ⟨s0, s1, s2, s3, s4, s5, s6, s7, s8, s9, s10, s11, s12, s13, s14, s15, s16, s17, s18, s19, s20, s21, s22, s23, s24, s25, s26, s27⟩; go_simp; with_reducible rfl)
   refine pA 14 29 HT_ ?_
   refine pA 15 30 HT_ ?_
   refine tA 16 31 HT_ HW_ hHeld ?_ (hy := by rintro w' ⟨s0, s1, s2, s3, s4, s5, s6, s7, s8, s9, s10, s11, s12, s13, s14, s15, s16, s17, s18, s19, s20, s21, s22, s23, s24, s25, s26, s27⟩; go_simp; with_reducible rfl)
   refine tA 18 33 HT_ HW_ hHeld ?_ (hy := by rintro w' ⟨s0, s1, s2, s3, s4, s5, s6, s7, s8, s9, s10, s11, s12, s13, s14, s15, s16, s17, s18, s19, s20, s21, s22, s23, s24, s25, s26, s27⟩; go_simp; with_reducible rfl)
   refine pA 21 36 HT_ ?_
   refine pA 22 37 HT_ ?_
   refine tA 23 38 HT_ HW_ hHeld ?_ (hy := by rintro w' ⟨s0, s1, s2, s3, s4, s5, s6, s7, s8, s9, s10, s11, s12, s13, s14, s15, s16, s17, s18, s19, s20, s21, s22, s23, s24, s25, s26, s27⟩; go_simp; with_reducible rfl)
   refine pA 24 39 HT_ ?_
   refine pA 25 40 HT_ ?_
   refine pA 26 41 HT_ ?_
   refine done_ (done_of HT_.out (by kernel_rfl)) ?_
   try go_wp2
   go_roundg k1
   case measure => have := HK1.out; omega
   case rel => exact ⟨(wrap64 (x3_1 + 1)), (by first | rfl | (simp; done) | (simp [*]; done)), H', ⟨by have := HK1.out; omega⟩, ⟨by (with_reducible repeat (first | refine blk_drewN ?_ _ | refine blk_drew ?_ | refine blk_alloc ?_ _)); exact BK387.out⟩, ⟨by repeat (first | (with_reducible first | exact HB.out | apply below_alloc | apply pw_below_drewN | apply below_drew1 | refine below_set ?_ GE387.out) | exact HB.out)⟩⟩
end Go.Proofs.Ytmmjpieafbjggaa.P
end
section
namespace Go.Proofs.Ytmmjpieafbjggaa.P
open Go.RowKit Go.Proofs.YtmmjpieafbjggaaW.PrintWords Go.Proofs.YtmmjpieafbjggaaW.PrintLast Go.Proofs.YtmmjpieafbjggaaW.PrintMore
attribute [local go_sem] max2_int min2_int max_two min_two max_three min_three max_four min_four   -- for this text's walks alone
attribute [local go_sem] x_str_gtr x_str_leq x_str_geq ext_bits ext_frombits ext_neg x_store_float Instr.field asAgg
set_option linter.unusedVariables false
set_option linter.unusedSimpArgs false
def engrosslaw10_Of.f (a0_0 : ByteArray) (a0_1 : Int) (a0_2 : Nat) (a0_3 : ByteArray) (a0_4 : Int) (a0_5 : Int) (a0_6 : Nat) (a0_7 : ByteArray) : Option (ByteArray × Int × Nat × ByteArray × Int × Int × Nat × ByteArray) := some (a0_0, a0_1, a0_2, a0_3, a0_4, a0_5, a0_6, a0_7)
set_option maxHeartbeats 8000000 in
set_option maxRecDepth 100000 in
theorem engrosslaw10_Of.calls (a0_0 : ByteArray) (a0_1 : Int) (a0_2 : Nat) (a0_3 : ByteArray) (a0_4 : Int) (a0_5 : Int) (a0_6 : Nat) (a0_7 : ByteArray) (r1 : ByteArray) (r2 : Int) (r3 : Nat) (r4 : ByteArray) (r5 : Int) (r6 : Int) (r7 : Nat) (r8 : ByteArray) (w : World) (h : engrosslaw10_Of.f a0_0 a0_1 a0_2 a0_3 a0_4 a0_5 a0_6 a0_7 = some (r1, r2, r3, r4, r5, r6, r7, r8)) :
  Calls Try.prog 35 #[.agg #[.string a0_0, .int .i64 a0_1, .float .f64 a0_2, .string a0_3, .int .i64 a0_4, .int .i64 a0_5, .float .f64 a0_6, .string a0_7]] w fun e w' => e = .returned (.agg #[.string r1, .int .i64 r2, .float .f64 r3, .string r4, .int .i64 r5, .int .i64 r6, .float .f64 r7, .string r8]) ∧ Below w.heap.size w w' := by
 have hu56 := Try.underlying56
 have hu62 := Try.underlying62
 have hu54 := Try.underlying54
 have HB := Aside0.mk (Below.refl w.heap.size w)
 have H : (some (a0_0, a0_1, a0_2, a0_3, a0_4, a0_5, a0_6, a0_7)) = some (r1, r2, r3, r4, r5, r6, r7, r8) := h
 clear h
 simp only [Option.some.injEq, Prod.mk.injEq] at H
 obtain ⟨rfl, rfl, rfl, rfl, rfl, rfl, rfl, rfl⟩ := H
 go_enter Try.func35, Try.ntmps35
 go_wp2_with (first | ((with_reducible refine gate_dst (N := 1) rfl ?_); refine box_event ?hg (N := 1) ?hd (cs := #[.string a0_0, .int .i64 a0_1, .float .f64 a0_2, .string a0_3, .int .i64 a0_4, .int .i64 a0_5, .float .f64 a0_6, .string a0_7]) (t := 56) ?hr ?_; (case hd => rfl); (case hg => rfl); (case hr => first | (go_simp; done) | (go_simp; rfl)); intro gb495 hg w2 hbox hb; have BK495 := Aside0.mk (hbox); have GW495 := bZ HB hg; have GE495 := bZ HB hg; replace HB := bW HB hb; clear hb hbox hg) | ((with_reducible refine gate_dst (N := 2) rfl ?_); refine box_event ?hg (N := 2) ?hd (cs := #[.string (⟨#[]⟩ : ByteArray), .int .i64 0, .float .f64 0, .string (⟨#[]⟩ : ByteArray), .int .i64 0, .int .i64 0, .float .f64 0, .string (⟨#[]⟩ : ByteArray)]) (t := 62) ?hr ?_; (case hd => rfl); (case hg => rfl); (case hr => first | (go_simp; done) | (go_simp; rfl)); intro gb496 hg w3 hbox hb; have BK496 := Aside0.mk (hbox); have GW496 := bZ HB hg; have GE496 := bZ HB hg; have NB495_496 := bL BK495 hg; have NB496_495 := bG BK495 hg; replace BK495 := bB BK495 hb; replace HB := bW HB hb; clear hb hbox hg; have hnb4 := NB495_496.out; have hnc4 := NB496_495.out; obtain ⟨hcz5_0, hcz5_1, hcz5_2, hcz5_3, hcz5_4, hcz5_5, hcz5_6, hcz5_7, hfz5_0, hfz5_1, hfz5_2, hfz5_3, hfz5_4, hfz5_5, hfz5_6, hfz5_7⟩ := bf8 (w := w3) BK495; obtain ⟨hcz6_0, hcz6_1, hcz6_2, hcz6_3, hcz6_4, hcz6_5, hcz6_6, hcz6_7, hfz6_0, hfz6_1, hfz6_2, hfz6_3, hfz6_4, hfz6_5, hfz6_6, hfz6_7⟩ := bf8 (w := w3) BK496))
 refine bodyPost_ret (results_cell_row rfl _ _ gb496 62 #[.string a0_0, .int .i64 a0_1, .float .f64 a0_2, .string a0_3, .int .i64 a0_4, .int .i64 a0_5, .float .f64 a0_6, .string a0_7] (0, 0) _ rfl (bR BK496) Try.underlying62 rfl (by kernel_rfl)) rfl ?_
 exact xB HB
end Go.Proofs.Ytmmjpieafbjggaa.P
end
