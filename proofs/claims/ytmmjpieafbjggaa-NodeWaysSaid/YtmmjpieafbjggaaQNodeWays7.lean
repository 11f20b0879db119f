/- The law NodeWays returns true for every input: the words, the walks and the plain statement that its row needs. No condition. (Merged by a program of this session out of its own texts.) -/
import Derived.ArgAppend
import Derived.Below
import Derived.BigQuiet
import Derived.Deep.AppendLies
import Derived.Deep.CutBlock
import Derived.Deep.DeepCutAuto
import Derived.Deep.Draws
import Derived.Deep.LoopGhost
import Derived.Deep.OwnRows
import Derived.Deep.QuietTactic
import Derived.Deep.RegionHeld3
import Derived.KernelRfl
import Derived.Laws.BitsLemmas
import Derived.Laws.BytesArg
import Derived.Laws.Cover2
import Derived.Laws.Externs
import Derived.Laws.FloatArith
import Derived.Laws.IdiomCopy
import Derived.Laws.MakeOwn
import Derived.Laws.OwnMore
import Derived.Laws.Rows
import Derived.Laws.Slices
import Derived.Laws.StructEq
import Derived.Lib.AppendStr
import Derived.Lib.ConvBytes
import Derived.Maps.AppendAt
import Derived.OrdersHeld
import Derived.OwnWalk
import Derived.RowKit
import Derived.RowKit3
import Derived.Tactics
import Derived.Test.YtmmjpieafbjggaaProg
import Derived.WalkKit
import Derived.WideLaws
import Derived.Test.YtmmjpieafbjggaaQNodeWays4
import Derived.Test.YtmmjpieafbjggaaQNodeWays5
import Derived.Test.YtmmjpieafbjggaaQNodeWays6
section
namespace Go.Proofs.Ytmmjpieafbjggaa.P
open Go.RowKit Go.Proofs.YtmmjpieafbjggaaW.PrintWords Go.Proofs.YtmmjpieafbjggaaW.PrintLast Go.Proofs.YtmmjpieafbjggaaW.PrintMore
attribute [local go_sem] max2_int min2_int max_two min_two max_three min_three max_four min_four   -- for this text's walks alone
attribute [local go_sem] x_str_gtr x_str_leq x_str_geq ext_bits ext_frombits ext_neg x_store_float Instr.field asAgg
set_option linter.unusedVariables false
set_option linter.unusedSimpArgs false
def engrosslaw11_begun.f (k : Nat)  : Option (Bool) := (some (([(⟨(⟨#[97]⟩ : ByteArray), (⟨1, 4607182418800017408, (⟨#[]⟩ : ByteArray)⟩ : S54), 0, (⟨0, 0, (⟨#[]⟩ : ByteArray)⟩ : S54)⟩ : S62)] : List (S62)) : List (S62))).bind fun y285 => ((some (([(⟨#[107]⟩ : ByteArray)] : List ByteArray) : List ByteArray)).bind fun y289 => ((some (([2, 3] : List Int) : List Int)).bind fun y292 => ((node_Encode.f k true y285 ([] : List ByteArray) ([] : List Int)).bind fun bt296 => ((node_Encode.f k false ([] : List (S62)) y289 y292).bind fun bt300 => ((node_Decode.f k bt300.1).bind fun bt304 => (if 256 ≤ 281474976710656 then ((node_Decode.f k (List.replicate 256 0)).bind fun bt319 => ((node_May.f k true y285 ([] : List ByteArray) ([] : List Int)).bind fun t331 => (if t331 = true then ((node_May.f k false ([] : List (S62)) y289 y292).bind fun t332 => (if t332 = true then ((node_May.f k false ([] : List (S62)) ([] : List ByteArray) ([] : List Int)).bind fun t333 => (if t333 = true then (none) else (if bt296.2 = 0 then (if bt300.2 = 0 then (if (bt296.1.length : Int) = 256 then (if 0 < (bt296.1.length : Int) then (if (rd bt296.1 0) = 1 then (if bt304.2.2.2.2 = 0 then (if (bt304.2.2.2.1.length : Int) = 2 then (if bt319.2.2.2.2 = 8 then ((node_Kid.f k false ([] : List (S62)) y289 y292 (⟨#[107]⟩ : ByteArray)).bind fun t335 => (if t335 = 1 then ((node_Kid.f k false ([] : List (S62)) y289 y292 (⟨#[106]⟩ : ByteArray)).bind fun t336 => (if t336 = 0 then ((node_Kid.f k true y285 ([] : List ByteArray) ([] : List Int) (⟨#[106]⟩ : ByteArray)).bind fun t337 => (if t337 = (-1) then ((node_Size.f k true y285 ([] : List ByteArray) ([] : List Int)).bind fun t338 => (some (decide (t338 > 10)))) else (none))) else (none))) else (none))) else (none)) else (none)) else (none)) else (none)) else (none)) else (none)) else (none)) else (none)))) else (none))) else (none)))) else (none)))))))
theorem engrosslaw11_begun.mono : ∀ k, LeO (engrosslaw11_begun.f k ) (engrosslaw11_begun.f (k + 1) ) := by
 intro  k
 unfold engrosslaw11_begun.f
 repeat' first
   | (with_reducible exact node_Decode.mono _ _)
   | (with_reducible exact node_Encode.mono _ _ _ _ _)
   | (with_reducible exact node_Kid.mono _ _ _ _ _ _)
   | (with_reducible exact node_May.mono _ _ _ _ _)
   | (with_reducible exact node_Size.mono _ _ _ _ _)
   | (with_reducible exact LeO.refl _)
   | (with_reducible exact LeO.none _)
   | (with_reducible refine LeO.ite ?_ ?_)
   | (with_reducible refine LeO.bind ?_ (fun _ => ?_))
   | exact node_Decode.mono _ _
   | exact node_Encode.mono _ _ _ _ _
   | exact node_Kid.mono _ _ _ _ _ _
   | exact node_May.mono _ _ _ _ _
   | exact node_Size.mono _ _ _ _ _
   | exact LeO.none _
   | refine LeO.ite ?_ ?_
   | refine LeO.bind ?_ (fun _ => ?_)
set_option maxHeartbeats 8000000 in
set_option maxRecDepth 100000 in
theorem engrosslaw11_begun.calls (k : Nat)  (r : Bool) (w : World) (h : engrosslaw11_begun.f k  = some r) :
  Calls Try.prog 11 #[] w fun e w' => e = .returned (.bool r) ∧ Below w.heap.size w w' := by
 have hu54 := Try.underlying54
 have hu62 := Try.underlying62
 have hu36 := Try.underlying36
 have HB := Aside0.mk (Below.refl w.heap.size w)
 have H : ((some (([(⟨(⟨#[97]⟩ : ByteArray), (⟨1, 4607182418800017408, (⟨#[]⟩ : ByteArray)⟩ : S54), 0, (⟨0, 0, (⟨#[]⟩ : ByteArray)⟩ : S54)⟩ : S62)] : List (S62)) : List (S62))).bind fun y285 => ((some (([(⟨#[107]⟩ : ByteArray)] : List ByteArray) : List ByteArray)).bind fun y289 => ((some (([2, 3] : List Int) : List Int)).bind fun y292 => ((node_Encode.f k true y285 ([] : List ByteArray) ([] : List Int)).bind fun bt296 => ((node_Encode.f k false ([] : List (S62)) y289 y292).bind fun bt300 => ((node_Decode.f k bt300.1).bind fun bt304 => (if 256 ≤ 281474976710656 then ((node_Decode.f k (List.replicate 256 0)).bind fun bt319 => ((node_May.f k true y285 ([] : List ByteArray) ([] : List Int)).bind fun t331 => (if t331 = true then ((node_May.f k false ([] : List (S62)) y289 y292).bind fun t332 => (if t332 = true then ((node_May.f k false ([] : List (S62)) ([] : List ByteArray) ([] : List Int)).bind fun t333 => (if t333 = true then (none) else (if bt296.2 = 0 then (if bt300.2 = 0 then (if (bt296.1.length : Int) = 256 then (if 0 < (bt296.1.length : Int) then (if (rd bt296.1 0) = 1 then (if bt304.2.2.2.2 = 0 then (if (bt304.2.2.2.1.length : Int) = 2 then (if bt319.2.2.2.2 = 8 then ((node_Kid.f k false ([] : List (S62)) y289 y292 (⟨#[107]⟩ : ByteArray)).bind fun t335 => (if t335 = 1 then ((node_Kid.f k false ([] : List (S62)) y289 y292 (⟨#[106]⟩ : ByteArray)).bind fun t336 => (if t336 = 0 then ((node_Kid.f k true y285 ([] : List ByteArray) ([] : List Int) (⟨#[106]⟩ : ByteArray)).bind fun t337 => (if t337 = (-1) then ((node_Size.f k true y285 ([] : List ByteArray) ([] : List Int)).bind fun t338 => (some (decide (t338 > 10)))) else (none))) else (none))) else (none))) else (none)) else (none)) else (none)) else (none)) else (none)) else (none)) else (none)) else (none)))) else (none))) else (none)))) else (none)))))))) = some r := h
 clear h
 obtain ⟨y285, hy285⟩ : ∃ y_ : List (S62), y_ = (([(⟨(⟨#[97]⟩ : ByteArray), (⟨1, 4607182418800017408, (⟨#[]⟩ : ByteArray)⟩ : S54), 0, (⟨0, 0, (⟨#[]⟩ : ByteArray)⟩ : S54)⟩ : S62)] : List (S62))) := ⟨_, rfl⟩
 replace H : ((some (([(⟨#[107]⟩ : ByteArray)] : List ByteArray) : List ByteArray)).bind fun y289 => ((some (([2, 3] : List Int) : List Int)).bind fun y292 => ((node_Encode.f k true y285 ([] : List ByteArray) ([] : List Int)).bind fun bt296 => ((node_Encode.f k false ([] : List (S62)) y289 y292).bind fun bt300 => ((node_Decode.f k bt300.1).bind fun bt304 => (if 256 ≤ 281474976710656 then ((node_Decode.f k (List.replicate 256 0)).bind fun bt319 => ((node_May.f k true y285 ([] : List ByteArray) ([] : List Int)).bind fun t331 => (if t331 = true then ((node_May.f k false ([] : List (S62)) y289 y292).bind fun t332 => (if t332 = true then ((node_May.f k false ([] : List (S62)) ([] : List ByteArray) ([] : List Int)).bind fun t333 => (if t333 = true then (none) else (if bt296.2 = 0 then (if bt300.2 = 0 then (if (bt296.1.length : Int) = 256 then (if 0 < (bt296.1.length : Int) then (if (rd bt296.1 0) = 1 then (if bt304.2.2.2.2 = 0 then (if (bt304.2.2.2.1.length : Int) = 2 then (if bt319.2.2.2.2 = 8 then ((node_Kid.f k false ([] : List (S62)) y289 y292 (⟨#[107]⟩ : ByteArray)).bind fun t335 => (if t335 = 1 then ((node_Kid.f k false ([] : List (S62)) y289 y292 (⟨#[106]⟩ : ByteArray)).bind fun t336 => (if t336 = 0 then ((node_Kid.f k true y285 ([] : List ByteArray) ([] : List Int) (⟨#[106]⟩ : ByteArray)).bind fun t337 => (if t337 = (-1) then ((node_Size.f k true y285 ([] : List ByteArray) ([] : List Int)).bind fun t338 => (some (decide (t338 > 10)))) else (none))) else (none))) else (none))) else (none)) else (none)) else (none)) else (none)) else (none)) else (none)) else (none)) else (none)))) else (none))) else (none)))) else (none))))))) = some r := by first | (rw [hy285]; with_reducible exact H) | (have H2_ := (Option.bind_some _ _).symm.trans H; rw [hy285]; with_reducible exact H2_) | (have H2_ := (Option.bind_some _ _).symm.trans H; with_reducible exact H2_) | with_reducible exact H | (rw [hy285]; exact H) | exact H
 have Ny285 := Aside0.mk hy285
 clear hy285
 obtain ⟨y289, hy289⟩ : ∃ y_ : List ByteArray, y_ = (([(⟨#[107]⟩ : ByteArray)] : List ByteArray)) := ⟨_, rfl⟩
 replace H : ((some (([2, 3] : List Int) : List Int)).bind fun y292 => ((node_Encode.f k true y285 ([] : List ByteArray) ([] : List Int)).bind fun bt296 => ((node_Encode.f k false ([] : List (S62)) y289 y292).bind fun bt300 => ((node_Decode.f k bt300.1).bind fun bt304 => (if 256 ≤ 281474976710656 then ((node_Decode.f k (List.replicate 256 0)).bind fun bt319 => ((node_May.f k true y285 ([] : List ByteArray) ([] : List Int)).bind fun t331 => (if t331 = true then ((node_May.f k false ([] : List (S62)) y289 y292).bind fun t332 => (if t332 = true then ((node_May.f k false ([] : List (S62)) ([] : List ByteArray) ([] : List Int)).bind fun t333 => (if t333 = true then (none) else (if bt296.2 = 0 then (if bt300.2 = 0 then (if (bt296.1.length : Int) = 256 then (if 0 < (bt296.1.length : Int) then (if (rd bt296.1 0) = 1 then (if bt304.2.2.2.2 = 0 then (if (bt304.2.2.2.1.length : Int) = 2 then (if bt319.2.2.2.2 = 8 then ((node_Kid.f k false ([] : List (S62)) y289 y292 (⟨#[107]⟩ : ByteArray)).bind fun t335 => (if t335 = 1 then ((node_Kid.f k false ([] : List (S62)) y289 y292 (⟨#[106]⟩ : ByteArray)).bind fun t336 => (if t336 = 0 then ((node_Kid.f k true y285 ([] : List ByteArray) ([] : List Int) (⟨#[106]⟩ : ByteArray)).bind fun t337 => (if t337 = (-1) then ((node_Size.f k true y285 ([] : List ByteArray) ([] : List Int)).bind fun t338 => (some (decide (t338 > 10)))) else (none))) else (none))) else (none))) else (none)) else (none)) else (none)) else (none)) else (none)) else (none)) else (none)) else (none)))) else (none))) else (none)))) else (none)))))) = some r := by first | (rw [hy289]; with_reducible exact H) | (have H2_ := (Option.bind_some _ _).symm.trans H; rw [hy289]; with_reducible exact H2_) | (have H2_ := (Option.bind_some _ _).symm.trans H; with_reducible exact H2_) | with_reducible exact H | (rw [hy289]; exact H) | exact H
 have Ny289 := Aside0.mk hy289
 clear hy289
 obtain ⟨y292, hy292⟩ : ∃ y_ : List Int, y_ = (([2, 3] : List Int)) := ⟨_, rfl⟩
 replace H : ((node_Encode.f k true y285 ([] : List ByteArray) ([] : List Int)).bind fun bt296 => ((node_Encode.f k false ([] : List (S62)) y289 y292).bind fun bt300 => ((node_Decode.f k bt300.1).bind fun bt304 => (if 256 ≤ 281474976710656 then ((node_Decode.f k (List.replicate 256 0)).bind fun bt319 => ((node_May.f k true y285 ([] : List ByteArray) ([] : List Int)).bind fun t331 => (if t331 = true then ((node_May.f k false ([] : List (S62)) y289 y292).bind fun t332 => (if t332 = true then ((node_May.f k false ([] : List (S62)) ([] : List ByteArray) ([] : List Int)).bind fun t333 => (if t333 = true then (none) else (if bt296.2 = 0 then (if bt300.2 = 0 then (if (bt296.1.length : Int) = 256 then (if 0 < (bt296.1.length : Int) then (if (rd bt296.1 0) = 1 then (if bt304.2.2.2.2 = 0 then (if (bt304.2.2.2.1.length : Int) = 2 then (if bt319.2.2.2.2 = 8 then ((node_Kid.f k false ([] : List (S62)) y289 y292 (⟨#[107]⟩ : ByteArray)).bind fun t335 => (if t335 = 1 then ((node_Kid.f k false ([] : List (S62)) y289 y292 (⟨#[106]⟩ : ByteArray)).bind fun t336 => (if t336 = 0 then ((node_Kid.f k true y285 ([] : List ByteArray) ([] : List Int) (⟨#[106]⟩ : ByteArray)).bind fun t337 => (if t337 = (-1) then ((node_Size.f k true y285 ([] : List ByteArray) ([] : List Int)).bind fun t338 => (some (decide (t338 > 10)))) else (none))) else (none))) else (none))) else (none)) else (none)) else (none)) else (none)) else (none)) else (none)) else (none)) else (none)))) else (none))) else (none)))) else (none))))) = some r := by first | (rw [hy292]; with_reducible exact H) | (have H2_ := (Option.bind_some _ _).symm.trans H; rw [hy292]; with_reducible exact H2_) | (have H2_ := (Option.bind_some _ _).symm.trans H; with_reducible exact H2_) | with_reducible exact H | (rw [hy292]; exact H) | exact H
 have Ny292 := Aside0.mk hy292
 clear hy292
 replace H := Option.bind_eq_some_iff.mp H
 obtain ⟨⟨t296, t299⟩, A10, H⟩ := H
 replace H : ((node_Encode.f k false ([] : List (S62)) y289 y292).bind fun bt300 => ((node_Decode.f k bt300.1).bind fun bt304 => (if 256 ≤ 281474976710656 then ((node_Decode.f k (List.replicate 256 0)).bind fun bt319 => ((node_May.f k true y285 ([] : List ByteArray) ([] : List Int)).bind fun t331 => (if t331 = true then ((node_May.f k false ([] : List (S62)) y289 y292).bind fun t332 => (if t332 = true then ((node_May.f k false ([] : List (S62)) ([] : List ByteArray) ([] : List Int)).bind fun t333 => (if t333 = true then (none) else (if t299 = 0 then (if bt300.2 = 0 then (if (t296.length : Int) = 256 then (if 0 < (t296.length : Int) then (if (rd t296 0) = 1 then (if bt304.2.2.2.2 = 0 then (if (bt304.2.2.2.1.length : Int) = 2 then (if bt319.2.2.2.2 = 8 then ((node_Kid.f k false ([] : List (S62)) y289 y292 (⟨#[107]⟩ : ByteArray)).bind fun t335 => (if t335 = 1 then ((node_Kid.f k false ([] : List (S62)) y289 y292 (⟨#[106]⟩ : ByteArray)).bind fun t336 => (if t336 = 0 then ((node_Kid.f k true y285 ([] : List ByteArray) ([] : List Int) (⟨#[106]⟩ : ByteArray)).bind fun t337 => (if t337 = (-1) then ((node_Size.f k true y285 ([] : List ByteArray) ([] : List Int)).bind fun t338 => (some (decide (t338 > 10)))) else (none))) else (none))) else (none))) else (none)) else (none)) else (none)) else (none)) else (none)) else (none)) else (none)) else (none)))) else (none))) else (none)))) else (none)))) = some r := H
 have A1 := Aside0.mk A10
 clear A10
 replace H := Option.bind_eq_some_iff.mp H
 obtain ⟨⟨t300, t303⟩, A20, H⟩ := H
 replace H : ((node_Decode.f k t300).bind fun bt304 => (if 256 ≤ 281474976710656 then ((node_Decode.f k (List.replicate 256 0)).bind fun bt319 => ((node_May.f k true y285 ([] : List ByteArray) ([] : List Int)).bind fun t331 => (if t331 = true then ((node_May.f k false ([] : List (S62)) y289 y292).bind fun t332 => (if t332 = true then ((node_May.f k false ([] : List (S62)) ([] : List ByteArray) ([] : List Int)).bind fun t333 => (if t333 = true then (none) else (if t299 = 0 then (if t303 = 0 then (if (t296.length : Int) = 256 then (if 0 < (t296.length : Int) then (if (rd t296 0) = 1 then (if bt304.2.2.2.2 = 0 then (if (bt304.2.2.2.1.length : Int) = 2 then (if bt319.2.2.2.2 = 8 then ((node_Kid.f k false ([] : List (S62)) y289 y292 (⟨#[107]⟩ : ByteArray)).bind fun t335 => (if t335 = 1 then ((node_Kid.f k false ([] : List (S62)) y289 y292 (⟨#[106]⟩ : ByteArray)).bind fun t336 => (if t336 = 0 then ((node_Kid.f k true y285 ([] : List ByteArray) ([] : List Int) (⟨#[106]⟩ : ByteArray)).bind fun t337 => (if t337 = (-1) then ((node_Size.f k true y285 ([] : List ByteArray) ([] : List Int)).bind fun t338 => (some (decide (t338 > 10)))) else (none))) else (none))) else (none))) else (none)) else (none)) else (none)) else (none)) else (none)) else (none)) else (none)) else (none)))) else (none))) else (none)))) else (none))) = some r := H
 have A2 := Aside0.mk A20
 clear A20
 replace H := Option.bind_eq_some_iff.mp H
 obtain ⟨⟨t304, t305, t308, t311, t314⟩, A30, H⟩ := H
 replace H : (if 256 ≤ 281474976710656 then ((node_Decode.f k (List.replicate 256 0)).bind fun bt319 => ((node_May.f k true y285 ([] : List ByteArray) ([] : List Int)).bind fun t331 => (if t331 = true then ((node_May.f k false ([] : List (S62)) y289 y292).bind fun t332 => (if t332 = true then ((node_May.f k false ([] : List (S62)) ([] : List ByteArray) ([] : List Int)).bind fun t333 => (if t333 = true then (none) else (if t299 = 0 then (if t303 = 0 then (if (t296.length : Int) = 256 then (if 0 < (t296.length : Int) then (if (rd t296 0) = 1 then (if t314 = 0 then (if (t311.length : Int) = 2 then (if bt319.2.2.2.2 = 8 then ((node_Kid.f k false ([] : List (S62)) y289 y292 (⟨#[107]⟩ : ByteArray)).bind fun t335 => (if t335 = 1 then ((node_Kid.f k false ([] : List (S62)) y289 y292 (⟨#[106]⟩ : ByteArray)).bind fun t336 => (if t336 = 0 then ((node_Kid.f k true y285 ([] : List ByteArray) ([] : List Int) (⟨#[106]⟩ : ByteArray)).bind fun t337 => (if t337 = (-1) then ((node_Size.f k true y285 ([] : List ByteArray) ([] : List Int)).bind fun t338 => (some (decide (t338 > 10)))) else (none))) else (none))) else (none))) else (none)) else (none)) else (none)) else (none)) else (none)) else (none)) else (none)) else (none)))) else (none))) else (none)))) else (none)) = some r := H
 have A3 := Aside0.mk A30
 clear A30
 by_cases c4 : 256 ≤ 281474976710656
 ·rw [if_pos c4] at H
  have c4b0 := eq_true c4
  have c4b1 : decide (256 ≤ 281474976710656) = true := decide_eq_true c4
  clear c4
  obtain ⟨y316, hy316⟩ : ∃ y_ : List Int, y_ = (List.replicate 256 0) := ⟨_, rfl⟩
  replace H : ((node_Decode.f k y316).bind fun bt319 => ((node_May.f k true y285 ([] : List ByteArray) ([] : List Int)).bind fun t331 => (if t331 = true then ((node_May.f k false ([] : List (S62)) y289 y292).bind fun t332 => (if t332 = true then ((node_May.f k false ([] : List (S62)) ([] : List ByteArray) ([] : List Int)).bind fun t333 => (if t333 = true then (none) else (if t299 = 0 then (if t303 = 0 then (if (t296.length : Int) = 256 then (if 0 < (t296.length : Int) then (if (rd t296 0) = 1 then (if t314 = 0 then (if (t311.length : Int) = 2 then (if bt319.2.2.2.2 = 8 then ((node_Kid.f k false ([] : List (S62)) y289 y292 (⟨#[107]⟩ : ByteArray)).bind fun t335 => (if t335 = 1 then ((node_Kid.f k false ([] : List (S62)) y289 y292 (⟨#[106]⟩ : ByteArray)).bind fun t336 => (if t336 = 0 then ((node_Kid.f k true y285 ([] : List ByteArray) ([] : List Int) (⟨#[106]⟩ : ByteArray)).bind fun t337 => (if t337 = (-1) then ((node_Size.f k true y285 ([] : List ByteArray) ([] : List Int)).bind fun t338 => (some (decide (t338 > 10)))) else (none))) else (none))) else (none))) else (none)) else (none)) else (none)) else (none)) else (none)) else (none)) else (none)) else (none)))) else (none))) else (none)))) = some r := by first | (rw [hy316]; with_reducible exact H) | (have H2_ := (Option.bind_some _ _).symm.trans H; rw [hy316]; with_reducible exact H2_) | (have H2_ := (Option.bind_some _ _).symm.trans H; with_reducible exact H2_) | with_reducible exact H | (rw [hy316]; exact H) | exact H
  have Ny316 := Aside0.mk hy316
  clear hy316
  replace H := Option.bind_eq_some_iff.mp H
  obtain ⟨⟨t319, t320, t323, t326, t329⟩, A50, H⟩ := H
  replace H : ((node_May.f k true y285 ([] : List ByteArray) ([] : List Int)).bind fun t331 => (if t331 = true then ((node_May.f k false ([] : List (S62)) y289 y292).bind fun t332 => (if t332 = true then ((node_May.f k false ([] : List (S62)) ([] : List ByteArray) ([] : List Int)).bind fun t333 => (if t333 = true then (none) else (if t299 = 0 then (if t303 = 0 then (if (t296.length : Int) = 256 then (if 0 < (t296.length : Int) then (if (rd t296 0) = 1 then (if t314 = 0 then (if (t311.length : Int) = 2 then (if t329 = 8 then ((node_Kid.f k false ([] : List (S62)) y289 y292 (⟨#[107]⟩ : ByteArray)).bind fun t335 => (if t335 = 1 then ((node_Kid.f k false ([] : List (S62)) y289 y292 (⟨#[106]⟩ : ByteArray)).bind fun t336 => (if t336 = 0 then ((node_Kid.f k true y285 ([] : List ByteArray) ([] : List Int) (⟨#[106]⟩ : ByteArray)).bind fun t337 => (if t337 = (-1) then ((node_Size.f k true y285 ([] : List ByteArray) ([] : List Int)).bind fun t338 => (some (decide (t338 > 10)))) else (none))) else (none))) else (none))) else (none)) else (none)) else (none)) else (none)) else (none)) else (none)) else (none)) else (none)))) else (none))) else (none))) = some r := H
  have A5 := Aside0.mk A50
  clear A50
  replace H := Option.bind_eq_some_iff.mp H
  obtain ⟨t331, A60, H⟩ := H
  replace H : (if t331 = true then ((node_May.f k false ([] : List (S62)) y289 y292).bind fun t332 => (if t332 = true then ((node_May.f k false ([] : List (S62)) ([] : List ByteArray) ([] : List Int)).bind fun t333 => (if t333 = true then (none) else (if t299 = 0 then (if t303 = 0 then (if (t296.length : Int) = 256 then (if 0 < (t296.length : Int) then (if (rd t296 0) = 1 then (if t314 = 0 then (if (t311.length : Int) = 2 then (if t329 = 8 then ((node_Kid.f k false ([] : List (S62)) y289 y292 (⟨#[107]⟩ : ByteArray)).bind fun t335 => (if t335 = 1 then ((node_Kid.f k false ([] : List (S62)) y289 y292 (⟨#[106]⟩ : ByteArray)).bind fun t336 => (if t336 = 0 then ((node_Kid.f k true y285 ([] : List ByteArray) ([] : List Int) (⟨#[106]⟩ : ByteArray)).bind fun t337 => (if t337 = (-1) then ((node_Size.f k true y285 ([] : List ByteArray) ([] : List Int)).bind fun t338 => (some (decide (t338 > 10)))) else (none))) else (none))) else (none))) else (none)) else (none)) else (none)) else (none)) else (none)) else (none)) else (none)) else (none)))) else (none))) else (none)) = some r := H
  have A6 := Aside0.mk A60
  clear A60
  by_cases c7 : t331 = true
  ·subst c7
   have H1 : ((node_May.f k false ([] : List (S62)) y289 y292).bind fun t332 => (if t332 = true then ((node_May.f k false ([] : List (S62)) ([] : List ByteArray) ([] : List Int)).bind fun t333 => (if t333 = true then (none) else (if t299 = 0 then (if t303 = 0 then (if (t296.length : Int) = 256 then (if 0 < (t296.length : Int) then (if (rd t296 0) = 1 then (if t314 = 0 then (if (t311.length : Int) = 2 then (if t329 = 8 then ((node_Kid.f k false ([] : List (S62)) y289 y292 (⟨#[107]⟩ : ByteArray)).bind fun t335 => (if t335 = 1 then ((node_Kid.f k false ([] : List (S62)) y289 y292 (⟨#[106]⟩ : ByteArray)).bind fun t336 => (if t336 = 0 then ((node_Kid.f k true y285 ([] : List ByteArray) ([] : List Int) (⟨#[106]⟩ : ByteArray)).bind fun t337 => (if t337 = (-1) then ((node_Size.f k true y285 ([] : List ByteArray) ([] : List Int)).bind fun t338 => (some (decide (t338 > 10)))) else (none))) else (none))) else (none))) else (none)) else (none)) else (none)) else (none)) else (none)) else (none)) else (none)) else (none)))) else (none))) = some r := by rw [if_pos rfl] at H; exact H
   clear H
   have H := H1
   clear H1
   replace H := Option.bind_eq_some_iff.mp H
   obtain ⟨t332, A80, H⟩ := H
   replace H : (if t332 = true then ((node_May.f k false ([] : List (S62)) ([] : List ByteArray) ([] : List Int)).bind fun t333 => (if t333 = true then (none) else (if t299 = 0 then (if t303 = 0 then (if (t296.length : Int) = 256 then (if 0 < (t296.length : Int) then (if (rd t296 0) = 1 then (if t314 = 0 then (if (t311.length : Int) = 2 then (if t329 = 8 then ((node_Kid.f k false ([] : List (S62)) y289 y292 (⟨#[107]⟩ : ByteArray)).bind fun t335 => (if t335 = 1 then ((node_Kid.f k false ([] : List (S62)) y289 y292 (⟨#[106]⟩ : ByteArray)).bind fun t336 => (if t336 = 0 then ((node_Kid.f k true y285 ([] : List ByteArray) ([] : List Int) (⟨#[106]⟩ : ByteArray)).bind fun t337 => (if t337 = (-1) then ((node_Size.f k true y285 ([] : List ByteArray) ([] : List Int)).bind fun t338 => (some (decide (t338 > 10)))) else (none))) else (none))) else (none))) else (none)) else (none)) else (none)) else (none)) else (none)) else (none)) else (none)) else (none)))) else (none)) = some r := H
   have A8 := Aside0.mk A80
   clear A80
   by_cases c9 : t332 = true
   ·subst c9
    have H1 : ((node_May.f k false ([] : List (S62)) ([] : List ByteArray) ([] : List Int)).bind fun t333 => (if t333 = true then (none) else (if t299 = 0 then (if t303 = 0 then (if (t296.length : Int) = 256 then (if 0 < (t296.length : Int) then (if (rd t296 0) = 1 then (if t314 = 0 then (if (t311.length : Int) = 2 then (if t329 = 8 then ((node_Kid.f k false ([] : List (S62)) y289 y292 (⟨#[107]⟩ : ByteArray)).bind fun t335 => (if t335 = 1 then ((node_Kid.f k false ([] : List (S62)) y289 y292 (⟨#[106]⟩ : ByteArray)).bind fun t336 => (if t336 = 0 then ((node_Kid.f k true y285 ([] : List ByteArray) ([] : List Int) (⟨#[106]⟩ : ByteArray)).bind fun t337 => (if t337 = (-1) then ((node_Size.f k true y285 ([] : List ByteArray) ([] : List Int)).bind fun t338 => (some (decide (t338 > 10)))) else (none))) else (none))) else (none))) else (none)) else (none)) else (none)) else (none)) else (none)) else (none)) else (none)) else (none)))) = some r := by rw [if_pos rfl] at H; exact H
    clear H
    have H := H1
    clear H1
    replace H := Option.bind_eq_some_iff.mp H
    obtain ⟨t333, A100, H⟩ := H
    replace H : (if t333 = true then (none) else (if t299 = 0 then (if t303 = 0 then (if (t296.length : Int) = 256 then (if 0 < (t296.length : Int) then (if (rd t296 0) = 1 then (if t314 = 0 then (if (t311.length : Int) = 2 then (if t329 = 8 then ((node_Kid.f k false ([] : List (S62)) y289 y292 (⟨#[107]⟩ : ByteArray)).bind fun t335 => (if t335 = 1 then ((node_Kid.f k false ([] : List (S62)) y289 y292 (⟨#[106]⟩ : ByteArray)).bind fun t336 => (if t336 = 0 then ((node_Kid.f k true y285 ([] : List ByteArray) ([] : List Int) (⟨#[106]⟩ : ByteArray)).bind fun t337 => (if t337 = (-1) then ((node_Size.f k true y285 ([] : List ByteArray) ([] : List Int)).bind fun t338 => (some (decide (t338 > 10)))) else (none))) else (none))) else (none))) else (none)) else (none)) else (none)) else (none)) else (none)) else (none)) else (none)) else (none))) = some r := H
    have A10 := Aside0.mk A100
    clear A100
    by_cases c11 : t333 = true
    ·subst c11
     have H1 : (none) = some r := by rw [if_pos rfl] at H; exact H
     clear H
     have H := H1
     clear H1
     exact absurd H (by simp)
    ·replace c11 := Bool.eq_false_iff.mpr c11
     subst c11
     have H1 : (if t299 = 0 then (if t303 = 0 then (if (t296.length : Int) = 256 then (if 0 < (t296.length : Int) then (if (rd t296 0) = 1 then (if t314 = 0 then (if (t311.length : Int) = 2 then (if t329 = 8 then ((node_Kid.f k false ([] : List (S62)) y289 y292 (⟨#[107]⟩ : ByteArray)).bind fun t335 => (if t335 = 1 then ((node_Kid.f k false ([] : List (S62)) y289 y292 (⟨#[106]⟩ : ByteArray)).bind fun t336 => (if t336 = 0 then ((node_Kid.f k true y285 ([] : List ByteArray) ([] : List Int) (⟨#[106]⟩ : ByteArray)).bind fun t337 => (if t337 = (-1) then ((node_Size.f k true y285 ([] : List ByteArray) ([] : List Int)).bind fun t338 => (some (decide (t338 > 10)))) else (none))) else (none))) else (none))) else (none)) else (none)) else (none)) else (none)) else (none)) else (none)) else (none)) else (none)) = some r := by rw [if_neg (show ¬ (false = true) by decide)] at H; exact H
     clear H
     have H := H1
     clear H1
     by_cases c12 : t299 = 0
     ·rw [if_pos c12] at H
      have c12b0 : (t299 == 0) = true := beq_iff_eq.mpr c12
      have c12b1 : (t299 != 0) = false := bne_eq_false_iff_eq.mpr c12
      clear c12
      by_cases c13 : t303 = 0
      ·rw [if_pos c13] at H
       have c13b0 : (t303 == 0) = true := beq_iff_eq.mpr c13
       have c13b1 : (t303 != 0) = false := bne_eq_false_iff_eq.mpr c13
       clear c13
       by_cases c14 : (t296.length : Int) = 256
       ·rw [if_pos c14] at H
        have c14b0 : ((t296.length : Int) == 256) = true := beq_iff_eq.mpr c14
        have c14b1 : ((t296.length : Int) != 256) = false := bne_eq_false_iff_eq.mpr c14
        clear c14
        by_cases c15 : 0 < (t296.length : Int)
        ·rw [if_pos c15] at H
         have c15b0 : decide (0 < (t296.length : Int)) = true := decide_eq_true c15
         have c15b1 : decide (0 < t296.length) = true := decide_eq_true (by omega)
         clear c15
         by_cases c16 : (rd t296 0) = 1
         ·rw [if_pos c16] at H
          have c16b0 : ((rd t296 0) == 1) = true := beq_iff_eq.mpr c16
          have c16b1 : ((rd t296 0) != 1) = false := bne_eq_false_iff_eq.mpr c16
          clear c16
          by_cases c17 : t314 = 0
          ·rw [if_pos c17] at H
           have c17b0 : (t314 == 0) = true := beq_iff_eq.mpr c17
           have c17b1 : (t314 != 0) = false := bne_eq_false_iff_eq.mpr c17
           clear c17
           by_cases c18 : (t311.length : Int) = 2
           ·rw [if_pos c18] at H
            have c18b0 : ((t311.length : Int) == 2) = true := beq_iff_eq.mpr c18
            have c18b1 : ((t311.length : Int) != 2) = false := bne_eq_false_iff_eq.mpr c18
            clear c18
            by_cases c19 : t329 = 8
            ·rw [if_pos c19] at H
             have c19b0 : (t329 == 8) = true := beq_iff_eq.mpr c19
             have c19b1 : (t329 != 8) = false := bne_eq_false_iff_eq.mpr c19
             clear c19
             replace H := Option.bind_eq_some_iff.mp H
             obtain ⟨t335, A200, H⟩ := H
             replace H : (if t335 = 1 then ((node_Kid.f k false ([] : List (S62)) y289 y292 (⟨#[106]⟩ : ByteArray)).bind fun t336 => (if t336 = 0 then ((node_Kid.f k true y285 ([] : List ByteArray) ([] : List Int) (⟨#[106]⟩ : ByteArray)).bind fun t337 => (if t337 = (-1) then ((node_Size.f k true y285 ([] : List ByteArray) ([] : List Int)).bind fun t338 => (some (decide (t338 > 10)))) else (none))) else (none))) else (none)) = some r := H
             have A20 := Aside0.mk A200
             clear A200
             by_cases c21 : t335 = 1
             ·rw [if_pos c21] at H
              have c21b0 : (t335 == 1) = true := beq_iff_eq.mpr c21
              have c21b1 : (t335 != 1) = false := bne_eq_false_iff_eq.mpr c21
              clear c21
              replace H := Option.bind_eq_some_iff.mp H
              obtain ⟨t336, A220, H⟩ := H
              replace H : (if t336 = 0 then ((node_Kid.f k true y285 ([] : List ByteArray) ([] : List Int) (⟨#[106]⟩ : ByteArray)).bind fun t337 => (if t337 = (-1) then ((node_Size.f k true y285 ([] : List ByteArray) ([] : List Int)).bind fun t338 => (some (decide (t338 > 10)))) else (none))) else (none)) = some r := H
              have A22 := Aside0.mk A220
              clear A220
              by_cases c23 : t336 = 0
              ·rw [if_pos c23] at H
               have c23b0 : (t336 == 0) = true := beq_iff_eq.mpr c23
               have c23b1 : (t336 != 0) = false := bne_eq_false_iff_eq.mpr c23
               clear c23
               replace H := Option.bind_eq_some_iff.mp H
               obtain ⟨t337, A240, H⟩ := H
               replace H : (if t337 = (-1) then ((node_Size.f k true y285 ([] : List ByteArray) ([] : List Int)).bind fun t338 => (some (decide (t338 > 10)))) else (none)) = some r := H
               have A24 := Aside0.mk A240
               clear A240
               by_cases c25 : t337 = (-1)
               ·rw [if_pos c25] at H
                have c25b0 : (t337 == (-1)) = true := beq_iff_eq.mpr c25
                have c25b1 : (t337 != (-1)) = false := bne_eq_false_iff_eq.mpr c25
                clear c25
                replace H := Option.bind_eq_some_iff.mp H
                obtain ⟨t338, A260, H⟩ := H
                replace H : (some (decide (t338 > 10))) = some r := H
                have A26 := Aside0.mk A260
                clear A260
                obtain rfl := Option.some.inj H
                go_enter Try.func11, Try.ntmps11
                go_wp2_with (first | ((with_reducible refine gate_dst (N := 13) rfl ?_); (try (refine gate_guard (by rfl) ?_; dsimp only)); refine Kd.R_lit k62 _ 62 ?hg (N := 13) ?hd (xs := ([(⟨(⟨#[97]⟩ : ByteArray), (⟨1, 4607182418800017408, (⟨#[]⟩ : ByteArray)⟩ : S54), 0, (⟨0, 0, (⟨#[]⟩ : ByteArray)⟩ : S54)⟩ : S62)] : List (S62))) (inner := [.string (⟨#[97]⟩ : ByteArray), .int .i64 1, .float .f64 4607182418800017408, .string (⟨#[]⟩ : ByteArray), .int .i64 0, .int .i64 0, .float .f64 0, .string (⟨#[]⟩ : ByteArray)]) (ok := fun _ => True) (okp := fun _ => True) ?hr ?hp (fun _ hk => hk) trivial (Below.refl _ _) (Nat.le_refl _) (by simp) ?_; (case hd => rfl); (case hg => rfl); (case hr => first | (go_simp; done) | (go_simp; rfl)); (case hp => exact (Reps.c8 (show Kd.M k62 _ _ _ (⟨(⟨#[97]⟩ : ByteArray), (⟨1, 4607182418800017408, (⟨#[]⟩ : ByteArray)⟩ : S54), 0, (⟨0, 0, (⟨#[]⟩ : ByteArray)⟩ : S54)⟩ : S62) [.string (⟨#[97]⟩ : ByteArray), .int .i64 1, .float .f64 4607182418800017408, .string (⟨#[]⟩ : ByteArray), .int .i64 0, .int .i64 0, .float .f64 0, .string (⟨#[]⟩ : ByteArray)] from (k62_mkM _ _ _ (⟨(⟨#[97]⟩ : ByteArray), (⟨1, 4607182418800017408, (⟨#[]⟩ : ByteArray)⟩ : S54), 0, (⟨0, 0, (⟨#[]⟩ : ByteArray)⟩ : S54)⟩ : S62) )) (Reps.none _ _))); intro v286 w27 ho28 hb hg_ hnew_; clear hg_ hnew_; (first | rw [← Ny285.out] at ho28 | (simp only [Int.reduceToNat] at ho28; rw [← Ny285.out] at ho28)); have HO287 := Aside0.mk (Kd.R_lower ho28 (below_size (bC HB))); replace HB := bW HB hb; clear hb ho28; obtain ⟨Ao29, co29, eo29⟩ := Kd.R_slice HO287.out; subst eo29) | ((with_reducible refine gate_dst (N := 1) rfl ?_); (try (refine gate_guard (by rfl) ?_; dsimp only)); refine box_event ?hg (N := 1) ?hd (cs := #[.bool false, .slice none 0 0, .slice none 0 0, .slice none 0 0]) (t := 36) ?hr ?_; (case hd => rfl); (case hg => rfl); (case hr => first | (go_simp; done) | (go_simp; rfl)); intro gb288 hg w30 hbox hb; have BK288 := Aside0.mk (hbox); have GW288 := bZ HB hg; have GE288 := bZ HB hg; replace HO287 := Aside0.mk (Kd.R_below (by (with_reducible repeat (first | apply Kd.R_alloc | apply Kd.R_drewN | apply Kd.R_drew)); exact HO287.out) hb); replace HB := bW HB hb; clear hb hbox hg; obtain ⟨hcz31_0, hcz31_1, hcz31_2, hcz31_3, hfz31_0, hfz31_1, hfz31_2, hfz31_3⟩ := bf4 (w := w30) BK288) | ((with_reducible refine gate_dst (N := 15) rfl ?_); (try (refine gate_guard (by rfl) ?_; dsimp only)); refine Kd.R_lit Kd.string _ 9 ?hg (N := 15) ?hd (xs := ([(⟨#[107]⟩ : ByteArray)] : List ByteArray)) (inner := [.string (⟨#[107]⟩ : ByteArray)]) (ok := fun _ => True) (okp := fun _ => True) ?hr ?hp (fun _ hk => hk) trivial (Below.refl _ _) (Nat.le_refl _) (by simp) ?_; (case hd => rfl); (case hg => rfl); (case hr => first | (go_simp; done) | (go_simp; rfl)); (case hp => exact (Reps.one (show Kd.M Kd.string _ _ _ (⟨#[107]⟩ : ByteArray) [.string (⟨#[107]⟩ : ByteArray)] from rfl) (Reps.none _ _))); intro v290 w32 ho33 hb hg_ hnew_; clear hg_ hnew_; (first | rw [← Ny289.out] at ho33 | (simp only [Int.reduceToNat] at ho33; rw [← Ny289.out] at ho33)); have HO291 := Aside0.mk (Kd.R_lower ho33 (below_size (bC HB))); replace HO287 := Aside0.mk (Kd.R_below (by (with_reducible repeat (first | apply Kd.R_alloc | apply Kd.R_drewN | apply Kd.R_drew)); exact (Kd.R_mono (Kd.R_far (p := ⟨gb288, 3, none⟩) (Kd.R_far (p := ⟨gb288, 2, none⟩) (Kd.R_far (p := ⟨gb288, 1, none⟩) (Kd.R_far (p := ⟨gb288, 0, none⟩) (Kd.R_types HO287.out BK288.out (by decide)) (fun _ hk => hk.2) (.bool true)) (fun _ hk => hk.2) (.slice Ao29 y285.length co29)) (fun _ hk => hk.2) (.slice none 0 0)) (fun _ hk => hk.2) (.slice none 0 0)) (fun _ h_ => h_.1))) hb); replace BK288 := Aside0.mk (blk_below (g := gb288) (o := .cells #[.bool true, .slice Ao29 y285.length co29, .slice none 0 0, .slice none 0 0] 36 (0, 0)) (bR BK288) hb); replace HB := bW HB hb; clear hb ho33) | ((with_reducible refine gate_dst (N := 16) rfl ?_); (try (refine gate_guard (by rfl) ?_; dsimp only)); refine Kd.R_lit (Kd.int .i64) _ 3 ?hg (N := 16) ?hd (xs := ([2, 3] : List Int)) (inner := [.int .i64 2, .int .i64 3]) (ok := fun _ => True) (okp := fun _ => True) ?hr ?hp (fun _ hk => hk) trivial (Below.refl _ _) (Nat.le_refl _) (by simp) ?_; (case hd => rfl); (case hg => rfl); (case hr => first | (go_simp; done) | (go_simp; rfl)); (case hp => exact (Reps.one (show Kd.M (Kd.int .i64) _ _ _ 2 [.int .i64 2] from rfl) (Reps.one (show Kd.M (Kd.int .i64) _ _ _ 3 [.int .i64 3] from rfl) (Reps.none _ _)))); intro v293 w34 ho35 hb hg_ hnew_; clear hg_ hnew_; (first | rw [← Ny292.out] at ho35 | (simp only [Int.reduceToNat] at ho35; rw [← Ny292.out] at ho35)); have HO294 := Aside0.mk (Kd.R_lower ho35 (below_size (bC HB))); replace HO287 := Aside0.mk (Kd.R_below (by (with_reducible repeat (first | apply Kd.R_alloc | apply Kd.R_drewN | apply Kd.R_drew)); exact HO287.out) hb); replace HO291 := Aside0.mk (Kd.R_below (by (with_reducible repeat (first | apply Kd.R_alloc | apply Kd.R_drewN | apply Kd.R_drew)); exact HO291.out) hb); replace BK288 := bB BK288 hb; replace HB := bW HB hb; clear hb ho35; obtain ⟨Ao36, co36, eo36⟩ := Kd.R_slice HO294.out; subst eo36; obtain ⟨Ao37, co37, eo37⟩ := Kd.R_slice HO291.out; subst eo37) | ((with_reducible refine gate_dst (N := 2) rfl ?_); (try (refine gate_guard (by rfl) ?_; dsimp only)); refine box_event ?hg (N := 2) ?hd (cs := #[.bool false, .slice none 0 0, .slice none 0 0, .slice none 0 0]) (t := 36) ?hr ?_; (case hd => rfl); (case hg => rfl); (case hr => first | (go_simp; done) | (go_simp; rfl)); intro gb295 hg w38 hbox hb; have BK295 := Aside0.mk (hbox); have GW295 := bZ HB hg; have GE295 := bZ HB hg; have NB288_295 := bL BK288 hg; have NB295_288 := bG BK288 hg; replace HO287 := Aside0.mk (Kd.R_below (by (with_reducible repeat (first | apply Kd.R_alloc | apply Kd.R_drewN | apply Kd.R_drew)); exact HO287.out) hb); replace HO291 := Aside0.mk (Kd.R_below (by (with_reducible repeat (first | apply Kd.R_alloc | apply Kd.R_drewN | apply Kd.R_drew)); exact HO291.out) hb); replace HO294 := Aside0.mk (Kd.R_below (by (with_reducible repeat (first | apply Kd.R_alloc | apply Kd.R_drewN | apply Kd.R_drew)); exact HO294.out) hb); replace BK288 := bB BK288 hb; replace HB := bW HB hb; clear hb hbox hg; have hnb39 := NB295_288.out; have hnc39 := NB288_295.out; obtain ⟨hcz40_0, hcz40_1, hcz40_2, hcz40_3, hfz40_0, hfz40_1, hfz40_2, hfz40_3⟩ := bf4 (w := w38) BK295; obtain ⟨hcz41_0, hcz41_1, hcz41_2, hcz41_3, hfz41_0, hfz41_1, hfz41_2, hfz41_3⟩ := bf4 (w := w38) BK288) | (go_at_call 19; refine calls_of_args (args' := #[.agg #[.bool true, .slice Ao29 y285.length co29, .slice none ([] : List ByteArray).length 0, .slice none ([] : List Int).length 0]]) (by first | rfl | ((try simp only [List.map_toArray, List.map_cons, List.map_nil]); rfl)) ?_; (with_reducible refine (node_Encode.calls k true _ _ y285 _ _ ([] : List ByteArray) _ _ ([] : List Int) t296 t299 _ ?side1 ?side2 ?side3 ?side4 ?side5 ?side6 A1.out).mono ?_); (case side1 => refine (Kd.R_reads' (e := 62) (base := w.heap.size) (ok := fun k_ => True) (n := y285.length) (c := co29) ?_).2.2; exact (by (with_reducible repeat (first | apply Kd.R_alloc | apply Kd.R_drewN | apply Kd.R_drew)); exact (Kd.R_mono (Kd.R_far (p := ⟨gb295, 3, none⟩) (Kd.R_far (p := ⟨gb295, 2, none⟩) (Kd.R_far (p := ⟨gb295, 1, none⟩) (Kd.R_far (p := ⟨gb295, 0, none⟩) (Kd.R_types HO287.out BK295.out (by decide)) (fun _ hk => hk.2) (.bool false)) (fun _ hk => hk.2) (.slice none 0 0)) (fun _ hk => hk.2) (.slice Ao37 y289.length co37)) (fun _ hk => hk.2) (.slice Ao36 y292.length co36)) (fun _ h_ => h_.1)))); (case side2 => exact (Kd.R_reads' HO287.out).2.1); (case side3 => exact Kd.C_nil _ _); (case side4 => exact Nat.le_refl _); (case side5 => exact Kd.C_nil _ _); (case side6 => exact Nat.le_refl _); rintro e w42 ⟨v297, rfl, ho0, hb⟩; have HO298 := Aside0.mk (Kd.R_lower ho0 (below_size (bC HB))); replace HO287 := Aside0.mk (Kd.R_below (by (with_reducible repeat (first | apply Kd.R_alloc | apply Kd.R_drewN | apply Kd.R_drew)); exact (Kd.R_mono (Kd.R_far (p := ⟨gb295, 3, none⟩) (Kd.R_far (p := ⟨gb295, 2, none⟩) (Kd.R_far (p := ⟨gb295, 1, none⟩) (Kd.R_far (p := ⟨gb295, 0, none⟩) (Kd.R_types HO287.out BK295.out (by decide)) (fun _ hk => hk.2) (.bool false)) (fun _ hk => hk.2) (.slice none 0 0)) (fun _ hk => hk.2) (.slice Ao37 y289.length co37)) (fun _ hk => hk.2) (.slice Ao36 y292.length co36)) (fun _ h_ => h_.1))) hb); replace HO291 := Aside0.mk (Kd.R_below (by (with_reducible repeat (first | apply Kd.R_alloc | apply Kd.R_drewN | apply Kd.R_drew)); exact (Kd.R_mono (Kd.R_far (p := ⟨gb295, 3, none⟩) (Kd.R_far (p := ⟨gb295, 2, none⟩) (Kd.R_far (p := ⟨gb295, 1, none⟩) (Kd.R_far (p := ⟨gb295, 0, none⟩) (Kd.R_types HO291.out BK295.out (by decide)) (fun _ hk => hk.2) (.bool false)) (fun _ hk => hk.2) (.slice none 0 0)) (fun _ hk => hk.2) (.slice Ao37 y289.length co37)) (fun _ hk => hk.2) (.slice Ao36 y292.length co36)) (fun _ h_ => h_.1))) hb); replace HO294 := Aside0.mk (Kd.R_below (by (with_reducible repeat (first | apply Kd.R_alloc | apply Kd.R_drewN | apply Kd.R_drew)); exact (Kd.R_mono (Kd.R_far (p := ⟨gb295, 3, none⟩) (Kd.R_far (p := ⟨gb295, 2, none⟩) (Kd.R_far (p := ⟨gb295, 1, none⟩) (Kd.R_far (p := ⟨gb295, 0, none⟩) (Kd.R_types HO294.out BK295.out (by decide)) (fun _ hk => hk.2) (.bool false)) (fun _ hk => hk.2) (.slice none 0 0)) (fun _ hk => hk.2) (.slice Ao37 y289.length co37)) (fun _ hk => hk.2) (.slice Ao36 y292.length co36)) (fun _ h_ => h_.1))) hb); replace BK288 := bB BK288 hb; replace BK295 := Aside0.mk (blk_below (g := gb295) (o := .cells #[.bool false, .slice none 0 0, .slice Ao37 y289.length co37, .slice Ao36 y292.length co36] 36 (0, 0)) (bR BK295) hb); replace HB := bW HB hb; (try clear hb); (try clear hb2); (try clear hk); (try clear hi); (try clear ho0); obtain ⟨hcz43_0, hcz43_1, hcz43_2, hcz43_3, hfz43_0, hfz43_1, hfz43_2, hfz43_3⟩ := bf4 (w := w42) BK295) | (go_at_call 19; refine calls_of_args (args' := #[.agg #[.bool false, .slice none ([] : List (S62)).length 0, .slice Ao37 y289.length co37, .slice Ao36 y292.length co36]]) (by first | rfl | ((try simp only [List.map_toArray, List.map_cons, List.map_nil]); rfl)) ?_; (with_reducible refine (node_Encode.calls k false _ _ ([] : List (S62)) _ _ y289 _ _ y292 t300 t303 _ ?side1 ?side2 ?side3 ?side4 ?side5 ?side6 A2.out).mono ?_); (case side1 => exact Kd.C_nil _ _); (case side2 => exact Nat.le_refl _); (case side3 => repeat (first | exact (Kd.R_reads' HO291.out).2.2 | (with_reducible refine Kd.C_alloc ?_ _) | (with_reducible refine Kd.C_drewN ?_ _) | (with_reducible refine Kd.C_drew ?_))); (case side4 => exact (Kd.R_reads' HO291.out).2.1); (case side5 => repeat (first | exact (Kd.R_reads' HO294.out).2.2 | (with_reducible refine Kd.C_alloc ?_ _) | (with_reducible refine Kd.C_drewN ?_ _) | (with_reducible refine Kd.C_drew ?_))); (case side6 => exact (Kd.R_reads' HO294.out).2.1); rintro e w44 ⟨v301, rfl, ho0, hb⟩; have HO302 := Aside0.mk (Kd.R_lower (Kd.R_new' ho0 (Kd.R_lt (by (with_reducible repeat (first | apply Kd.R_alloc | apply Kd.R_drewN | apply Kd.R_drew)); exact HO298.out))) (below_size (bC HB))); replace HO287 := Aside0.mk (Kd.R_below (by (with_reducible repeat (first | apply Kd.R_alloc | apply Kd.R_drewN | apply Kd.R_drew)); exact HO287.out) hb); replace HO291 := Aside0.mk (Kd.R_below (by (with_reducible repeat (first | apply Kd.R_alloc | apply Kd.R_drewN | apply Kd.R_drew)); exact HO291.out) hb); replace HO294 := Aside0.mk (Kd.R_below (by (with_reducible repeat (first | apply Kd.R_alloc | apply Kd.R_drewN | apply Kd.R_drew)); exact HO294.out) hb); replace HO298 := Aside0.mk (Kd.R_elder' (by (with_reducible repeat (first | apply Kd.R_alloc | apply Kd.R_drewN | apply Kd.R_drew)); exact HO298.out) (Kd.R_base ho0) hb); replace BK288 := bB BK288 hb; replace BK295 := bB BK295 hb; replace HB := bW HB hb; (try clear hb); (try clear hb2); (try clear hk); (try clear hi); (try clear ho0); obtain ⟨Ao45, co45, eo45⟩ := Kd.R_slice HO302.out; subst eo45) | ((with_reducible refine gate_callee (f := 21) rfl ?_); refine goesL_ (some 30) rfl rfl Try.func21 (by kernel_rfl) rfl #[.slice Ao45 t300.length co45] rfl (by (try simp only [List.map_toArray, List.map_cons, List.map_nil]); first | done | rfl | (simp only [List.length_drop, List.length_take]; rfl)) ?_; (with_reducible refine (node_Decode.calls k _ _ t300 t304 t305 t308 t311 t314 _ ?side1 ?side2 A3.out).mono ?_); (case side1 => repeat (first | exact (Kd.R_reads' HO302.out).2.2 | (with_reducible refine Kd.C_alloc ?_ _) | (with_reducible refine Kd.C_drewN ?_ _) | (with_reducible refine Kd.C_drew ?_))); (case side2 => exact (Kd.R_reads' HO302.out).2.1); rintro e w46 ⟨v306, v309, v312, rfl, ho0, ho1, ho2, hb⟩; refine ⟨_, rfl, ?_⟩; have HO307 := Aside0.mk (Kd.R_lower (Kd.R_new' ho0 (Kd.R_lt (by (with_reducible repeat (first | apply Kd.R_alloc | apply Kd.R_drewN | apply Kd.R_drew)); exact HO287.out))) (below_size (bC HB))); have HO310 := Aside0.mk (Kd.R_lower (Kd.R_new' ho1 (Kd.R_lt (by (with_reducible repeat (first | apply Kd.R_alloc | apply Kd.R_drewN | apply Kd.R_drew)); exact HO291.out))) (below_size (bC HB))); have HO313 := Aside0.mk (Kd.R_lower (Kd.R_new' ho2 (Kd.R_lt (by (with_reducible repeat (first | apply Kd.R_alloc | apply Kd.R_drewN | apply Kd.R_drew)); exact HO294.out))) (below_size (bC HB))); replace HO287 := Aside0.mk (Kd.R_elder' (by (with_reducible repeat (first | apply Kd.R_alloc | apply Kd.R_drewN | apply Kd.R_drew)); exact HO287.out) (Kd.R_base ho0) hb); replace HO291 := Aside0.mk (Kd.R_elder' (by (with_reducible repeat (first | apply Kd.R_alloc | apply Kd.R_drewN | apply Kd.R_drew)); exact HO291.out) (Kd.R_base ho1) hb); replace HO294 := Aside0.mk (Kd.R_elder' (by (with_reducible repeat (first | apply Kd.R_alloc | apply Kd.R_drewN | apply Kd.R_drew)); exact HO294.out) (Kd.R_base ho2) hb); replace HO298 := Aside0.mk (Kd.R_below (by (with_reducible repeat (first | apply Kd.R_alloc | apply Kd.R_drewN | apply Kd.R_drew)); exact HO298.out) hb); replace HO302 := Aside0.mk (Kd.R_below (by (with_reducible repeat (first | apply Kd.R_alloc | apply Kd.R_drewN | apply Kd.R_drew)); exact HO302.out) hb); replace BK288 := bB BK288 hb; replace BK295 := bB BK295 hb; replace HB := bW HB hb; (try clear hb); (try clear hb2); (try clear hk); (try clear hi); (try clear ho0); (try clear ho1); (try clear ho2)) | ((with_reducible refine gate_dst (N := 7) rfl ?_); (try (refine gate_guard (by rfl) ?_; dsimp only)); refine box_event ?hg (N := 7) ?hd (cs := #[.bool false, .slice none 0 0, .slice none 0 0, .slice none 0 0]) (t := 36) ?hr ?_; (case hd => rfl); (case hg => rfl); (case hr => first | (go_simp; done) | (go_simp; rfl)); intro gb315 hg w47 hbox hb; have BK315 := Aside0.mk (hbox); have GW315 := bZ HB hg; have GE315 := bZ HB hg; have NB288_315 := bL BK288 hg; have NB315_288 := bG BK288 hg; have NB295_315 := bL BK295 hg; have NB315_295 := bG BK295 hg; replace HO287 := Aside0.mk (Kd.R_below (by (with_reducible repeat (first | apply Kd.R_alloc | apply Kd.R_drewN | apply Kd.R_drew)); exact HO287.out) hb); replace HO291 := Aside0.mk (Kd.R_below (by (with_reducible repeat (first | apply Kd.R_alloc | apply Kd.R_drewN | apply Kd.R_drew)); exact HO291.out) hb); replace HO294 := Aside0.mk (Kd.R_below (by (with_reducible repeat (first | apply Kd.R_alloc | apply Kd.R_drewN | apply Kd.R_drew)); exact HO294.out) hb); replace HO298 := Aside0.mk (Kd.R_below (by (with_reducible repeat (first | apply Kd.R_alloc | apply Kd.R_drewN | apply Kd.R_drew)); exact HO298.out) hb); replace HO302 := Aside0.mk (Kd.R_below (by (with_reducible repeat (first | apply Kd.R_alloc | apply Kd.R_drewN | apply Kd.R_drew)); exact HO302.out) hb); replace HO307 := Aside0.mk (Kd.R_below (by (with_reducible repeat (first | apply Kd.R_alloc | apply Kd.R_drewN | apply Kd.R_drew)); exact HO307.out) hb); replace HO310 := Aside0.mk (Kd.R_below (by (with_reducible repeat (first | apply Kd.R_alloc | apply Kd.R_drewN | apply Kd.R_drew)); exact HO310.out) hb); replace HO313 := Aside0.mk (Kd.R_below (by (with_reducible repeat (first | apply Kd.R_alloc | apply Kd.R_drewN | apply Kd.R_drew)); exact HO313.out) hb); replace BK288 := bB BK288 hb; replace BK295 := bB BK295 hb; replace HB := bW HB hb; clear hb hbox hg; have hnb48 := NB315_288.out; have hnc48 := NB288_315.out; have hnb49 := NB315_295.out; have hnc49 := NB295_315.out; obtain ⟨hcz50_0, hcz50_1, hcz50_2, hcz50_3, hfz50_0, hfz50_1, hfz50_2, hfz50_3⟩ := bf4 (w := w47) BK315; obtain ⟨Ao51, co51, eo51⟩ := Kd.R_slice HO307.out; subst eo51; obtain ⟨Ao52, co52, eo52⟩ := Kd.R_slice HO310.out; subst eo52; obtain ⟨Ao53, co53, eo53⟩ := Kd.R_slice HO313.out; subst eo53) | ((with_reducible refine gate_dst (N := 34) rfl ?_); (try (refine gate_guard (by rfl) ?_; dsimp only)); refine Kd.R_make (Kd.int .u8) _ 5 rfl (N := 34) rfl 30 _ _ rfl 256 rfl rfl Try.underlying30 (.int .u8 0) 1 info5 rfl (by decide) (by omega) 0 (ok := fun _ => True) (okp := fun _ => True) rfl (fun _ hk => hk) trivial (by omega) (by omega) (Below.refl _ _) (Nat.le_refl _) ?_; intro v317 w54 ho55 hb hg_ hnew_; clear hg_ hnew_; (first | rw [← Ny316.out] at ho55 | (simp only [Int.reduceToNat] at ho55; rw [← Ny316.out] at ho55)); have HO318 := Aside0.mk (Kd.R_lower (Kd.R_new' (Kd.R_new' ho55 (Kd.R_lt (by (with_reducible repeat (first | apply Kd.R_alloc | apply Kd.R_drewN | apply Kd.R_drew)); exact (Kd.R_mono (Kd.R_far (p := ⟨gb315, 3, none⟩) (Kd.R_far (p := ⟨gb315, 2, none⟩) (Kd.R_far (p := ⟨gb315, 1, none⟩) (Kd.R_far (p := ⟨gb315, 0, none⟩) (Kd.R_types HO298.out BK315.out (by decide)) (fun _ hk => hk.2) (.bool t304)) (fun _ hk => hk.2) (.slice Ao51 t305.length co51)) (fun _ hk => hk.2) (.slice Ao52 t308.length co52)) (fun _ hk => hk.2) (.slice Ao53 t311.length co53)) (fun _ h_ => h_.1))))) (Kd.R_lt (by (with_reducible repeat (first | apply Kd.R_alloc | apply Kd.R_drewN | apply Kd.R_drew)); exact (Kd.R_mono (Kd.R_far (p := ⟨gb315, 3, none⟩) (Kd.R_far (p := ⟨gb315, 2, none⟩) (Kd.R_far (p := ⟨gb315, 1, none⟩) (Kd.R_far (p := ⟨gb315, 0, none⟩) (Kd.R_types HO302.out BK315.out (by decide)) (fun _ hk => hk.2) (.bool t304)) (fun _ hk => hk.2) (.slice Ao51 t305.length co51)) (fun _ hk => hk.2) (.slice Ao52 t308.length co52)) (fun _ hk => hk.2) (.slice Ao53 t311.length co53)) (fun _ h_ => h_.1))))) (below_size (bC HB))); replace HO287 := Aside0.mk (Kd.R_below (by (with_reducible repeat (first | apply Kd.R_alloc | apply Kd.R_drewN | apply Kd.R_drew)); exact (Kd.R_mono (Kd.R_far (p := ⟨gb315, 3, none⟩) (Kd.R_far (p := ⟨gb315, 2, none⟩) (Kd.R_far (p := ⟨gb315, 1, none⟩) (Kd.R_far (p := ⟨gb315, 0, none⟩) (Kd.R_types HO287.out BK315.out (by decide)) (fun _ hk => hk.2) (.bool t304)) (fun _ hk => hk.2) (.slice Ao51 t305.length co51)) (fun _ hk => hk.2) (.slice Ao52 t308.length co52)) (fun _ hk => hk.2) (.slice Ao53 t311.length co53)) (fun _ h_ => h_.1))) hb); replace HO291 := Aside0.mk (Kd.R_below (by (with_reducible repeat (first | apply Kd.R_alloc | apply Kd.R_drewN | apply Kd.R_drew)); exact (Kd.R_mono (Kd.R_far (p := ⟨gb315, 3, none⟩) (Kd.R_far (p := ⟨gb315, 2, none⟩) (Kd.R_far (p := ⟨gb315, 1, none⟩) (Kd.R_far (p := ⟨gb315, 0, none⟩) (Kd.R_types HO291.out BK315.out (by decide)) (fun _ hk => hk.2) (.bool t304)) (fun _ hk => hk.2) (.slice Ao51 t305.length co51)) (fun _ hk => hk.2) (.slice Ao52 t308.length co52)) (fun _ hk => hk.2) (.slice Ao53 t311.length co53)) (fun _ h_ => h_.1))) hb); replace HO294 := Aside0.mk (Kd.R_below (by (with_reducible repeat (first | apply Kd.R_alloc | apply Kd.R_drewN | apply Kd.R_drew)); exact (Kd.R_mono (Kd.R_far (p := ⟨gb315, 3, none⟩) (Kd.R_far (p := ⟨gb315, 2, none⟩) (Kd.R_far (p := ⟨gb315, 1, none⟩) (Kd.R_far (p := ⟨gb315, 0, none⟩) (Kd.R_types HO294.out BK315.out (by decide)) (fun _ hk => hk.2) (.bool t304)) (fun _ hk => hk.2) (.slice Ao51 t305.length co51)) (fun _ hk => hk.2) (.slice Ao52 t308.length co52)) (fun _ hk => hk.2) (.slice Ao53 t311.length co53)) (fun _ h_ => h_.1))) hb); replace HO298 := Aside0.mk (Kd.R_elder' (by (with_reducible repeat (first | apply Kd.R_alloc | apply Kd.R_drewN | apply Kd.R_drew)); exact (Kd.R_mono (Kd.R_far (p := ⟨gb315, 3, none⟩) (Kd.R_far (p := ⟨gb315, 2, none⟩) (Kd.R_far (p := ⟨gb315, 1, none⟩) (Kd.R_far (p := ⟨gb315, 0, none⟩) (Kd.R_types HO298.out BK315.out (by decide)) (fun _ hk => hk.2) (.bool t304)) (fun _ hk => hk.2) (.slice Ao51 t305.length co51)) (fun _ hk => hk.2) (.slice Ao52 t308.length co52)) (fun _ hk => hk.2) (.slice Ao53 t311.length co53)) (fun _ h_ => h_.1))) (Kd.R_base ho55) hb); replace HO302 := Aside0.mk (Kd.R_elder' (by (with_reducible repeat (first | apply Kd.R_alloc | apply Kd.R_drewN | apply Kd.R_drew)); exact (Kd.R_mono (Kd.R_far (p := ⟨gb315, 3, none⟩) (Kd.R_far (p := ⟨gb315, 2, none⟩) (Kd.R_far (p := ⟨gb315, 1, none⟩) (Kd.R_far (p := ⟨gb315, 0, none⟩) (Kd.R_types HO302.out BK315.out (by decide)) (fun _ hk => hk.2) (.bool t304)) (fun _ hk => hk.2) (.slice Ao51 t305.length co51)) (fun _ hk => hk.2) (.slice Ao52 t308.length co52)) (fun _ hk => hk.2) (.slice Ao53 t311.length co53)) (fun _ h_ => h_.1))) (Kd.R_base ho55) hb); replace HO307 := Aside0.mk (Kd.R_below (by (with_reducible repeat (first | apply Kd.R_alloc | apply Kd.R_drewN | apply Kd.R_drew)); exact (Kd.R_mono (Kd.R_far (p := ⟨gb315, 3, none⟩) (Kd.R_far (p := ⟨gb315, 2, none⟩) (Kd.R_far (p := ⟨gb315, 1, none⟩) (Kd.R_far (p := ⟨gb315, 0, none⟩) (Kd.R_types HO307.out BK315.out (by decide)) (fun _ hk => hk.2) (.bool t304)) (fun _ hk => hk.2) (.slice Ao51 t305.length co51)) (fun _ hk => hk.2) (.slice Ao52 t308.length co52)) (fun _ hk => hk.2) (.slice Ao53 t311.length co53)) (fun _ h_ => h_.1))) hb); replace HO310 := Aside0.mk (Kd.R_below (by (with_reducible repeat (first | apply Kd.R_alloc | apply Kd.R_drewN | apply Kd.R_drew)); exact (Kd.R_mono (Kd.R_far (p := ⟨gb315, 3, none⟩) (Kd.R_far (p := ⟨gb315, 2, none⟩) (Kd.R_far (p := ⟨gb315, 1, none⟩) (Kd.R_far (p := ⟨gb315, 0, none⟩) (Kd.R_types HO310.out BK315.out (by decide)) (fun _ hk => hk.2) (.bool t304)) (fun _ hk => hk.2) (.slice Ao51 t305.length co51)) (fun _ hk => hk.2) (.slice Ao52 t308.length co52)) (fun _ hk => hk.2) (.slice Ao53 t311.length co53)) (fun _ h_ => h_.1))) hb); replace HO313 := Aside0.mk (Kd.R_below (by (with_reducible repeat (first | apply Kd.R_alloc | apply Kd.R_drewN | apply Kd.R_drew)); exact (Kd.R_mono (Kd.R_far (p := ⟨gb315, 3, none⟩) (Kd.R_far (p := ⟨gb315, 2, none⟩) (Kd.R_far (p := ⟨gb315, 1, none⟩) (Kd.R_far (p := ⟨gb315, 0, none⟩) (Kd.R_types HO313.out BK315.out (by decide)) (fun _ hk => hk.2) (.bool t304)) (fun _ hk => hk.2) (.slice Ao51 t305.length co51)) (fun _ hk => hk.2) (.slice Ao52 t308.length co52)) (fun _ hk => hk.2) (.slice Ao53 t311.length co53)) (fun _ h_ => h_.1))) hb); replace BK288 := bB BK288 hb; replace BK295 := bB BK295 hb; replace BK315 := Aside0.mk (blk_below (g := gb315) (o := .cells #[.bool t304, .slice Ao51 t305.length co51, .slice Ao52 t308.length co52, .slice Ao53 t311.length co53] 36 (0, 0)) (bR BK315) hb); replace HB := bW HB hb; clear hb ho55; obtain ⟨Ao56, co56, eo56⟩ := Kd.R_slice HO318.out; subst eo56) | ((with_reducible refine gate_callee (f := 21) rfl ?_); refine goesL_ (some 35) rfl rfl Try.func21 (by kernel_rfl) rfl #[.slice Ao56 y316.length co56] rfl (by (try simp only [List.map_toArray, List.map_cons, List.map_nil]); first | done | rfl | (simp only [List.length_drop, List.length_take]; rfl)) ?_; (with_reducible refine (node_Decode.calls k _ _ y316 t319 t320 t323 t326 t329 _ ?side1 ?side2 A5.out).mono ?_); (case side1 => repeat (first | exact (Kd.R_reads' HO318.out).2.2 | (with_reducible refine Kd.C_alloc ?_ _) | (with_reducible refine Kd.C_drewN ?_ _) | (with_reducible refine Kd.C_drew ?_))); (case side2 => exact (Kd.R_reads' HO318.out).2.1); rintro e w57 ⟨v321, v324, v327, rfl, ho0, ho1, ho2, hb⟩; refine ⟨_, rfl, ?_⟩; have HO322 := Aside0.mk (Kd.R_lower (Kd.R_new' (Kd.R_new' ho0 (Kd.R_lt (by (with_reducible repeat (first | apply Kd.R_alloc | apply Kd.R_drewN | apply Kd.R_drew)); exact HO287.out))) (Kd.R_lt (by (with_reducible repeat (first | apply Kd.R_alloc | apply Kd.R_drewN | apply Kd.R_drew)); exact HO307.out))) (below_size (bC HB))); have HO325 := Aside0.mk (Kd.R_lower (Kd.R_new' (Kd.R_new' ho1 (Kd.R_lt (by (with_reducible repeat (first | apply Kd.R_alloc | apply Kd.R_drewN | apply Kd.R_drew)); exact HO291.out))) (Kd.R_lt (by (with_reducible repeat (first | apply Kd.R_alloc | apply Kd.R_drewN | apply Kd.R_drew)); exact HO310.out))) (below_size (bC HB))); have HO328 := Aside0.mk (Kd.R_lower (Kd.R_new' (Kd.R_new' ho2 (Kd.R_lt (by (with_reducible repeat (first | apply Kd.R_alloc | apply Kd.R_drewN | apply Kd.R_drew)); exact HO294.out))) (Kd.R_lt (by (with_reducible repeat (first | apply Kd.R_alloc | apply Kd.R_drewN | apply Kd.R_drew)); exact HO313.out))) (below_size (bC HB))); replace HO287 := Aside0.mk (Kd.R_elder' (by (with_reducible repeat (first | apply Kd.R_alloc | apply Kd.R_drewN | apply Kd.R_drew)); exact HO287.out) (Kd.R_base ho0) hb); replace HO291 := Aside0.mk (Kd.R_elder' (by (with_reducible repeat (first | apply Kd.R_alloc | apply Kd.R_drewN | apply Kd.R_drew)); exact HO291.out) (Kd.R_base ho1) hb); replace HO294 := Aside0.mk (Kd.R_elder' (by (with_reducible repeat (first | apply Kd.R_alloc | apply Kd.R_drewN | apply Kd.R_drew)); exact HO294.out) (Kd.R_base ho2) hb); replace HO298 := Aside0.mk (Kd.R_below (by (with_reducible repeat (first | apply Kd.R_alloc | apply Kd.R_drewN | apply Kd.R_drew)); exact HO298.out) hb); replace HO302 := Aside0.mk (Kd.R_below (by (with_reducible repeat (first | apply Kd.R_alloc | apply Kd.R_drewN | apply Kd.R_drew)); exact HO302.out) hb); replace HO307 := Aside0.mk (Kd.R_elder' (by (with_reducible repeat (first | apply Kd.R_alloc | apply Kd.R_drewN | apply Kd.R_drew)); exact HO307.out) (Kd.R_base ho0) hb); replace HO310 := Aside0.mk (Kd.R_elder' (by (with_reducible repeat (first | apply Kd.R_alloc | apply Kd.R_drewN | apply Kd.R_drew)); exact HO310.out) (Kd.R_base ho1) hb); replace HO313 := Aside0.mk (Kd.R_elder' (by (with_reducible repeat (first | apply Kd.R_alloc | apply Kd.R_drewN | apply Kd.R_drew)); exact HO313.out) (Kd.R_base ho2) hb); replace HO318 := Aside0.mk (Kd.R_below (by (with_reducible repeat (first | apply Kd.R_alloc | apply Kd.R_drewN | apply Kd.R_drew)); exact HO318.out) hb); replace BK288 := bB BK288 hb; replace BK295 := bB BK295 hb; replace BK315 := bB BK315 hb; replace HB := bW HB hb; (try clear hb); (try clear hb2); (try clear hk); (try clear hi); (try clear ho0); (try clear ho1); (try clear ho2)) | ((with_reducible refine gate_dst (N := 9) rfl ?_); (try (refine gate_guard (by rfl) ?_; dsimp only)); refine box_event ?hg (N := 9) ?hd (cs := #[.bool false, .slice none 0 0, .slice none 0 0, .slice none 0 0]) (t := 36) ?hr ?_; (case hd => rfl); (case hg => rfl); (case hr => first | (go_simp; done) | (go_simp; rfl)); intro gb330 hg w58 hbox hb; have BK330 := Aside0.mk (hbox); have GW330 := bZ HB hg; have GE330 := bZ HB hg; have NB288_330 := bL BK288 hg; have NB330_288 := bG BK288 hg; have NB295_330 := bL BK295 hg; have NB330_295 := bG BK295 hg; have NB315_330 := bL BK315 hg; have NB330_315 := bG BK315 hg; replace HO287 := Aside0.mk (Kd.R_below (by (with_reducible repeat (first | apply Kd.R_alloc | apply Kd.R_drewN | apply Kd.R_drew)); exact HO287.out) hb); replace HO291 := Aside0.mk (Kd.R_below (by (with_reducible repeat (first | apply Kd.R_alloc | apply Kd.R_drewN | apply Kd.R_drew)); exact HO291.out) hb); replace HO294 := Aside0.mk (Kd.R_below (by (with_reducible repeat (first | apply Kd.R_alloc | apply Kd.R_drewN | apply Kd.R_drew)); exact HO294.out) hb); replace HO298 := Aside0.mk (Kd.R_below (by (with_reducible repeat (first | apply Kd.R_alloc | apply Kd.R_drewN | apply Kd.R_drew)); exact HO298.out) hb); replace HO302 := Aside0.mk (Kd.R_below (by (with_reducible repeat (first | apply Kd.R_alloc | apply Kd.R_drewN | apply Kd.R_drew)); exact HO302.out) hb); replace HO307 := Aside0.mk (Kd.R_below (by (with_reducible repeat (first | apply Kd.R_alloc | apply Kd.R_drewN | apply Kd.R_drew)); exact HO307.out) hb); replace HO310 := Aside0.mk (Kd.R_below (by (with_reducible repeat (first | apply Kd.R_alloc | apply Kd.R_drewN | apply Kd.R_drew)); exact HO310.out) hb); replace HO313 := Aside0.mk (Kd.R_below (by (with_reducible repeat (first | apply Kd.R_alloc | apply Kd.R_drewN | apply Kd.R_drew)); exact HO313.out) hb); replace HO318 := Aside0.mk (Kd.R_below (by (with_reducible repeat (first | apply Kd.R_alloc | apply Kd.R_drewN | apply Kd.R_drew)); exact HO318.out) hb); replace HO322 := Aside0.mk (Kd.R_below (by (with_reducible repeat (first | apply Kd.R_alloc | apply Kd.R_drewN | apply Kd.R_drew)); exact HO322.out) hb); replace HO325 := Aside0.mk (Kd.R_below (by (with_reducible repeat (first | apply Kd.R_alloc | apply Kd.R_drewN | apply Kd.R_drew)); exact HO325.out) hb); replace HO328 := Aside0.mk (Kd.R_below (by (with_reducible repeat (first | apply Kd.R_alloc | apply Kd.R_drewN | apply Kd.R_drew)); exact HO328.out) hb); replace BK288 := bB BK288 hb; replace BK295 := bB BK295 hb; replace BK315 := bB BK315 hb; replace HB := bW HB hb; clear hb hbox hg; have hnb59 := NB330_288.out; have hnc59 := NB288_330.out; have hnb60 := NB330_295.out; have hnc60 := NB295_330.out; have hnb61 := NB330_315.out; have hnc61 := NB315_330.out; obtain ⟨hcz62_0, hcz62_1, hcz62_2, hcz62_3, hfz62_0, hfz62_1, hfz62_2, hfz62_3⟩ := bf4 (w := w58) BK330; obtain ⟨Ao63, co63, eo63⟩ := Kd.R_slice HO322.out; subst eo63; obtain ⟨Ao64, co64, eo64⟩ := Kd.R_slice HO325.out; subst eo64; obtain ⟨Ao65, co65, eo65⟩ := Kd.R_slice HO328.out; subst eo65; obtain ⟨hcz66_0, hcz66_1, hcz66_2, hcz66_3, hfz66_0, hfz66_1, hfz66_2, hfz66_3⟩ := bf4 (w := w58) BK288) | (go_at_call 16; refine calls_of_args (args' := #[.agg #[.bool true, .slice Ao29 y285.length co29, .slice none ([] : List ByteArray).length 0, .slice none ([] : List Int).length 0]]) (by first | rfl | ((try simp only [List.map_toArray, List.map_cons, List.map_nil]); rfl)) ?_; (with_reducible refine (node_May.calls k true _ _ y285 _ _ ([] : List ByteArray) _ _ ([] : List Int) true _ ?side1 ?side2 ?side3 ?side4 ?side5 ?side6 A6.out).mono ?_); (case side1 => refine (Kd.R_reads' (e := 62) (base := w.heap.size) (ok := fun k_ => ((True ∧ some k_ ≠ (.slice Ao51 t305.length co51 : Value).ownBlock) ∧ some k_ ≠ (.slice Ao63 t320.length co63 : Value).ownBlock)) (n := y285.length) (c := co29) ?_).2.2; exact (by (with_reducible repeat (first | apply Kd.R_alloc | apply Kd.R_drewN | apply Kd.R_drew)); exact (Kd.R_mono (Kd.R_far (p := ⟨gb330, 3, none⟩) (Kd.R_far (p := ⟨gb330, 2, none⟩) (Kd.R_far (p := ⟨gb330, 1, none⟩) (Kd.R_far (p := ⟨gb330, 0, none⟩) (Kd.R_types HO287.out BK330.out (by decide)) (fun _ hk => hk.2) (.bool t319)) (fun _ hk => hk.2) (.slice Ao63 t320.length co63)) (fun _ hk => hk.2) (.slice Ao64 t323.length co64)) (fun _ hk => hk.2) (.slice Ao65 t326.length co65)) (fun _ h_ => h_.1)))); (case side2 => exact (Kd.R_reads' HO287.out).2.1); (case side3 => exact Kd.C_nil _ _); (case side4 => exact Nat.le_refl _); (case side5 => exact Kd.C_nil _ _); (case side6 => exact Nat.le_refl _); rintro e w67 ⟨rfl, hb⟩; replace HO287 := Aside0.mk (Kd.R_below (by (with_reducible repeat (first | apply Kd.R_alloc | apply Kd.R_drewN | apply Kd.R_drew)); exact (Kd.R_mono (Kd.R_far (p := ⟨gb330, 3, none⟩) (Kd.R_far (p := ⟨gb330, 2, none⟩) (Kd.R_far (p := ⟨gb330, 1, none⟩) (Kd.R_far (p := ⟨gb330, 0, none⟩) (Kd.R_types HO287.out BK330.out (by decide)) (fun _ hk => hk.2) (.bool t319)) (fun _ hk => hk.2) (.slice Ao63 t320.length co63)) (fun _ hk => hk.2) (.slice Ao64 t323.length co64)) (fun _ hk => hk.2) (.slice Ao65 t326.length co65)) (fun _ h_ => h_.1))) hb); replace HO291 := Aside0.mk (Kd.R_below (by (with_reducible repeat (first | apply Kd.R_alloc | apply Kd.R_drewN | apply Kd.R_drew)); exact (Kd.R_mono (Kd.R_far (p := ⟨gb330, 3, none⟩) (Kd.R_far (p := ⟨gb330, 2, none⟩) (Kd.R_far (p := ⟨gb330, 1, none⟩) (Kd.R_far (p := ⟨gb330, 0, none⟩) (Kd.R_types HO291.out BK330.out (by decide)) (fun _ hk => hk.2) (.bool t319)) (fun _ hk => hk.2) (.slice Ao63 t320.length co63)) (fun _ hk => hk.2) (.slice Ao64 t323.length co64)) (fun _ hk => hk.2) (.slice Ao65 t326.length co65)) (fun _ h_ => h_.1))) hb); replace HO294 := Aside0.mk (Kd.R_below (by (with_reducible repeat (first | apply Kd.R_alloc | apply Kd.R_drewN | apply Kd.R_drew)); exact (Kd.R_mono (Kd.R_far (p := ⟨gb330, 3, none⟩) (Kd.R_far (p := ⟨gb330, 2, none⟩) (Kd.R_far (p := ⟨gb330, 1, none⟩) (Kd.R_far (p := ⟨gb330, 0, none⟩) (Kd.R_types HO294.out BK330.out (by decide)) (fun _ hk => hk.2) (.bool t319)) (fun _ hk => hk.2) (.slice Ao63 t320.length co63)) (fun _ hk => hk.2) (.slice Ao64 t323.length co64)) (fun _ hk => hk.2) (.slice Ao65 t326.length co65)) (fun _ h_ => h_.1))) hb); replace HO298 := Aside0.mk (Kd.R_below (by (with_reducible repeat (first | apply Kd.R_alloc | apply Kd.R_drewN | apply Kd.R_drew)); exact (Kd.R_mono (Kd.R_far (p := ⟨gb330, 3, none⟩) (Kd.R_far (p := ⟨gb330, 2, none⟩) (Kd.R_far (p := ⟨gb330, 1, none⟩) (Kd.R_far (p := ⟨gb330, 0, none⟩) (Kd.R_types HO298.out BK330.out (by decide)) (fun _ hk => hk.2) (.bool t319)) (fun _ hk => hk.2) (.slice Ao63 t320.length co63)) (fun _ hk => hk.2) (.slice Ao64 t323.length co64)) (fun _ hk => hk.2) (.slice Ao65 t326.length co65)) (fun _ h_ => h_.1))) hb); replace HO302 := Aside0.mk (Kd.R_below (by (with_reducible repeat (first | apply Kd.R_alloc | apply Kd.R_drewN | apply Kd.R_drew)); exact (Kd.R_mono (Kd.R_far (p := ⟨gb330, 3, none⟩) (Kd.R_far (p := ⟨gb330, 2, none⟩) (Kd.R_far (p := ⟨gb330, 1, none⟩) (Kd.R_far (p := ⟨gb330, 0, none⟩) (Kd.R_types HO302.out BK330.out (by decide)) (fun _ hk => hk.2) (.bool t319)) (fun _ hk => hk.2) (.slice Ao63 t320.length co63)) (fun _ hk => hk.2) (.slice Ao64 t323.length co64)) (fun _ hk => hk.2) (.slice Ao65 t326.length co65)) (fun _ h_ => h_.1))) hb); replace HO307 := Aside0.mk (Kd.R_below (by (with_reducible repeat (first | apply Kd.R_alloc | apply Kd.R_drewN | apply Kd.R_drew)); exact (Kd.R_mono (Kd.R_far (p := ⟨gb330, 3, none⟩) (Kd.R_far (p := ⟨gb330, 2, none⟩) (Kd.R_far (p := ⟨gb330, 1, none⟩) (Kd.R_far (p := ⟨gb330, 0, none⟩) (Kd.R_types HO307.out BK330.out (by decide)) (fun _ hk => hk.2) (.bool t319)) (fun _ hk => hk.2) (.slice Ao63 t320.length co63)) (fun _ hk => hk.2) (.slice Ao64 t323.length co64)) (fun _ hk => hk.2) (.slice Ao65 t326.length co65)) (fun _ h_ => h_.1))) hb); replace HO310 := Aside0.mk (Kd.R_below (by (with_reducible repeat (first | apply Kd.R_alloc | apply Kd.R_drewN | apply Kd.R_drew)); exact (Kd.R_mono (Kd.R_far (p := ⟨gb330, 3, none⟩) (Kd.R_far (p := ⟨gb330, 2, none⟩) (Kd.R_far (p := ⟨gb330, 1, none⟩) (Kd.R_far (p := ⟨gb330, 0, none⟩) (Kd.R_types HO310.out BK330.out (by decide)) (fun _ hk => hk.2) (.bool t319)) (fun _ hk => hk.2) (.slice Ao63 t320.length co63)) (fun _ hk => hk.2) (.slice Ao64 t323.length co64)) (fun _ hk => hk.2) (.slice Ao65 t326.length co65)) (fun _ h_ => h_.1))) hb); replace HO313 := Aside0.mk (Kd.R_below (by (with_reducible repeat (first | apply Kd.R_alloc | apply Kd.R_drewN | apply Kd.R_drew)); exact (Kd.R_mono (Kd.R_far (p := ⟨gb330, 3, none⟩) (Kd.R_far (p := ⟨gb330, 2, none⟩) (Kd.R_far (p := ⟨gb330, 1, none⟩) (Kd.R_far (p := ⟨gb330, 0, none⟩) (Kd.R_types HO313.out BK330.out (by decide)) (fun _ hk => hk.2) (.bool t319)) (fun _ hk => hk.2) (.slice Ao63 t320.length co63)) (fun _ hk => hk.2) (.slice Ao64 t323.length co64)) (fun _ hk => hk.2) (.slice Ao65 t326.length co65)) (fun _ h_ => h_.1))) hb); replace HO318 := Aside0.mk (Kd.R_below (by (with_reducible repeat (first | apply Kd.R_alloc | apply Kd.R_drewN | apply Kd.R_drew)); exact (Kd.R_mono (Kd.R_far (p := ⟨gb330, 3, none⟩) (Kd.R_far (p := ⟨gb330, 2, none⟩) (Kd.R_far (p := ⟨gb330, 1, none⟩) (Kd.R_far (p := ⟨gb330, 0, none⟩) (Kd.R_types HO318.out BK330.out (by decide)) (fun _ hk => hk.2) (.bool t319)) (fun _ hk => hk.2) (.slice Ao63 t320.length co63)) (fun _ hk => hk.2) (.slice Ao64 t323.length co64)) (fun _ hk => hk.2) (.slice Ao65 t326.length co65)) (fun _ h_ => h_.1))) hb); replace HO322 := Aside0.mk (Kd.R_below (by (with_reducible repeat (first | apply Kd.R_alloc | apply Kd.R_drewN | apply Kd.R_drew)); exact (Kd.R_mono (Kd.R_far (p := ⟨gb330, 3, none⟩) (Kd.R_far (p := ⟨gb330, 2, none⟩) (Kd.R_far (p := ⟨gb330, 1, none⟩) (Kd.R_far (p := ⟨gb330, 0, none⟩) (Kd.R_types HO322.out BK330.out (by decide)) (fun _ hk => hk.2) (.bool t319)) (fun _ hk => hk.2) (.slice Ao63 t320.length co63)) (fun _ hk => hk.2) (.slice Ao64 t323.length co64)) (fun _ hk => hk.2) (.slice Ao65 t326.length co65)) (fun _ h_ => h_.1))) hb); replace HO325 := Aside0.mk (Kd.R_below (by (with_reducible repeat (first | apply Kd.R_alloc | apply Kd.R_drewN | apply Kd.R_drew)); exact (Kd.R_mono (Kd.R_far (p := ⟨gb330, 3, none⟩) (Kd.R_far (p := ⟨gb330, 2, none⟩) (Kd.R_far (p := ⟨gb330, 1, none⟩) (Kd.R_far (p := ⟨gb330, 0, none⟩) (Kd.R_types HO325.out BK330.out (by decide)) (fun _ hk => hk.2) (.bool t319)) (fun _ hk => hk.2) (.slice Ao63 t320.length co63)) (fun _ hk => hk.2) (.slice Ao64 t323.length co64)) (fun _ hk => hk.2) (.slice Ao65 t326.length co65)) (fun _ h_ => h_.1))) hb); replace HO328 := Aside0.mk (Kd.R_below (by (with_reducible repeat (first | apply Kd.R_alloc | apply Kd.R_drewN | apply Kd.R_drew)); exact (Kd.R_mono (Kd.R_far (p := ⟨gb330, 3, none⟩) (Kd.R_far (p := ⟨gb330, 2, none⟩) (Kd.R_far (p := ⟨gb330, 1, none⟩) (Kd.R_far (p := ⟨gb330, 0, none⟩) (Kd.R_types HO328.out BK330.out (by decide)) (fun _ hk => hk.2) (.bool t319)) (fun _ hk => hk.2) (.slice Ao63 t320.length co63)) (fun _ hk => hk.2) (.slice Ao64 t323.length co64)) (fun _ hk => hk.2) (.slice Ao65 t326.length co65)) (fun _ h_ => h_.1))) hb); replace BK288 := bB BK288 hb; replace BK295 := bB BK295 hb; replace BK315 := bB BK315 hb; replace BK330 := Aside0.mk (blk_below (g := gb330) (o := .cells #[.bool t319, .slice Ao63 t320.length co63, .slice Ao64 t323.length co64, .slice Ao65 t326.length co65] 36 (0, 0)) (bR BK330) hb); replace HB := bW HB hb; (try clear hb); (try clear hb2); (try clear hk); (try clear hi); obtain ⟨hcz68_0, hcz68_1, hcz68_2, hcz68_3, hfz68_0, hfz68_1, hfz68_2, hfz68_3⟩ := bf4 (w := w67) BK295) | (go_at_call 16; refine calls_of_args (args' := #[.agg #[.bool false, .slice none ([] : List (S62)).length 0, .slice Ao37 y289.length co37, .slice Ao36 y292.length co36]]) (by first | rfl | ((try simp only [List.map_toArray, List.map_cons, List.map_nil]); rfl)) ?_; (with_reducible refine (node_May.calls k false _ _ ([] : List (S62)) _ _ y289 _ _ y292 true _ ?side1 ?side2 ?side3 ?side4 ?side5 ?side6 A8.out).mono ?_); (case side1 => exact Kd.C_nil _ _); (case side2 => exact Nat.le_refl _); (case side3 => repeat (first | exact (Kd.R_reads' HO291.out).2.2 | (with_reducible refine Kd.C_alloc ?_ _) | (with_reducible refine Kd.C_drewN ?_ _) | (with_reducible refine Kd.C_drew ?_))); (case side4 => exact (Kd.R_reads' HO291.out).2.1); (case side5 => repeat (first | exact (Kd.R_reads' HO294.out).2.2 | (with_reducible refine Kd.C_alloc ?_ _) | (with_reducible refine Kd.C_drewN ?_ _) | (with_reducible refine Kd.C_drew ?_))); (case side6 => exact (Kd.R_reads' HO294.out).2.1); rintro e w69 ⟨rfl, hb⟩; replace HO287 := Aside0.mk (Kd.R_below (by (with_reducible repeat (first | apply Kd.R_alloc | apply Kd.R_drewN | apply Kd.R_drew)); exact HO287.out) hb); replace HO291 := Aside0.mk (Kd.R_below (by (with_reducible repeat (first | apply Kd.R_alloc | apply Kd.R_drewN | apply Kd.R_drew)); exact HO291.out) hb); replace HO294 := Aside0.mk (Kd.R_below (by (with_reducible repeat (first | apply Kd.R_alloc | apply Kd.R_drewN | apply Kd.R_drew)); exact HO294.out) hb); replace HO298 := Aside0.mk (Kd.R_below (by (with_reducible repeat (first | apply Kd.R_alloc | apply Kd.R_drewN | apply Kd.R_drew)); exact HO298.out) hb); replace HO302 := Aside0.mk (Kd.R_below (by (with_reducible repeat (first | apply Kd.R_alloc | apply Kd.R_drewN | apply Kd.R_drew)); exact HO302.out) hb); replace HO307 := Aside0.mk (Kd.R_below (by (with_reducible repeat (first | apply Kd.R_alloc | apply Kd.R_drewN | apply Kd.R_drew)); exact HO307.out) hb); replace HO310 := Aside0.mk (Kd.R_below (by (with_reducible repeat (first | apply Kd.R_alloc | apply Kd.R_drewN | apply Kd.R_drew)); exact HO310.out) hb); replace HO313 := Aside0.mk (Kd.R_below (by (with_reducible repeat (first | apply Kd.R_alloc | apply Kd.R_drewN | apply Kd.R_drew)); exact HO313.out) hb); replace HO318 := Aside0.mk (Kd.R_below (by (with_reducible repeat (first | apply Kd.R_alloc | apply Kd.R_drewN | apply Kd.R_drew)); exact HO318.out) hb); replace HO322 := Aside0.mk (Kd.R_below (by (with_reducible repeat (first | apply Kd.R_alloc | apply Kd.R_drewN | apply Kd.R_drew)); exact HO322.out) hb); replace HO325 := Aside0.mk (Kd.R_below (by (with_reducible repeat (first | apply Kd.R_alloc | apply Kd.R_drewN | apply Kd.R_drew)); exact HO325.out) hb); replace HO328 := Aside0.mk (Kd.R_below (by (with_reducible repeat (first | apply Kd.R_alloc | apply Kd.R_drewN | apply Kd.R_drew)); exact HO328.out) hb); replace BK288 := bB BK288 hb; replace BK295 := bB BK295 hb; replace BK315 := bB BK315 hb; replace BK330 := bB BK330 hb; replace HB := bW HB hb; (try clear hb); (try clear hb2); (try clear hk); (try clear hi)) | (go_at_call 16; refine calls_of_args (args' := #[.agg #[.bool false, .slice none ([] : List (S62)).length 0, .slice none ([] : List ByteArray).length 0, .slice none ([] : List Int).length 0]]) (by first | rfl | ((try simp only [List.map_toArray, List.map_cons, List.map_nil]); rfl)) ?_; (with_reducible refine (node_May.calls k false _ _ ([] : List (S62)) _ _ ([] : List ByteArray) _ _ ([] : List Int) false _ ?side1 ?side2 ?side3 ?side4 ?side5 ?side6 A10.out).mono ?_); (case side1 => exact Kd.C_nil _ _); (case side2 => exact Nat.le_refl _); (case side3 => exact Kd.C_nil _ _); (case side4 => exact Nat.le_refl _); (case side5 => exact Kd.C_nil _ _); (case side6 => exact Nat.le_refl _); rintro e w70 ⟨rfl, hb⟩; replace HO287 := Aside0.mk (Kd.R_below (by (with_reducible repeat (first | apply Kd.R_alloc | apply Kd.R_drewN | apply Kd.R_drew)); exact HO287.out) hb); replace HO291 := Aside0.mk (Kd.R_below (by (with_reducible repeat (first | apply Kd.R_alloc | apply Kd.R_drewN | apply Kd.R_drew)); exact HO291.out) hb); replace HO294 := Aside0.mk (Kd.R_below (by (with_reducible repeat (first | apply Kd.R_alloc | apply Kd.R_drewN | apply Kd.R_drew)); exact HO294.out) hb); replace HO298 := Aside0.mk (Kd.R_below (by (with_reducible repeat (first | apply Kd.R_alloc | apply Kd.R_drewN | apply Kd.R_drew)); exact HO298.out) hb); replace HO302 := Aside0.mk (Kd.R_below (by (with_reducible repeat (first | apply Kd.R_alloc | apply Kd.R_drewN | apply Kd.R_drew)); exact HO302.out) hb); replace HO307 := Aside0.mk (Kd.R_below (by (with_reducible repeat (first | apply Kd.R_alloc | apply Kd.R_drewN | apply Kd.R_drew)); exact HO307.out) hb); replace HO310 := Aside0.mk (Kd.R_below (by (with_reducible repeat (first | apply Kd.R_alloc | apply Kd.R_drewN | apply Kd.R_drew)); exact HO310.out) hb); replace HO313 := Aside0.mk (Kd.R_below (by (with_reducible repeat (first | apply Kd.R_alloc | apply Kd.R_drewN | apply Kd.R_drew)); exact HO313.out) hb); replace HO318 := Aside0.mk (Kd.R_below (by (with_reducible repeat (first | apply Kd.R_alloc | apply Kd.R_drewN | apply Kd.R_drew)); exact HO318.out) hb); replace HO322 := Aside0.mk (Kd.R_below (by (with_reducible repeat (first | apply Kd.R_alloc | apply Kd.R_drewN | apply Kd.R_drew)); exact HO322.out) hb); replace HO325 := Aside0.mk (Kd.R_below (by (with_reducible repeat (first | apply Kd.R_alloc | apply Kd.R_drewN | apply Kd.R_drew)); exact HO325.out) hb); replace HO328 := Aside0.mk (Kd.R_below (by (with_reducible repeat (first | apply Kd.R_alloc | apply Kd.R_drewN | apply Kd.R_drew)); exact HO328.out) hb); replace BK288 := bB BK288 hb; replace BK295 := bB BK295 hb; replace BK315 := bB BK315 hb; replace BK330 := bB BK330 hb; replace HB := bW HB hb; (try clear hb); (try clear hb2); (try clear hk); (try clear hi); obtain ⟨Ao71, co71, eo71⟩ := Kd.R_slice HO298.out; subst eo71; have p334 : 0 ≤ (0 : Int) := (by omega); have q334 : 0 < (t296.length : Int) := of_decide_eq_true (by first | (with_reducible assumption) | assumption); obtain ⟨ad334, e334, hx334_0⟩ := Kd.at_int (Kd.R_reads' HO298.out).2.2 0 p334 q334; cases e334; have qi334 : (0 < t296.length) = True := eq_true (by omega); (try rw [show ((0 : Int)).toNat = 0 from rfl] at hx334_0); (try rw [Addr.add_zero'] at hx334_0); replace p334 := eq_true p334; replace q334 := eq_true q334; obtain ⟨hcz72_0, hcz72_1, hcz72_2, hcz72_3, hfz72_0, hfz72_1, hfz72_2, hfz72_3⟩ := bf4 (w := w70) BK315; obtain ⟨hcz73_0, hcz73_1, hcz73_2, hcz73_3, hfz73_0, hfz73_1, hfz73_2, hfz73_3⟩ := bf4 (w := w70) BK295) | (go_at_call 20; refine calls_of_args (args' := #[.agg #[.bool false, .slice none ([] : List (S62)).length 0, .slice Ao37 y289.length co37, .slice Ao36 y292.length co36], .string (⟨#[107]⟩ : ByteArray)]) (by first | rfl | ((try simp only [List.map_toArray, List.map_cons, List.map_nil]); rfl)) ?_; (with_reducible refine (node_Kid.calls k false _ _ ([] : List (S62)) _ _ y289 _ _ y292 (⟨#[107]⟩ : ByteArray) t335 _ ?side1 ?side2 ?side3 ?side4 ?side5 ?side6 A20.out).mono ?_); (case side1 => exact Kd.C_nil _ _); (case side2 => exact Nat.le_refl _); (case side3 => repeat (first | exact (Kd.R_reads' HO291.out).2.2 | (with_reducible refine Kd.C_alloc ?_ _) | (with_reducible refine Kd.C_drewN ?_ _) | (with_reducible refine Kd.C_drew ?_))); (case side4 => exact (Kd.R_reads' HO291.out).2.1); (case side5 => repeat (first | exact (Kd.R_reads' HO294.out).2.2 | (with_reducible refine Kd.C_alloc ?_ _) | (with_reducible refine Kd.C_drewN ?_ _) | (with_reducible refine Kd.C_drew ?_))); (case side6 => exact (Kd.R_reads' HO294.out).2.1); rintro e w74 ⟨rfl, hb⟩; replace HO287 := Aside0.mk (Kd.R_below (by (with_reducible repeat (first | apply Kd.R_alloc | apply Kd.R_drewN | apply Kd.R_drew)); exact HO287.out) hb); replace HO291 := Aside0.mk (Kd.R_below (by (with_reducible repeat (first | apply Kd.R_alloc | apply Kd.R_drewN | apply Kd.R_drew)); exact HO291.out) hb); replace HO294 := Aside0.mk (Kd.R_below (by (with_reducible repeat (first | apply Kd.R_alloc | apply Kd.R_drewN | apply Kd.R_drew)); exact HO294.out) hb); replace HO298 := Aside0.mk (Kd.R_below (by (with_reducible repeat (first | apply Kd.R_alloc | apply Kd.R_drewN | apply Kd.R_drew)); exact HO298.out) hb); replace HO302 := Aside0.mk (Kd.R_below (by (with_reducible repeat (first | apply Kd.R_alloc | apply Kd.R_drewN | apply Kd.R_drew)); exact HO302.out) hb); replace HO307 := Aside0.mk (Kd.R_below (by (with_reducible repeat (first | apply Kd.R_alloc | apply Kd.R_drewN | apply Kd.R_drew)); exact HO307.out) hb); replace HO310 := Aside0.mk (Kd.R_below (by (with_reducible repeat (first | apply Kd.R_alloc | apply Kd.R_drewN | apply Kd.R_drew)); exact HO310.out) hb); replace HO313 := Aside0.mk (Kd.R_below (by (with_reducible repeat (first | apply Kd.R_alloc | apply Kd.R_drewN | apply Kd.R_drew)); exact HO313.out) hb); replace HO318 := Aside0.mk (Kd.R_below (by (with_reducible repeat (first | apply Kd.R_alloc | apply Kd.R_drewN | apply Kd.R_drew)); exact HO318.out) hb); replace HO322 := Aside0.mk (Kd.R_below (by (with_reducible repeat (first | apply Kd.R_alloc | apply Kd.R_drewN | apply Kd.R_drew)); exact HO322.out) hb); replace HO325 := Aside0.mk (Kd.R_below (by (with_reducible repeat (first | apply Kd.R_alloc | apply Kd.R_drewN | apply Kd.R_drew)); exact HO325.out) hb); replace HO328 := Aside0.mk (Kd.R_below (by (with_reducible repeat (first | apply Kd.R_alloc | apply Kd.R_drewN | apply Kd.R_drew)); exact HO328.out) hb); replace BK288 := bB BK288 hb; replace BK295 := bB BK295 hb; replace BK315 := bB BK315 hb; replace BK330 := bB BK330 hb; replace HB := bW HB hb; (try clear hb); (try clear hb2); (try clear hk); (try clear hi); obtain ⟨hcz75_0, hcz75_1, hcz75_2, hcz75_3, hfz75_0, hfz75_1, hfz75_2, hfz75_3⟩ := bf4 (w := w74) BK295) | (go_at_call 20; refine calls_of_args (args' := #[.agg #[.bool false, .slice none ([] : List (S62)).length 0, .slice Ao37 y289.length co37, .slice Ao36 y292.length co36], .string (⟨#[106]⟩ : ByteArray)]) (by first | rfl | ((try simp only [List.map_toArray, List.map_cons, List.map_nil]); rfl)) ?_; (with_reducible refine (node_Kid.calls k false _ _ ([] : List (S62)) _ _ y289 _ _ y292 (⟨#[106]⟩ : ByteArray) t336 _ ?side1 ?side2 ?side3 ?side4 ?side5 ?side6 A22.out).mono ?_); (case side1 => exact Kd.C_nil _ _); (case side2 => exact Nat.le_refl _); (case side3 => repeat (first | exact (Kd.R_reads' HO291.out).2.2 | (with_reducible refine Kd.C_alloc ?_ _) | (with_reducible refine Kd.C_drewN ?_ _) | (with_reducible refine Kd.C_drew ?_))); (case side4 => exact (Kd.R_reads' HO291.out).2.1); (case side5 => repeat (first | exact (Kd.R_reads' HO294.out).2.2 | (with_reducible refine Kd.C_alloc ?_ _) | (with_reducible refine Kd.C_drewN ?_ _) | (with_reducible refine Kd.C_drew ?_))); (case side6 => exact (Kd.R_reads' HO294.out).2.1); rintro e w76 ⟨rfl, hb⟩; replace HO287 := Aside0.mk (Kd.R_below (by (with_reducible repeat (first | apply Kd.R_alloc | apply Kd.R_drewN | apply Kd.R_drew)); exact HO287.out) hb); replace HO291 := Aside0.mk (Kd.R_below (by (with_reducible repeat (first | apply Kd.R_alloc | apply Kd.R_drewN | apply Kd.R_drew)); exact HO291.out) hb); replace HO294 := Aside0.mk (Kd.R_below (by (with_reducible repeat (first | apply Kd.R_alloc | apply Kd.R_drewN | apply Kd.R_drew)); exact HO294.out) hb); replace HO298 := Aside0.mk (Kd.R_below (by (with_reducible repeat (first | apply Kd.R_alloc | apply Kd.R_drewN | apply Kd.R_drew)); exact HO298.out) hb); replace HO302 := Aside0.mk (Kd.R_below (by (with_reducible repeat (first | apply Kd.R_alloc | apply Kd.R_drewN | apply Kd.R_drew)); exact HO302.out) hb); replace HO307 := Aside0.mk (Kd.R_below (by (with_reducible repeat (first | apply Kd.R_alloc | apply Kd.R_drewN | apply Kd.R_drew)); exact HO307.out) hb); replace HO310 := Aside0.mk (Kd.R_below (by (with_reducible repeat (first | apply Kd.R_alloc | apply Kd.R_drewN | apply Kd.R_drew)); exact HO310.out) hb); replace HO313 := Aside0.mk (Kd.R_below (by (with_reducible repeat (first | apply Kd.R_alloc | apply Kd.R_drewN | apply Kd.R_drew)); exact HO313.out) hb); replace HO318 := Aside0.mk (Kd.R_below (by (with_reducible repeat (first | apply Kd.R_alloc | apply Kd.R_drewN | apply Kd.R_drew)); exact HO318.out) hb); replace HO322 := Aside0.mk (Kd.R_below (by (with_reducible repeat (first | apply Kd.R_alloc | apply Kd.R_drewN | apply Kd.R_drew)); exact HO322.out) hb); replace HO325 := Aside0.mk (Kd.R_below (by (with_reducible repeat (first | apply Kd.R_alloc | apply Kd.R_drewN | apply Kd.R_drew)); exact HO325.out) hb); replace HO328 := Aside0.mk (Kd.R_below (by (with_reducible repeat (first | apply Kd.R_alloc | apply Kd.R_drewN | apply Kd.R_drew)); exact HO328.out) hb); replace BK288 := bB BK288 hb; replace BK295 := bB BK295 hb; replace BK315 := bB BK315 hb; replace BK330 := bB BK330 hb; replace HB := bW HB hb; (try clear hb); (try clear hb2); (try clear hk); (try clear hi); obtain ⟨hcz77_0, hcz77_1, hcz77_2, hcz77_3, hfz77_0, hfz77_1, hfz77_2, hfz77_3⟩ := bf4 (w := w76) BK288) | (go_at_call 20; refine calls_of_args (args' := #[.agg #[.bool true, .slice Ao29 y285.length co29, .slice none ([] : List ByteArray).length 0, .slice none ([] : List Int).length 0], .string (⟨#[106]⟩ : ByteArray)]) (by first | rfl | ((try simp only [List.map_toArray, List.map_cons, List.map_nil]); rfl)) ?_; (with_reducible refine (node_Kid.calls k true _ _ y285 _ _ ([] : List ByteArray) _ _ ([] : List Int) (⟨#[106]⟩ : ByteArray) t337 _ ?side1 ?side2 ?side3 ?side4 ?side5 ?side6 A24.out).mono ?_); (case side1 => repeat (first | exact (Kd.R_reads' HO287.out).2.2 | (with_reducible refine Kd.C_alloc ?_ _) | (with_reducible refine Kd.C_drewN ?_ _) | (with_reducible refine Kd.C_drew ?_))); (case side2 => exact (Kd.R_reads' HO287.out).2.1); (case side3 => exact Kd.C_nil _ _); (case side4 => exact Nat.le_refl _); (case side5 => exact Kd.C_nil _ _); (case side6 => exact Nat.le_refl _); rintro e w78 ⟨rfl, hb⟩; replace HO287 := Aside0.mk (Kd.R_below (by (with_reducible repeat (first | apply Kd.R_alloc | apply Kd.R_drewN | apply Kd.R_drew)); exact HO287.out) hb); replace HO291 := Aside0.mk (Kd.R_below (by (with_reducible repeat (first | apply Kd.R_alloc | apply Kd.R_drewN | apply Kd.R_drew)); exact HO291.out) hb); replace HO294 := Aside0.mk (Kd.R_below (by (with_reducible repeat (first | apply Kd.R_alloc | apply Kd.R_drewN | apply Kd.R_drew)); exact HO294.out) hb); replace HO298 := Aside0.mk (Kd.R_below (by (with_reducible repeat (first | apply Kd.R_alloc | apply Kd.R_drewN | apply Kd.R_drew)); exact HO298.out) hb); replace HO302 := Aside0.mk (Kd.R_below (by (with_reducible repeat (first | apply Kd.R_alloc | apply Kd.R_drewN | apply Kd.R_drew)); exact HO302.out) hb); replace HO307 := Aside0.mk (Kd.R_below (by (with_reducible repeat (first | apply Kd.R_alloc | apply Kd.R_drewN | apply Kd.R_drew)); exact HO307.out) hb); replace HO310 := Aside0.mk (Kd.R_below (by (with_reducible repeat (first | apply Kd.R_alloc | apply Kd.R_drewN | apply Kd.R_drew)); exact HO310.out) hb); replace HO313 := Aside0.mk (Kd.R_below (by (with_reducible repeat (first | apply Kd.R_alloc | apply Kd.R_drewN | apply Kd.R_drew)); exact HO313.out) hb); replace HO318 := Aside0.mk (Kd.R_below (by (with_reducible repeat (first | apply Kd.R_alloc | apply Kd.R_drewN | apply Kd.R_drew)); exact HO318.out) hb); replace HO322 := Aside0.mk (Kd.R_below (by (with_reducible repeat (first | apply Kd.R_alloc | apply Kd.R_drewN | apply Kd.R_drew)); exact HO322.out) hb); replace HO325 := Aside0.mk (Kd.R_below (by (with_reducible repeat (first | apply Kd.R_alloc | apply Kd.R_drewN | apply Kd.R_drew)); exact HO325.out) hb); replace HO328 := Aside0.mk (Kd.R_below (by (with_reducible repeat (first | apply Kd.R_alloc | apply Kd.R_drewN | apply Kd.R_drew)); exact HO328.out) hb); replace BK288 := bB BK288 hb; replace BK295 := bB BK295 hb; replace BK315 := bB BK315 hb; replace BK330 := bB BK330 hb; replace HB := bW HB hb; (try clear hb); (try clear hb2); (try clear hk); (try clear hi); obtain ⟨hcz79_0, hcz79_1, hcz79_2, hcz79_3, hfz79_0, hfz79_1, hfz79_2, hfz79_3⟩ := bf4 (w := w78) BK288) | (go_at_call 18; refine calls_of_args (args' := #[.agg #[.bool true, .slice Ao29 y285.length co29, .slice none ([] : List ByteArray).length 0, .slice none ([] : List Int).length 0]]) (by first | rfl | ((try simp only [List.map_toArray, List.map_cons, List.map_nil]); rfl)) ?_; (with_reducible refine (node_Size.calls k true _ _ y285 _ _ ([] : List ByteArray) _ _ ([] : List Int) t338 _ ?side1 ?side2 ?side3 ?side4 ?side5 ?side6 A26.out).mono ?_); (case side1 => repeat (first | exact (Kd.R_reads' HO287.out).2.2 | (with_reducible refine Kd.C_alloc ?_ _) | (with_reducible refine Kd.C_drewN ?_ _) | (with_reducible refine Kd.C_drew ?_))); (case side2 => exact (Kd.R_reads' HO287.out).2.1); (case side3 => exact Kd.C_nil _ _); (case side4 => exact Nat.le_refl _); (case side5 => exact Kd.C_nil _ _); (case side6 => exact Nat.le_refl _); rintro e w80 ⟨rfl, hb⟩; replace HO287 := Aside0.mk (Kd.R_below (by (with_reducible repeat (first | apply Kd.R_alloc | apply Kd.R_drewN | apply Kd.R_drew)); exact HO287.out) hb); replace HO291 := Aside0.mk (Kd.R_below (by (with_reducible repeat (first | apply Kd.R_alloc | apply Kd.R_drewN | apply Kd.R_drew)); exact HO291.out) hb); replace HO294 := Aside0.mk (Kd.R_below (by (with_reducible repeat (first | apply Kd.R_alloc | apply Kd.R_drewN | apply Kd.R_drew)); exact HO294.out) hb); replace HO298 := Aside0.mk (Kd.R_below (by (with_reducible repeat (first | apply Kd.R_alloc | apply Kd.R_drewN | apply Kd.R_drew)); exact HO298.out) hb); replace HO302 := Aside0.mk (Kd.R_below (by (with_reducible repeat (first | apply Kd.R_alloc | apply Kd.R_drewN | apply Kd.R_drew)); exact HO302.out) hb); replace HO307 := Aside0.mk (Kd.R_below (by (with_reducible repeat (first | apply Kd.R_alloc | apply Kd.R_drewN | apply Kd.R_drew)); exact HO307.out) hb); replace HO310 := Aside0.mk (Kd.R_below (by (with_reducible repeat (first | apply Kd.R_alloc | apply Kd.R_drewN | apply Kd.R_drew)); exact HO310.out) hb); replace HO313 := Aside0.mk (Kd.R_below (by (with_reducible repeat (first | apply Kd.R_alloc | apply Kd.R_drewN | apply Kd.R_drew)); exact HO313.out) hb); replace HO318 := Aside0.mk (Kd.R_below (by (with_reducible repeat (first | apply Kd.R_alloc | apply Kd.R_drewN | apply Kd.R_drew)); exact HO318.out) hb); replace HO322 := Aside0.mk (Kd.R_below (by (with_reducible repeat (first | apply Kd.R_alloc | apply Kd.R_drewN | apply Kd.R_drew)); exact HO322.out) hb); replace HO325 := Aside0.mk (Kd.R_below (by (with_reducible repeat (first | apply Kd.R_alloc | apply Kd.R_drewN | apply Kd.R_drew)); exact HO325.out) hb); replace HO328 := Aside0.mk (Kd.R_below (by (with_reducible repeat (first | apply Kd.R_alloc | apply Kd.R_drewN | apply Kd.R_drew)); exact HO328.out) hb); replace BK288 := bB BK288 hb; replace BK295 := bB BK295 hb; replace BK315 := bB BK315 hb; replace BK330 := bB BK330 hb; replace HB := bW HB hb; (try clear hb); (try clear hb2); (try clear hk); (try clear hi)))
                go_ret
                exact ⟨by first | rfl | (simp [errW_none, errW_some] <;> rfl) | (simp [*, errW_none, errW_some] <;> rfl), by repeat (first | (with_reducible first | exact HB.out | apply below_alloc | apply pw_below_drewN | apply below_drew1 | refine below_set ?_ GE288.out | refine below_set ?_ GE295.out | refine below_set ?_ GE315.out | refine below_set ?_ GE330.out) | exact HB.out)⟩
               ·rw [if_neg c25] at H
                exact absurd H (by simp)
              ·rw [if_neg c23] at H
               exact absurd H (by simp)
             ·rw [if_neg c21] at H
              exact absurd H (by simp)
            ·rw [if_neg c19] at H
             exact absurd H (by simp)
           ·rw [if_neg c18] at H
            exact absurd H (by simp)
          ·rw [if_neg c17] at H
           exact absurd H (by simp)
         ·rw [if_neg c16] at H
          exact absurd H (by simp)
        ·rw [if_neg c15] at H
         exact absurd H (by simp)
       ·rw [if_neg c14] at H
        exact absurd H (by simp)
      ·rw [if_neg c13] at H
       exact absurd H (by simp)
     ·rw [if_neg c12] at H
      exact absurd H (by simp)
   ·replace c9 := Bool.eq_false_iff.mpr c9
    subst c9
    have H1 : (none) = some r := by rw [if_neg (show ¬ (false = true) by decide)] at H; exact H
    clear H
    have H := H1
    clear H1
    exact absurd H (by simp)
  ·replace c7 := Bool.eq_false_iff.mpr c7
   subst c7
   have H1 : (none) = some r := by rw [if_neg (show ¬ (false = true) by decide)] at H; exact H
   clear H
   have H := H1
   clear H1
   exact absurd H (by simp)
 ·rw [if_neg c4] at H
  exact absurd H (by simp)
end Go.Proofs.Ytmmjpieafbjggaa.P
end
section
namespace Go.Proofs.Ytmmjpieafbjggaa.P
open Go.RowKit Go.Proofs.YtmmjpieafbjggaaW.PrintWords Go.Proofs.YtmmjpieafbjggaaW.PrintLast Go.Proofs.YtmmjpieafbjggaaW.PrintMore
attribute [local go_sem] max2_int min2_int max_two min_two max_three min_three max_four min_four   -- for this text's walks alone
attribute [local go_sem] x_str_gtr x_str_leq x_str_geq ext_bits ext_frombits ext_neg x_store_float Instr.field asAgg
set_option linter.unusedVariables false
set_option linter.unusedSimpArgs false
def engrosslaw10_Of.f (a0_0 : ByteArray) (a0_1 : Int) (a0_2 : Nat) (a0_3 : ByteArray) (a0_4 : Int) (a0_5 : Int) (a0_6 : Nat) (a0_7 : ByteArray) : Option (ByteArray × Int × Nat × ByteArray × Int × Int × Nat × ByteArray) := some (a0_0, a0_1, a0_2, a0_3, a0_4, a0_5, a0_6, a0_7)
set_option maxHeartbeats 8000000 in
set_option maxRecDepth 100000 in
theorem engrosslaw10_Of.calls (a0_0 : ByteArray) (a0_1 : Int) (a0_2 : Nat) (a0_3 : ByteArray) (a0_4 : Int) (a0_5 : Int) (a0_6 : Nat) (a0_7 : ByteArray) (r1 : ByteArray) (r2 : Int) (r3 : Nat) (r4 : ByteArray) (r5 : Int) (r6 : Int) (r7 : Nat) (r8 : ByteArray) (w : World) (h : engrosslaw10_Of.f a0_0 a0_1 a0_2 a0_3 a0_4 a0_5 a0_6 a0_7 = some (r1, r2, r3, r4, r5, r6, r7, r8)) :
  Calls Try.prog 35 #[.agg #[.string a0_0, .int .i64 a0_1, .float .f64 a0_2, .string a0_3, .int .i64 a0_4, .int .i64 a0_5, .float .f64 a0_6, .string a0_7]] w fun e w' => e = .returned (.agg #[.string r1, .int .i64 r2, .float .f64 r3, .string r4, .int .i64 r5, .int .i64 r6, .float .f64 r7, .string r8]) ∧ Below w.heap.size w w' := by
 have hu56 := Try.underlying56
 have hu62 := Try.underlying62
 have hu54 := Try.underlying54
 have HB := Aside0.mk (Below.refl w.heap.size w)
 have H : (some (a0_0, a0_1, a0_2, a0_3, a0_4, a0_5, a0_6, a0_7)) = some (r1, r2, r3, r4, r5, r6, r7, r8) := h
 clear h
 simp only [Option.some.injEq, Prod.mk.injEq] at H
 obtain ⟨rfl, rfl, rfl, rfl, rfl, rfl, rfl, rfl⟩ := H
 go_enter Try.func35, Try.ntmps35
 go_wp2_with (first | ((with_reducible refine gate_dst (N := 1) rfl ?_); refine box_event ?hg (N := 1) ?hd (cs := #[.string a0_0, .int .i64 a0_1, .float .f64 a0_2, .string a0_3, .int .i64 a0_4, .int .i64 a0_5, .float .f64 a0_6, .string a0_7]) (t := 56) ?hr ?_; (case hd => rfl); (case hg => rfl); (case hr => first | (go_simp; done) | (go_simp; rfl)); intro gb495 hg w2 hbox hb; have BK495 := Aside0.mk (hbox); have GW495 := bZ HB hg; have GE495 := bZ HB hg; replace HB := bW HB hb; clear hb hbox hg) | ((with_reducible refine gate_dst (N := 2) rfl ?_); refine box_event ?hg (N := 2) ?hd (cs := #[.string (⟨#[]⟩ : ByteArray), .int .i64 0, .float .f64 0, .string (⟨#[]⟩ : ByteArray), .int .i64 0, .int .i64 0, .float .f64 0, .string (⟨#[]⟩ : ByteArray)]) (t := 62) ?hr ?_; (case hd => rfl); (case hg => rfl); (case hr => first | (go_simp; done) | (go_simp; rfl)); intro gb496 hg w3 hbox hb; have BK496 := Aside0.mk (hbox); have GW496 := bZ HB hg; have GE496 := bZ HB hg; have NB495_496 := bL BK495 hg; have NB496_495 := bG BK495 hg; replace BK495 := bB BK495 hb; replace HB := bW HB hb; clear hb hbox hg; have hnb4 := NB495_496.out; have hnc4 := NB496_495.out; obtain ⟨hcz5_0, hcz5_1, hcz5_2, hcz5_3, hcz5_4, hcz5_5, hcz5_6, hcz5_7, hfz5_0, hfz5_1, hfz5_2, hfz5_3, hfz5_4, hfz5_5, hfz5_6, hfz5_7⟩ := bf8 (w := w3) BK495; obtain ⟨hcz6_0, hcz6_1, hcz6_2, hcz6_3, hcz6_4, hcz6_5, hcz6_6, hcz6_7, hfz6_0, hfz6_1, hfz6_2, hfz6_3, hfz6_4, hfz6_5, hfz6_6, hfz6_7⟩ := bf8 (w := w3) BK496))
 refine bodyPost_ret (results_cell_row rfl _ _ gb496 62 #[.string a0_0, .int .i64 a0_1, .float .f64 a0_2, .string a0_3, .int .i64 a0_4, .int .i64 a0_5, .float .f64 a0_6, .string a0_7] (0, 0) _ rfl (bR BK496) Try.underlying62 rfl (by kernel_rfl)) rfl ?_
 exact ⟨by first | rfl | (simp [errW_none, errW_some] <;> rfl) | (simp [*, errW_none, errW_some] <;> rfl), by repeat (first | (with_reducible first | exact HB.out | apply below_alloc | apply pw_below_drewN | apply below_drew1 | refine below_set ?_ GE495.out | refine below_set ?_ GE496.out) | exact HB.out)⟩
end Go.Proofs.Ytmmjpieafbjggaa.P
end
section
namespace Go.Proofs.Ytmmjpieafbjggaa.P
open Go.RowKit Go.Proofs.YtmmjpieafbjggaaW.PrintWords Go.Proofs.YtmmjpieafbjggaaW.PrintLast Go.Proofs.YtmmjpieafbjggaaW.PrintMore
attribute [local go_sem] max2_int min2_int max_two min_two max_three min_three max_four min_four   -- for this text's walks alone
attribute [local go_sem] x_str_gtr x_str_leq x_str_geq ext_bits ext_frombits ext_neg x_store_float Instr.field asAgg
set_option linter.unusedVariables false
set_option linter.unusedSimpArgs false
def engrosslaw11_Of.l0 : Nat → Int → Bool → List (S56) → List ByteArray → List Int → Bool → List (S62) → List ByteArray → List Int → Option (Bool × (List (S62)) × List ByteArray × List Int)
 | 0, _, _, _, _, _, _, _, _, _ => none
 | k + 1, x4, x498000, x498001, x498002, x498003, x500000, x500001, x500002, x500003 => if x4 < (x498001.length : Int) then (if 0 ≤ x4 then ((engrosslaw10_Of.f ((rd_T56 x498001 x4).f0) ((rd_T56 x498001 x4).f1.f0) ((rd_T56 x498001 x4).f1.f1) ((rd_T56 x498001 x4).f1.f2) ((rd_T56 x498001 x4).f2) ((rd_T56 x498001 x4).f3.f0) ((rd_T56 x498001 x4).f3.f1) ((rd_T56 x498001 x4).f3.f2)).bind fun bt501 => (if x500001.length < 1599289640401 then (engrosslaw11_Of.l0 k (wrap64 (x4 + 1)) x498000 x498001 x498002 x498003 x500000 (x500001 ++ [(⟨bt501.1, (⟨bt501.2.1, bt501.2.2.1, bt501.2.2.2.1⟩ : S54), bt501.2.2.2.2.1, (⟨bt501.2.2.2.2.2.1, bt501.2.2.2.2.2.2.1, bt501.2.2.2.2.2.2.2⟩ : S54)⟩ : S62)]) x500002 x500003) else (none))) else (none)) else (some (x500000, x500001, x500002, x500003))
def engrosslaw11_Of.f (k : Nat) (a0_0 : Bool) (l0_1 : List (S56)) (l0_2 : List ByteArray) (l0_3 : List Int) : Option (Bool × (List (S62)) × List ByteArray × List Int) := engrosslaw11_Of.l0 k 0 a0_0 l0_1 l0_2 l0_3 a0_0 ([] : List (S62)) l0_2 l0_3
def engrosslaw11_Of.T5 : Bool × List (List Nat × List Nat) := (true, [([], []), ([0], [0]), ([], []), ([2], [2]), ([], []), ([3, 4], [3, 4]), ([5], [5]), ([6], [6]), ([7], [7]), ([1, 8, 7], [1, 8]), ([0, 1, 2, 3, 4, 5, 6, 7, 8, 9], []), ([10, 9, 9, 0, 1, 2, 3, 4, 5, 6, 7, 8, 9], [9, 10])])
def engrosslaw11_Of.B5 : List Nat := [0, 1, 0, 4, 0, 28, 60, 124, 252, 511, 1023, 2047]
theorem engrosslaw11_Of.tab5 : rtab .any (opsOf Try.f17 5) = engrosslaw11_Of.T5 := by kernel_rfl
theorem engrosslaw11_Of.bits5 : waitsOk engrosslaw11_Of.T5.2 engrosslaw11_Of.B5 = true := by kernel_rfl
set_option maxHeartbeats 8000000 in
set_option maxRecDepth 100000 in
theorem engrosslaw11_Of.calls (k : Nat) (a0_0 : Bool) (A0_1 : Option Addr) (c0_1 : Nat) (l0_1 : List (S56)) (P0_2_ : Nat → Prop) (A0_2 : Option Addr) (c0_2 : Nat) (l0_2 : List ByteArray) (P0_3_ : Nat → Prop) (A0_3 : Option Addr) (c0_3 : Nat) (l0_3 : List Int) (r1 : Bool) (r2 : List (S62)) (r3 : List ByteArray) (r4 : List Int) (w : World) (hr0_1 : Kd.C k56 w A0_1 l0_1.length l0_1) (hc0_1 : l0_1.length ≤ c0_1) (hs0_2 : Kd.V Kd.string 9 w w.heap.size (fun k_ => P0_2_ k_) (.slice A0_2 l0_2.length c0_2) l0_2) (hs0_3 : Kd.V (Kd.int .i64) 3 w w.heap.size (fun k_ => P0_3_ k_) (.slice A0_3 l0_3.length c0_3) l0_3) (h : engrosslaw11_Of.f k a0_0 l0_1 l0_2 l0_3 = some (r1, r2, r3, r4)) :
  Calls Try.prog 17 #[.agg #[.bool a0_0, .slice A0_1 l0_1.length c0_1, .slice A0_2 l0_2.length c0_2, .slice A0_3 l0_3.length c0_3]] w fun e w' => ∃ v1_ v2_ v3_ : Value, e = .returned (.agg #[.bool r1, v1_, v2_, v3_]) ∧ Kd.R k62 62 w' w.heap.size (fun k_ => (w.heap.size ≤ k_)) v1_ r2 ∧ Kd.V Kd.string 9 w' w.heap.size (fun k_ => ((P0_2_ k_ ∨ P0_3_ k_) ∨ w.heap.size ≤ k_) ∧ some k_ ≠ (v1_ : Value).ownBlock) v2_ r3 ∧ Kd.V (Kd.int .i64) 3 w' w.heap.size (fun k_ => ((P0_2_ k_ ∨ P0_3_ k_) ∨ w.heap.size ≤ k_) ∧ some k_ ≠ (v1_ : Value).ownBlock) v3_ r4 ∧ Below w.heap.size w w' := by
 have hu26 := Try.underlying26
 have hu36 := Try.underlying36
 have hu56 := Try.underlying56
 have HR0_1 := Aside0.mk hr0_1
 have HC0_1 := Aside0.mk hc0_1
 clear hr0_1 hc0_1
 have HO0_2 := Aside0.mk (show Kd.V Kd.string 9 w w.heap.size (fun k_ => ((P0_2_ k_ ∨ P0_3_ k_) ∨ w.heap.size ≤ k_)) (.slice A0_2 l0_2.length c0_2) l0_2 from Kd.V_mono hs0_2 (fun k_ hk => .inl (.inl hk)))
 have HO0_3 := Aside0.mk (show Kd.V (Kd.int .i64) 3 w w.heap.size (fun k_ => ((P0_2_ k_ ∨ P0_3_ k_) ∨ w.heap.size ≤ k_)) (.slice A0_3 l0_3.length c0_3) l0_3 from Kd.V_mono hs0_3 (fun k_ hk => .inl (.inr hk)))
 have HB := Aside0.mk (Below.refl w.heap.size w)
 have H : (engrosslaw11_Of.l0 k 0 a0_0 l0_1 l0_2 l0_3 a0_0 ([] : List (S62)) l0_2 l0_3) = some (r1, r2, r3, r4) := h
 clear h
 have H' := Aside0.mk H
 clear H
 go_enter Try.func17, Try.ntmps17
 go_wp2_with (first | ((with_reducible refine gate_dst (N := 1) rfl ?_); refine box_event ?hg (N := 1) ?hd (cs := #[.bool a0_0, .slice A0_1 l0_1.length c0_1, .slice A0_2 l0_2.length c0_2, .slice A0_3 l0_3.length c0_3]) (t := 26) ?hr ?_; (case hd => rfl); (case hg => rfl); (case hr => first | (go_simp; done) | (go_simp; rfl)); intro gb497 hg w2 hbox hb; have BK497 := Aside0.mk (hbox); have GW497 := bZ HB hg; have GE497 := bZ HB hg; replace HO0_2 := Aside0.mk (Kd.V_below (Kd.V_elderB (by (with_reducible repeat (first | apply Kd.V_alloc | apply Kd.V_drewN | apply Kd.V_drew)); exact HO0_2.out) gb497 (Nat.le_of_eq hg.symm)) hb); replace HO0_3 := Aside0.mk (Kd.V_below (Kd.V_elderB (by (with_reducible repeat (first | apply Kd.V_alloc | apply Kd.V_drewN | apply Kd.V_drew)); exact HO0_3.out) gb497 (Nat.le_of_eq hg.symm)) hb); replace HB := bW HB hb; clear hb hbox hg) | ((with_reducible refine gate_dst (N := 2) rfl ?_); refine box_event ?hg (N := 2) ?hd (cs := #[.bool false, .slice none 0 0, .slice none 0 0, .slice none 0 0]) (t := 36) ?hr ?_; (case hd => rfl); (case hg => rfl); (case hr => first | (go_simp; done) | (go_simp; rfl)); intro gb498 hg w3 hbox hb; have BK498 := Aside0.mk (hbox); have GW498 := bZ HB hg; have GE498 := bZ HB hg; have NB497_498 := bL BK497 hg; have NB498_497 := bG BK497 hg; replace HO0_2 := Aside0.mk (Kd.V_below (Kd.V_elderB (by (with_reducible repeat (first | apply Kd.V_alloc | apply Kd.V_drewN | apply Kd.V_drew)); exact HO0_2.out) gb498 (Nat.le_of_eq hg.symm)) hb); replace HO0_3 := Aside0.mk (Kd.V_below (Kd.V_elderB (by (with_reducible repeat (first | apply Kd.V_alloc | apply Kd.V_drewN | apply Kd.V_drew)); exact HO0_3.out) gb498 (Nat.le_of_eq hg.symm)) hb); replace BK497 := bB BK497 hb; replace HB := bW HB hb; clear hb hbox hg; have hnb4 := NB497_498.out; have hnc4 := NB498_497.out; obtain ⟨hcz5_0, hcz5_1, hcz5_2, hcz5_3, hfz5_0, hfz5_1, hfz5_2, hfz5_3⟩ := bf4 (w := w3) BK497) | ((with_reducible refine gate_dst (N := 3) rfl ?_); refine box_event ?hg (N := 3) ?hd (cs := #[.bool false, .slice none 0 0, .slice none 0 0, .slice none 0 0]) (t := 36) ?hr ?_; (case hd => rfl); (case hg => rfl); (case hr => first | (go_simp; done) | (go_simp; rfl)); intro gb499 hg w6 hbox hb; have BK499 := Aside0.mk (hbox); have GW499 := bZ HB hg; have GE499 := bZ HB hg; have NB497_499 := bL BK497 hg; have NB499_497 := bG BK497 hg; have NB498_499 := bL BK498 hg; have NB499_498 := bG BK498 hg; replace HO0_2 := Aside0.mk (Kd.V_below (Kd.V_elderB (by (with_reducible repeat (first | apply Kd.V_alloc | apply Kd.V_drewN | apply Kd.V_drew)); exact HO0_2.out) gb499 (Nat.le_of_eq hg.symm)) hb); replace HO0_3 := Aside0.mk (Kd.V_below (Kd.V_elderB (by (with_reducible repeat (first | apply Kd.V_alloc | apply Kd.V_drewN | apply Kd.V_drew)); exact HO0_3.out) gb499 (Nat.le_of_eq hg.symm)) hb); replace BK497 := bB BK497 hb; replace BK498 := bB BK498 hb; replace HB := bW HB hb; clear hb hbox hg; have hnb7 := NB499_497.out; have hnc7 := NB497_499.out; have hnb8 := NB499_498.out; have hnc8 := NB498_499.out; obtain ⟨hcz9_0, hcz9_1, hcz9_2, hcz9_3, hfz9_0, hfz9_1, hfz9_2, hfz9_3⟩ := bf4 (w := w6) BK499))
 go_loopg [4] k (fun kq v4 w' => ∃ (x4_1 : Int) (x500001_1 : List (S62)) (u500001 : Value), v4 = .int .i64 x4_1 ∧ Aside0 (engrosslaw11_Of.l0 kq x4_1 a0_0 l0_1 l0_2 l0_3 a0_0 x500001_1 l0_2 l0_3 = some (r1, r2, r3, r4)) ∧ Aside0 (kq ≤ k) ∧ Aside0 (Kd.V Kd.string 9 w' w.heap.size (fun k_ => ((P0_2_ k_ ∨ P0_3_ k_) ∨ w.heap.size ≤ k_) ∧ some k_ ≠ (u500001 : Value).ownBlock ∧ k_ ≠ gb497 ∧ k_ ≠ gb498 ∧ k_ ≠ gb499) (.slice A0_2 l0_2.length c0_2) l0_2) ∧ Aside0 (Kd.V (Kd.int .i64) 3 w' w.heap.size (fun k_ => ((P0_2_ k_ ∨ P0_3_ k_) ∨ w.heap.size ≤ k_) ∧ some k_ ≠ (u500001 : Value).ownBlock ∧ k_ ≠ gb497 ∧ k_ ≠ gb498 ∧ k_ ≠ gb499) (.slice A0_3 l0_3.length c0_3) l0_3) ∧ Aside0 (Kd.R k62 62 w' w.heap.size (fun k_ => (w.heap.size ≤ k_)) u500001 x500001_1) ∧ Aside0 (Kd.V Kd.string 9 w' w.heap.size (fun k_ => ((P0_2_ k_ ∨ P0_3_ k_) ∨ w.heap.size ≤ k_) ∧ some k_ ≠ (u500001 : Value).ownBlock ∧ k_ ≠ gb497 ∧ k_ ≠ gb498 ∧ k_ ≠ gb499) (.slice A0_2 l0_2.length c0_2) l0_2) ∧ Aside0 (Kd.V (Kd.int .i64) 3 w' w.heap.size (fun k_ => ((P0_2_ k_ ∨ P0_3_ k_) ∨ w.heap.size ≤ k_) ∧ some k_ ≠ (u500001 : Value).ownBlock ∧ k_ ≠ gb497 ∧ k_ ≠ gb498 ∧ k_ ≠ gb499) (.slice A0_3 l0_3.length c0_3) l0_3) ∧ Aside0 (w'.heap[gb497]? = some (.cells #[.bool a0_0, (.slice A0_1 l0_1.length c0_1), (.slice A0_2 l0_2.length c0_2), (.slice A0_3 l0_3.length c0_3)] 26 (0, 0))) ∧ Aside0 (w'.heap[gb498]? = some (.cells #[.bool false, (.slice none 0 0), (.slice none 0 0), (.slice none 0 0)] 36 (0, 0))) ∧ Aside0 (w'.heap[gb499]? = some (.cells #[.bool a0_0, u500001, (.slice A0_2 l0_2.length c0_2), (.slice A0_3 l0_3.length c0_3)] 36 (0, 0))) ∧ Aside0 (Below w.heap.size w w'))
 case atStart => exact ⟨(0), (([] : List (S62))), (.slice none 0 0), (by first | rfl | (simp; done) | (simp [*]; done)), H', ⟨Nat.le_refl _⟩, ⟨by (with_reducible repeat (first | apply Kd.V_alloc | apply Kd.V_drewN | apply Kd.V_drew)); exact Kd.V_mono (Kd.V_far (p := ⟨gb499, 3, none⟩) (Kd.V_far (p := ⟨gb499, 2, none⟩) (Kd.V_far (p := ⟨gb499, 1, none⟩) (Kd.V_far (p := ⟨gb499, 0, none⟩) (Kd.V_mono HO0_2.out (fun k_ hk => (⟨hk, hk.2⟩ : _ ∧ k_ ≠ gb499))) (fun _ hk => hk.2) (.bool a0_0)) (fun _ hk => hk.2) (.slice none 0 0)) (fun _ hk => hk.2) (.slice A0_2 l0_2.length c0_2)) (fun _ hk => hk.2) (.slice A0_3 l0_3.length c0_3)) (fun _ hk => ⟨hk.1.1.1.1, ⟨(by simp [Value.ownBlock]), ⟨hk.1.1.1.2, ⟨hk.1.1.2, hk.1.2⟩⟩⟩⟩)⟩, ⟨by (with_reducible repeat (first | apply Kd.V_alloc | apply Kd.V_drewN | apply Kd.V_drew)); exact Kd.V_mono (Kd.V_far (p := ⟨gb499, 3, none⟩) (Kd.V_far (p := ⟨gb499, 2, none⟩) (Kd.V_far (p := ⟨gb499, 1, none⟩) (Kd.V_far (p := ⟨gb499, 0, none⟩) (Kd.V_mono HO0_3.out (fun k_ hk => (⟨hk, hk.2⟩ : _ ∧ k_ ≠ gb499))) (fun _ hk => hk.2) (.bool a0_0)) (fun _ hk => hk.2) (.slice none 0 0)) (fun _ hk => hk.2) (.slice A0_2 l0_2.length c0_2)) (fun _ hk => hk.2) (.slice A0_3 l0_3.length c0_3)) (fun _ hk => ⟨hk.1.1.1.1, ⟨(by simp [Value.ownBlock]), ⟨hk.1.1.1.2, ⟨hk.1.1.2, hk.1.2⟩⟩⟩⟩)⟩, ⟨by first | exact Kd.R_nil _ _ _ _ _ | exact Kd.N_nil _ _ _ _ _ | exact Kd.V_nil _ _ _ _ _ | exact Kd.Q_nil _ _ _ _ _ | exact Kd.S_nil _ _ _ _ _⟩, ⟨by (with_reducible repeat (first | apply Kd.V_alloc | apply Kd.V_drewN | apply Kd.V_drew)); exact Kd.V_mono (Kd.V_far (p := ⟨gb499, 3, none⟩) (Kd.V_far (p := ⟨gb499, 2, none⟩) (Kd.V_far (p := ⟨gb499, 1, none⟩) (Kd.V_far (p := ⟨gb499, 0, none⟩) (Kd.V_mono HO0_2.out (fun k_ hk => (⟨hk, hk.2⟩ : _ ∧ k_ ≠ gb499))) (fun _ hk => hk.2) (.bool a0_0)) (fun _ hk => hk.2) (.slice none 0 0)) (fun _ hk => hk.2) (.slice A0_2 l0_2.length c0_2)) (fun _ hk => hk.2) (.slice A0_3 l0_3.length c0_3)) (fun _ hk => ⟨hk.1.1.1.1, ⟨(by simp [Value.ownBlock]), ⟨hk.1.1.1.2, ⟨hk.1.1.2, hk.1.2⟩⟩⟩⟩)⟩, ⟨by (with_reducible repeat (first | apply Kd.V_alloc | apply Kd.V_drewN | apply Kd.V_drew)); exact Kd.V_mono (Kd.V_far (p := ⟨gb499, 3, none⟩) (Kd.V_far (p := ⟨gb499, 2, none⟩) (Kd.V_far (p := ⟨gb499, 1, none⟩) (Kd.V_far (p := ⟨gb499, 0, none⟩) (Kd.V_mono HO0_3.out (fun k_ hk => (⟨hk, hk.2⟩ : _ ∧ k_ ≠ gb499))) (fun _ hk => hk.2) (.bool a0_0)) (fun _ hk => hk.2) (.slice none 0 0)) (fun _ hk => hk.2) (.slice A0_2 l0_2.length c0_2)) (fun _ hk => hk.2) (.slice A0_3 l0_3.length c0_3)) (fun _ hk => ⟨hk.1.1.1.1, ⟨(by simp [Value.ownBlock]), ⟨hk.1.1.1.2, ⟨hk.1.1.2, hk.1.2⟩⟩⟩⟩)⟩, ⟨by (with_reducible repeat (first | refine blk_drewN ?_ _ | refine blk_drew ?_ | refine blk_alloc ?_ _)); refine blk_far ?_ NB497_499.out _; (with_reducible repeat (first | refine blk_drewN ?_ _ | refine blk_drew ?_ | refine blk_alloc ?_ _)); refine blk_far ?_ NB497_499.out _; (with_reducible repeat (first | refine blk_drewN ?_ _ | refine blk_drew ?_ | refine blk_alloc ?_ _)); refine blk_far ?_ NB497_499.out _; (with_reducible repeat (first | refine blk_drewN ?_ _ | refine blk_drew ?_ | refine blk_alloc ?_ _)); refine blk_far ?_ NB497_499.out _; (with_reducible repeat (first | refine blk_drewN ?_ _ | refine blk_drew ?_ | refine blk_alloc ?_ _)); exact BK497.out⟩, ⟨by (with_reducible repeat (first | refine blk_drewN ?_ _ | refine blk_drew ?_ | refine blk_alloc ?_ _)); refine blk_far ?_ NB498_499.out _; (with_reducible repeat (first | refine blk_drewN ?_ _ | refine blk_drew ?_ | refine blk_alloc ?_ _)); refine blk_far ?_ NB498_499.out _; (with_reducible repeat (first | refine blk_drewN ?_ _ | refine blk_drew ?_ | refine blk_alloc ?_ _)); refine blk_far ?_ NB498_499.out _; (with_reducible repeat (first | refine blk_drewN ?_ _ | refine blk_drew ?_ | refine blk_alloc ?_ _)); refine blk_far ?_ NB498_499.out _; (with_reducible repeat (first | refine blk_drewN ?_ _ | refine blk_drew ?_ | refine blk_alloc ?_ _)); exact BK498.out⟩, ⟨by (with_reducible repeat (first | refine blk_drewN ?_ _ | refine blk_drew ?_ | refine blk_alloc ?_ _)); refine blk_put (cs := #[.bool a0_0, .slice none 0 0, .slice A0_2 l0_2.length c0_2, .slice none 0 0]) ?_ 3 _ rfl; (with_reducible repeat (first | refine blk_drewN ?_ _ | refine blk_drew ?_ | refine blk_alloc ?_ _)); refine blk_put (cs := #[.bool a0_0, .slice none 0 0, .slice none 0 0, .slice none 0 0]) ?_ 2 _ rfl; (with_reducible repeat (first | refine blk_drewN ?_ _ | refine blk_drew ?_ | refine blk_alloc ?_ _)); refine blk_put (cs := #[.bool a0_0, .slice none 0 0, .slice none 0 0, .slice none 0 0]) ?_ 1 _ rfl; (with_reducible repeat (first | refine blk_drewN ?_ _ | refine blk_drew ?_ | refine blk_alloc ?_ _)); refine blk_put (cs := #[.bool false, .slice none 0 0, .slice none 0 0, .slice none 0 0]) ?_ 0 _ rfl; (with_reducible repeat (first | refine blk_drewN ?_ _ | refine blk_drew ?_ | refine blk_alloc ?_ _)); exact BK499.out⟩, ⟨by repeat (first | (with_reducible first | exact HB.out | apply below_alloc | apply pw_below_drewN | apply below_drew1 | refine below_set ?_ GE497.out | refine below_set ?_ GE498.out | refine below_set ?_ GE499.out) | exact HB.out)⟩⟩
 case round =>
  clear H'
  try clear c1
  try clear p2
  try clear c4
  try clear c7
  try clear c8
  try clear hcz5_0
  try clear hcz5_1
  try clear hcz5_2
  try clear hcz5_3
  try clear hcz9_0
  try clear hcz9_1
  try clear hcz9_2
  try clear hcz9_3
  try clear hfz5_0
  try clear hfz5_1
  try clear hfz5_2
  try clear hfz5_3
  try clear hfz9_0
  try clear hfz9_1
  try clear hfz9_2
  try clear hfz9_3
  obtain ⟨x4_1, x500001_1, u500001, rfl, HA, HK1, HO_498002, HO_498003, HO_500001, HO_500002, HO_500003, BK497, BK498, BK499, HB⟩ := hrel
  cases gk with
  | zero => exact absurd HA.out (by simp [engrosslaw11_Of.l0])
  | succ k1 =>
   have H := HA.out
   clear HA
   simp only [engrosslaw11_Of.l0] at H
   by_cases c10 : x4_1 < (l0_1.length : Int)
   ·rw [if_pos c10] at H
    have c10b0 : decide (x4_1 < (l0_1.length : Int)) = true := decide_eq_true c10
    clear c10
    by_cases c11 : 0 ≤ x4_1
    ·rw [if_pos c11] at H
     have c11b0 : decide (0 ≤ x4_1) = true := decide_eq_true c11
     clear c11
     replace H := Option.bind_eq_some_iff.mp H
     obtain ⟨⟨t501, t502, t503, t504, t505, t506, t507, t508⟩, A120, H⟩ := H
     replace H : (if x500001_1.length < 1599289640401 then (engrosslaw11_Of.l0 k1 (wrap64 (x4_1 + 1)) a0_0 l0_1 l0_2 l0_3 a0_0 (x500001_1 ++ [(⟨t501, (⟨t502, t503, t504⟩ : S54), t505, (⟨t506, t507, t508⟩ : S54)⟩ : S62)]) l0_2 l0_3) else (none)) = some (r1, r2, r3, r4) := H
     have A12 := Aside0.mk A120
     clear A120
     by_cases c13 : x500001_1.length < 1599289640401
     ·rw [if_pos c13] at H
      have LMc13 := Aside0.mk c13
      clear c13
      obtain ⟨y509, hy509⟩ : ∃ y_ : List (S62), y_ = (x500001_1 ++ [(⟨t501, (⟨t502, t503, t504⟩ : S54), t505, (⟨t506, t507, t508⟩ : S54)⟩ : S62)]) := ⟨_, rfl⟩
      replace H : (engrosslaw11_Of.l0 k1 (wrap64 (x4_1 + 1)) a0_0 l0_1 l0_2 l0_3 a0_0 y509 l0_2 l0_3) = some (r1, r2, r3, r4) := by first | (rw [hy509]; with_reducible exact H) | (have H2_ := (Option.bind_some _ _).symm.trans H; rw [hy509]; with_reducible exact H2_) | (have H2_ := (Option.bind_some _ _).symm.trans H; with_reducible exact H2_) | with_reducible exact H | (rw [hy509]; exact H) | exact H
      have Ny509 := Aside0.mk hy509
      clear hy509
      have H' := Aside0.mk H
      clear H
      have hnb14 := NB497_498.out
      have hnc14 := NB498_497.out
      have hnb15 := NB497_499.out
      have hnc15 := NB499_497.out
      obtain ⟨hcz16_0, hcz16_1, hcz16_2, hcz16_3, hfz16_0, hfz16_1, hfz16_2, hfz16_3⟩ := bf4 (w := wr) BK497
      try go_wp2
      replace HO_498002 := Aside0.mk (Kd.V_drew HO_498002.out)
      replace HO_498003 := Aside0.mk (Kd.V_drew HO_498003.out)
      replace HO_500001 := Aside0.mk (Kd.R_drew HO_500001.out)
      replace HO_500002 := Aside0.mk (Kd.V_drew HO_500002.out)
      replace HO_500003 := Aside0.mk (Kd.V_drew HO_500003.out)
      replace BK497 := Aside0.mk (blk_drew BK497.out)
      replace BK498 := Aside0.mk (blk_drew BK498.out)
      replace BK499 := Aside0.mk (blk_drew BK499.out)
      replace HB := Aside0.mk (below_drew1 HB.out)
      have p500 : 0 ≤ (x4_1 : Int) := of_decide_eq_true (by first | (with_reducible assumption) | assumption)
      have q500 : x4_1 < (l0_1.length : Int) := of_decide_eq_true (by first | (with_reducible assumption) | assumption)
      obtain ⟨ad500, e500, hx500_0, hx500_1, hx500_2, hx500_3, hx500_4, hx500_5, hx500_6, hx500_7⟩ := at_T56 HR0_1.out x4_1 p500 q500
      have hw500_7 := hx500_7
      have hw500_6 := hx500_6
      have hw500_5 := hx500_5
      have hw500_4 := hx500_4
      have hw500_3 := hx500_3
      have hw500_2 := hx500_2
      have hw500_1 := hx500_1
      have hw500_0 := hx500_0
      cases e500
      replace hx500_0 := (HB.out.cell (World.block_lt_of_cell? w _ hx500_0)).trans hx500_0
      replace hx500_1 := (HB.out.cell (World.block_lt_of_cell? w _ hx500_1)).trans hx500_1
      replace hx500_2 := (HB.out.cell (World.block_lt_of_cell? w _ hx500_2)).trans hx500_2
      replace hx500_3 := (HB.out.cell (World.block_lt_of_cell? w _ hx500_3)).trans hx500_3
      replace hx500_4 := (HB.out.cell (World.block_lt_of_cell? w _ hx500_4)).trans hx500_4
      replace hx500_5 := (HB.out.cell (World.block_lt_of_cell? w _ hx500_5)).trans hx500_5
      replace hx500_6 := (HB.out.cell (World.block_lt_of_cell? w _ hx500_6)).trans hx500_6
      replace hx500_7 := (HB.out.cell (World.block_lt_of_cell? w _ hx500_7)).trans hx500_7
      replace p500 := eq_true p500
      replace q500 := eq_true q500
      refine start_ (n := 12) (S := fun w' => w'.cell? ⟨gb499, 0, none⟩ = some (.bool a0_0) ∧ w'.cell? ⟨gb499, 1, none⟩ = some (u500001) ∧ w'.cell? ⟨gb499, 2, none⟩ = some (.slice A0_2 l0_2.length c0_2) ∧ w'.cell? ⟨gb499, 3, none⟩ = some (.slice A0_3 l0_3.length c0_3) ∧ w'.cell? ⟨gb497, 0, none⟩ = some (.bool a0_0) ∧ w'.cell? ⟨gb497, 1, none⟩ = some (.slice (some ad500) l0_1.length c0_1) ∧ w'.cell? ⟨gb497, 2, none⟩ = some (.slice A0_2 l0_2.length c0_2) ∧ w'.cell? ⟨gb497, 3, none⟩ = some (.slice A0_3 l0_3.length c0_3) ∧ w'.cell? (ad500.add ((x4_1).toNat * 8)) = some (.string ((rd_T56 l0_1 x4_1).f0)) ∧ w'.cell? ⟨(ad500.add ((x4_1).toNat * 8)).block, (ad500.add ((x4_1).toNat * 8)).off + 1, none⟩ = some (.int .i64 ((rd_T56 l0_1 x4_1).f1.f0)) ∧ w'.cell? ⟨(ad500.add ((x4_1).toNat * 8)).block, (ad500.add ((x4_1).toNat * 8)).off + 2, none⟩ = some (.float .f64 ((rd_T56 l0_1 x4_1).f1.f1)) ∧ w'.cell? ⟨(ad500.add ((x4_1).toNat * 8)).block, (ad500.add ((x4_1).toNat * 8)).off + 3, none⟩ = some (.string ((rd_T56 l0_1 x4_1).f1.f2)) ∧ w'.cell? ⟨(ad500.add ((x4_1).toNat * 8)).block, (ad500.add ((x4_1).toNat * 8)).off + 4, none⟩ = some (.int .i64 ((rd_T56 l0_1 x4_1).f2)) ∧ w'.cell? ⟨(ad500.add ((x4_1).toNat * 8)).block, (ad500.add ((x4_1).toNat * 8)).off + 5, none⟩ = some (.int .i64 ((rd_T56 l0_1 x4_1).f3.f0)) ∧ w'.cell? ⟨(ad500.add ((x4_1).toNat * 8)).block, (ad500.add ((x4_1).toNat * 8)).off + 6, none⟩ = some (.float .f64 ((rd_T56 l0_1 x4_1).f3.f1)) ∧ w'.cell? ⟨(ad500.add ((x4_1).toNat * 8)).block, (ad500.add ((x4_1).toNat * 8)).off + 7, none⟩ = some (.string ((rd_T56 l0_1 x4_1).f3.f2))) (ds := [11]) #[false, false, false, false, false, false, false, false, false, false, false, false] (by kernel_rfl) rfl rfl (bn4 BK499 (bn4 BK497 ⟨((HB.out.cell (World.block_lt_of_cell? w _ hw500_0)).trans hw500_0), ((HB.out.cell (World.block_lt_of_cell? w _ hw500_1)).trans hw500_1), ((HB.out.cell (World.block_lt_of_cell? w _ hw500_2)).trans hw500_2), ((HB.out.cell (World.block_lt_of_cell? w _ hw500_3)).trans hw500_3), ((HB.out.cell (World.block_lt_of_cell? w _ hw500_4)).trans hw500_4), ((HB.out.cell (World.block_lt_of_cell? w _ hw500_5)).trans hw500_5), ((HB.out.cell (World.block_lt_of_cell? w _ hw500_6)).trans hw500_6), ((HB.out.cell (World.block_lt_of_cell? w _ hw500_7)).trans hw500_7)⟩)) (fun hHeld => ?_); refine with_tabW engrosslaw11_Of.tab5 engrosslaw11_Of.bits5 (fun HT_ HW_ => ?_)
      generalize wr.drew = w17 at HO_498002 HO_498003 HO_500001 HO_500002 HO_500003 BK497 BK498 BK499 HB hx500_0 hx500_1 hx500_2 hx500_3 hx500_4 hx500_5 hx500_6 hx500_7 hHeld ⊢
      refine pure_ (i := 0) (N := some 19) (v := ?_) (a' := ?_) #[true, false, false, false, false, false, false, false, false, false, false, false] rfl rfl (any_of HT_.out (by kernel_rfl)) (fun _ _ _ h => h) (Or.inl ⟨by rfl, ?_⟩) ?_ ?_
      rotate_left
      ·intro w'
       go_simp
       with_reducible rfl
      rotate_left
      ·simp only [Act.put, List.setIfInBounds_toArray, List.set_cons_zero, List.set_cons_succ, i64_w, i32_w]
       rfl
      refine pure_ (i := 2) (N := some 21) (v := ?_) (a' := ?_) #[true, false, true, false, false, false, false, false, false, false, false, false] rfl rfl (any_of HT_.out (by kernel_rfl)) (fun _ _ _ h => h) (Or.inl ⟨by rfl, ?_⟩) ?_ ?_
      rotate_left
      ·intro w'
       go_simp
       with_reducible rfl
      rotate_left
      ·simp only [Act.put, List.setIfInBounds_toArray, List.set_cons_zero, List.set_cons_succ, i64_w, i32_w]
       rfl
      refine pure_ (i := 4) (N := some 23) (v := ?_) (a' := ?_) #[true, false, true, false, true, false, false, false, false, false, false, false] rfl rfl (any_of HT_.out (by kernel_rfl)) (fun _ _ _ h => h) (Or.inl ⟨by rfl, ?_⟩) ?_ ?_
      rotate_left
      ·intro w'
       go_simp
       with_reducible rfl
      rotate_left
      ·simp only [Act.put, List.setIfInBounds_toArray, List.set_cons_zero, List.set_cons_succ, i64_w, i32_w]
       rfl
      refine take_ (i := 1) (N := some 20) (v := ?_) (a' := ?_) #[true, true, true, false, true, false, false, false, false, false, false, false] rfl rfl (take_ofW HT_.out HW_.out (by kernel_rfl)) (fun _ _ _ h => h) (Or.inl ⟨by rfl, ?_⟩) hHeld ?_ ?_
      rotate_left
      ·rintro w' ⟨s0, s1, s2, s3, s4, s5, s6, s7, s8, s9, s10, s11, s12, s13, s14, s15⟩
       go_simp
       with_reducible rfl
      rotate_left
      ·simp only [Act.put, List.setIfInBounds_toArray, List.set_cons_zero, List.set_cons_succ, i64_w, i32_w]
       rfl
      refine take_ (i := 3) (N := some 22) (v := ?_) (a' := ?_) #[true, true, true, true, true, false, false, false, false, false, false, false] rfl rfl (take_ofW HT_.out HW_.out (by kernel_rfl)) (fun _ _ _ h => h) (Or.inl ⟨by rfl, ?_⟩) hHeld ?_ ?_
      rotate_left
      ·rintro w' ⟨s0, s1, s2, s3, s4, s5, s6, s7, s8, s9, s10, s11, s12, s13, s14, s15⟩
       go_simp
       with_reducible rfl
      rotate_left
      ·simp only [Act.put, List.setIfInBounds_toArray, List.set_cons_zero, List.set_cons_succ, i64_w, i32_w]
       rfl
      refine pure_ (i := 5) (N := some 24) (v := ?_) (a' := ?_) #[true, true, true, true, true, true, false, false, false, false, false, false] rfl rfl (any_of HT_.out (by kernel_rfl)) (fun _ _ _ h => h) (Or.inl ⟨by rfl, ?_⟩) ?_ ?_
      rotate_left
      ·intro w'
       go_simp
       with_reducible rfl
      rotate_left
      ·simp only [Act.put, List.setIfInBounds_toArray, List.set_cons_zero, List.set_cons_succ, i64_w, i32_w]
       rfl
      refine take_ (i := 6) (N := some 25) (v := ?_) (a' := ?_) #[true, true, true, true, true, true, true, false, false, false, false, false] rfl rfl (take_ofW HT_.out HW_.out (by kernel_rfl)) (fun _ _ _ h => h) (Or.inl ⟨by rfl, ?_⟩) hHeld ?_ ?_
      rotate_left
      ·rintro w' ⟨s0, s1, s2, s3, s4, s5, s6, s7, s8, s9, s10, s11, s12, s13, s14, s15⟩
       go_simp
       with_reducible rfl
      rotate_left
      ·simp only [Act.put, List.setIfInBounds_toArray, List.set_cons_zero, List.set_cons_succ, i64_w, i32_w]
       rfl
      refine one_ (i := 7) (N := some 26) #[true, true, true, true, true, true, true, true, false, false, false, false] rfl rfl (one_of HT_.out (by kernel_rfl)) (by decide) (fun K hK => ?_)
      refine goes_ Try.func35 (by kernel_rfl) rfl #[.agg #[.string ((rd_T56 l0_1 x4_1).f0), .int .i64 ((rd_T56 l0_1 x4_1).f1.f0), .float .f64 ((rd_T56 l0_1 x4_1).f1.f1), .string ((rd_T56 l0_1 x4_1).f1.f2), .int .i64 ((rd_T56 l0_1 x4_1).f2), .int .i64 ((rd_T56 l0_1 x4_1).f3.f0), .float .f64 ((rd_T56 l0_1 x4_1).f3.f1), .string ((rd_T56 l0_1 x4_1).f3.f2)]] (by rfl) rfl rfl (by (try simp only [List.map_toArray, List.map_cons, List.map_nil]); first | done | rfl | (simp only [List.length_drop, List.length_take]; rfl)) ?_
      with_reducible refine (engrosslaw10_Of.calls ((rd_T56 l0_1 x4_1).f0) ((rd_T56 l0_1 x4_1).f1.f0) ((rd_T56 l0_1 x4_1).f1.f1) ((rd_T56 l0_1 x4_1).f1.f2) ((rd_T56 l0_1 x4_1).f2) ((rd_T56 l0_1 x4_1).f3.f0) ((rd_T56 l0_1 x4_1).f3.f1) ((rd_T56 l0_1 x4_1).f3.f2) t501 t502 t503 t504 t505 t506 t507 t508 _ A12.out).mono ?_
      rintro e w18 ⟨rfl, hb⟩
      refine ⟨_, rfl, ?_⟩
      replace HO_498002 := Aside0.mk (Kd.V_below (by (with_reducible repeat (first | apply Kd.V_alloc | apply Kd.V_drewN | apply Kd.V_drew)); exact HO_498002.out) hb)
      replace HO_498003 := Aside0.mk (Kd.V_below (by (with_reducible repeat (first | apply Kd.V_alloc | apply Kd.V_drewN | apply Kd.V_drew)); exact HO_498003.out) hb)
      replace HO_500001 := Aside0.mk (Kd.R_below (by (with_reducible repeat (first | apply Kd.R_alloc | apply Kd.R_drewN | apply Kd.R_drew)); exact HO_500001.out) hb)
      replace HO_500002 := Aside0.mk (Kd.V_below (by (with_reducible repeat (first | apply Kd.V_alloc | apply Kd.V_drewN | apply Kd.V_drew)); exact HO_500002.out) hb)
      replace HO_500003 := Aside0.mk (Kd.V_below (by (with_reducible repeat (first | apply Kd.V_alloc | apply Kd.V_drewN | apply Kd.V_drew)); exact HO_500003.out) hb)
      replace BK497 := bB BK497 hb
      replace BK498 := bB BK498 hb
      replace BK499 := bB BK499 hb
      replace HB := bW HB hb
      (try clear hb)
      (try clear hb2)
      (try clear hk)
      (try clear hi)
      refine hK.out _ _ (bn4 BK499 (bn4 BK497 ⟨((HB.out.cell (World.block_lt_of_cell? w _ hw500_0)).trans hw500_0), ((HB.out.cell (World.block_lt_of_cell? w _ hw500_1)).trans hw500_1), ((HB.out.cell (World.block_lt_of_cell? w _ hw500_2)).trans hw500_2), ((HB.out.cell (World.block_lt_of_cell? w _ hw500_3)).trans hw500_3), ((HB.out.cell (World.block_lt_of_cell? w _ hw500_4)).trans hw500_4), ((HB.out.cell (World.block_lt_of_cell? w _ hw500_5)).trans hw500_5), ((HB.out.cell (World.block_lt_of_cell? w _ hw500_6)).trans hw500_6), ((HB.out.cell (World.block_lt_of_cell? w _ hw500_7)).trans hw500_7)⟩)) (fun hHeld => ?_)
      clear hK K
      refine norm_ (a' := ?_) ?_ ?_
      rotate_left
      ·show Act.put _ (some 26) _ = _
       simp only [Act.put, List.setIfInBounds_toArray, List.set_cons_zero, List.set_cons_succ, i64_w, i32_w]
       rfl
      refine one_ (i := 8) (N := some 27) #[true, true, true, true, true, true, true, true, true, false, false, false] rfl rfl (one_of HT_.out (by kernel_rfl)) (by decide) (fun K hK => ?_)
      refine value_ (w1 := ?_) (v := ?_) (by rfl) rfl ?_ ?_
      rotate_left 2
      ·go_simp
       constructor
       ·rfl
       ·rfl
      refine hK.out _ _ ⟨(blk_cell (blk_alloc BK499.out _) 0).trans rfl, (blk_cell (blk_alloc BK499.out _) 1).trans rfl, (blk_cell (blk_alloc BK499.out _) 2).trans rfl, (blk_cell (blk_alloc BK499.out _) 3).trans rfl, (blk_cell (blk_alloc BK497.out _) 0).trans rfl, (blk_cell (blk_alloc BK497.out _) 1).trans rfl, (blk_cell (blk_alloc BK497.out _) 2).trans rfl, (blk_cell (blk_alloc BK497.out _) 3).trans rfl, (World.cell?_alloc_lt _ _ _ (World.block_lt_of_cell? _ _ (((HB.out.cell (World.block_lt_of_cell? w _ hw500_0)).trans hw500_0)))).trans (((HB.out.cell (World.block_lt_of_cell? w _ hw500_0)).trans hw500_0)), (World.cell?_alloc_lt _ _ _ (World.block_lt_of_cell? _ _ (((HB.out.cell (World.block_lt_of_cell? w _ hw500_1)).trans hw500_1)))).trans (((HB.out.cell (World.block_lt_of_cell? w _ hw500_1)).trans hw500_1)), (World.cell?_alloc_lt _ _ _ (World.block_lt_of_cell? _ _ (((HB.out.cell (World.block_lt_of_cell? w _ hw500_2)).trans hw500_2)))).trans (((HB.out.cell (World.block_lt_of_cell? w _ hw500_2)).trans hw500_2)), (World.cell?_alloc_lt _ _ _ (World.block_lt_of_cell? _ _ (((HB.out.cell (World.block_lt_of_cell? w _ hw500_3)).trans hw500_3)))).trans (((HB.out.cell (World.block_lt_of_cell? w _ hw500_3)).trans hw500_3)), (World.cell?_alloc_lt _ _ _ (World.block_lt_of_cell? _ _ (((HB.out.cell (World.block_lt_of_cell? w _ hw500_4)).trans hw500_4)))).trans (((HB.out.cell (World.block_lt_of_cell? w _ hw500_4)).trans hw500_4)), (World.cell?_alloc_lt _ _ _ (World.block_lt_of_cell? _ _ (((HB.out.cell (World.block_lt_of_cell? w _ hw500_5)).trans hw500_5)))).trans (((HB.out.cell (World.block_lt_of_cell? w _ hw500_5)).trans hw500_5)), (World.cell?_alloc_lt _ _ _ (World.block_lt_of_cell? _ _ (((HB.out.cell (World.block_lt_of_cell? w _ hw500_6)).trans hw500_6)))).trans (((HB.out.cell (World.block_lt_of_cell? w _ hw500_6)).trans hw500_6)), (World.cell?_alloc_lt _ _ _ (World.block_lt_of_cell? _ _ (((HB.out.cell (World.block_lt_of_cell? w _ hw500_7)).trans hw500_7)))).trans (((HB.out.cell (World.block_lt_of_cell? w _ hw500_7)).trans hw500_7))⟩ (fun hHeld => ?_)
      clear hK K
      refine norm_ (a' := ?_) ?_ ?_
      rotate_left
      ·show Act.put _ (some 27) _ = _
       simp only [Act.put, List.setIfInBounds_toArray, List.set_cons_zero, List.set_cons_succ, i64_w, i32_w]
       rfl
      refine one_ (i := 9) (N := some 28) #[true, true, true, true, true, true, true, true, true, true, false, false] rfl rfl (one_of HT_.out (by kernel_rfl)) (by decide) (fun K hK => ?_)
      refine Kd.R_append_step k62 (w0 := w) w.heap.size (by rfl) (.tmp 20) (.tmp 27) 34 62 (.agg #[(.string ⟨#[]⟩), (.int .i64 0), (.float .f64 0), (.string ⟨#[]⟩), (.int .i64 0), (.int .i64 0), (.float .f64 0), (.string ⟨#[]⟩)]) 88 rfl Try.underlying34 info62 rfl (by decide) (by omega) u500001 x500001_1 (⟨t501, (⟨t502, t503, t504⟩ : S54), t505, (⟨t506, t507, t508⟩ : S54)⟩ : S62) [.string t501, .int .i64 t502, .float .f64 t503, .string t504, .int .i64 t505, .int .i64 t506, .float .f64 t507, .string t508] (fun k_ => (w.heap.size ≤ k_)) (fun _ => False) rfl rfl ?aP (fun _ hk => hk.elim) ?aF ?aO ?aB ?aS ?aL ?_
      (case aP => exact k62_mkM _ _ _ (⟨t501, (⟨t502, t503, t504⟩ : S54), t505, (⟨t506, t507, t508⟩ : S54)⟩ : S62))
      (case aB => exact (bC HB))
      (case aF => exact (fun k_ hk => (Nat.le_trans (below_size (bC HB)) hk)))
      (case aO => exact (by (with_reducible repeat (first | apply Kd.R_alloc | apply Kd.R_drewN | apply Kd.R_drew)); exact HO_500001.out))
      (case aS => exact (below_size (bC HB)))
      (case aL => have := LMc13.out; omega)
      intro v510 w19 ho hb hg hat
      rw [← Ny509.out] at ho
      have HO511 := Aside0.mk (ho)
      replace HO_498002 := Aside0.mk (Kd.V_afterv (ok := (fun k_ => ((P0_2_ k_ ∨ P0_3_ k_) ∨ w.heap.size ≤ k_) ∧ k_ ≠ gb497 ∧ k_ ≠ gb498 ∧ k_ ≠ gb499)) (by (with_reducible repeat (first | apply Kd.V_alloc | apply Kd.V_drewN | apply Kd.V_drew)); exact Kd.V_mono HO_498002.out (fun _ hk => ⟨⟨hk.1, ⟨hk.2.2.1, ⟨hk.2.2.2.1, hk.2.2.2.2⟩⟩⟩, hk.2.1⟩)) hg hat)
      replace HO_498003 := Aside0.mk (Kd.V_afterv (ok := (fun k_ => ((P0_2_ k_ ∨ P0_3_ k_) ∨ w.heap.size ≤ k_) ∧ k_ ≠ gb497 ∧ k_ ≠ gb498 ∧ k_ ≠ gb499)) (by (with_reducible repeat (first | apply Kd.V_alloc | apply Kd.V_drewN | apply Kd.V_drew)); exact Kd.V_mono HO_498003.out (fun _ hk => ⟨⟨hk.1, ⟨hk.2.2.1, ⟨hk.2.2.2.1, hk.2.2.2.2⟩⟩⟩, hk.2.1⟩)) hg hat)
      replace HO_500002 := Aside0.mk (Kd.V_afterv (ok := (fun k_ => ((P0_2_ k_ ∨ P0_3_ k_) ∨ w.heap.size ≤ k_) ∧ k_ ≠ gb497 ∧ k_ ≠ gb498 ∧ k_ ≠ gb499)) (by (with_reducible repeat (first | apply Kd.V_alloc | apply Kd.V_drewN | apply Kd.V_drew)); exact Kd.V_mono HO_500002.out (fun _ hk => ⟨⟨hk.1, ⟨hk.2.2.1, ⟨hk.2.2.2.1, hk.2.2.2.2⟩⟩⟩, hk.2.1⟩)) hg hat)
      replace HO_500003 := Aside0.mk (Kd.V_afterv (ok := (fun k_ => ((P0_2_ k_ ∨ P0_3_ k_) ∨ w.heap.size ≤ k_) ∧ k_ ≠ gb497 ∧ k_ ≠ gb498 ∧ k_ ≠ gb499)) (by (with_reducible repeat (first | apply Kd.V_alloc | apply Kd.V_drewN | apply Kd.V_drew)); exact Kd.V_mono HO_500003.out (fun _ hk => ⟨⟨hk.1, ⟨hk.2.2.1, ⟨hk.2.2.2.1, hk.2.2.2.2⟩⟩⟩, hk.2.1⟩)) hg hat)
      replace BK497 := Aside0.mk (blk_grown (bQ BK497) hg (Kd.R_ne HO_500001.out BK497.out (by decide)))
      replace BK498 := Aside0.mk (blk_grown (bQ BK498) hg (Kd.R_ne HO_500001.out BK498.out (by decide)))
      replace BK499 := Aside0.mk (blk_grown (bQ BK499) hg (Kd.R_ne HO_500001.out BK499.out (by decide)))
      replace HB := Aside0.mk (hb)
      clear HO_500001
      clear ho hb hg hat
      obtain ⟨Ao20, co20, eo20⟩ := Kd.R_slice HO511.out
      (first | subst eo20 | (injection eo20 with f1_ f2_ f3_; have f4_ := f1_.symm; have f5_ := f3_.symm; clear f1_ f2_ f3_; subst f4_; subst f5_))
      refine hK.out _ _ (bn4 BK499 (bn4 BK497 ⟨((HB.out.cell (World.block_lt_of_cell? w _ hw500_0)).trans hw500_0), ((HB.out.cell (World.block_lt_of_cell? w _ hw500_1)).trans hw500_1), ((HB.out.cell (World.block_lt_of_cell? w _ hw500_2)).trans hw500_2), ((HB.out.cell (World.block_lt_of_cell? w _ hw500_3)).trans hw500_3), ((HB.out.cell (World.block_lt_of_cell? w _ hw500_4)).trans hw500_4), ((HB.out.cell (World.block_lt_of_cell? w _ hw500_5)).trans hw500_5), ((HB.out.cell (World.block_lt_of_cell? w _ hw500_6)).trans hw500_6), ((HB.out.cell (World.block_lt_of_cell? w _ hw500_7)).trans hw500_7)⟩)) (fun hHeld => ?_)
      clear hK K
      refine norm_ (a' := ?_) ?_ ?_
      rotate_left
      ·show Act.put _ (some 28) _ = _
       simp only [Act.put, List.setIfInBounds_toArray, List.set_cons_zero, List.set_cons_succ, i64_w, i32_w]
       rfl
      refine pure_ (i := 10) (N := some 29) (v := ?_) (a' := ?_) #[true, true, true, true, true, true, true, true, true, true, true, false] rfl rfl (any_of HT_.out (by kernel_rfl)) (fun _ _ _ h => h) (Or.inl ⟨by rfl, ?_⟩) ?_ ?_
      rotate_left
      ·intro w'
       go_simp
       with_reducible rfl
      rotate_left
      ·simp only [Act.put, List.setIfInBounds_toArray, List.set_cons_zero, List.set_cons_succ, i64_w, i32_w]
       rfl
      refine last_ (i := 11) (N := none) #[true, true, true, true, true, true, true, true, true, true, true, true] rfl rfl (one_of HT_.out (by kernel_rfl)) (by decide) (fun K hK => ?_)
      have hs21 : w19.cell? ⟨gb499, 1, none⟩ = some (u500001) := (blk_cell BK499.out 1).trans rfl
      have hfs21 := blk_frozen BK499.out 1
      have hns21_0 := NB497_499.out
      have hns21_1 := NB498_499.out
      have hms21_0 := NB499_497.out
      have hms21_1 := NB499_498.out
      with_reducible refine skip_ (w1 := ?_) (by with_unfolding_all rfl) (by with_unfolding_all rfl) ?_ ?_
      rotate_left
      ·go_simp
       rfl
      refine hK.out _ _ ?_
      clear hK K
      refine done_ (done_of HT_.out (by kernel_rfl)) ?_
      try go_wp2
      go_roundg k1
      case measure => have := HK1.out; omega
      case rel => exact ⟨(wrap64 (x4_1 + 1)), (y509), (.slice Ao20 y509.length co20), (by first | rfl | (simp; done) | (simp [*]; done)), H', ⟨by have := HK1.out; omega⟩, ⟨by (with_reducible repeat (first | apply Kd.V_alloc | apply Kd.V_drewN | apply Kd.V_drew)); exact Kd.V_mono (Kd.V_far (p := ⟨gb499, 1, none⟩) (Kd.V_mono HO_498002.out (fun k_ hk => (⟨hk, hk.1.2.2.2⟩ : _ ∧ k_ ≠ gb499))) (fun _ hk => hk.2) (.slice Ao20 y509.length co20)) (fun _ hk => ⟨hk.1.1.1, ⟨hk.1.2, ⟨hk.1.1.2.1, ⟨hk.1.1.2.2.1, hk.1.1.2.2.2⟩⟩⟩⟩)⟩, ⟨by (with_reducible repeat (first | apply Kd.V_alloc | apply Kd.V_drewN | apply Kd.V_drew)); exact Kd.V_mono (Kd.V_far (p := ⟨gb499, 1, none⟩) (Kd.V_mono HO_498003.out (fun k_ hk => (⟨hk, hk.1.2.2.2⟩ : _ ∧ k_ ≠ gb499))) (fun _ hk => hk.2) (.slice Ao20 y509.length co20)) (fun _ hk => ⟨hk.1.1.1, ⟨hk.1.2, ⟨hk.1.1.2.1, ⟨hk.1.1.2.2.1, hk.1.1.2.2.2⟩⟩⟩⟩)⟩, ⟨by (with_reducible repeat (first | apply Kd.R_alloc | apply Kd.R_drewN | apply Kd.R_drew)); exact Kd.R_mono (Kd.R_far (p := ⟨gb499, 1, none⟩) (Kd.R_types HO511.out BK499.out (by decide)) (fun _ hk => hk.2) (.slice Ao20 y509.length co20)) (fun _ hk => hk.1)⟩, ⟨by (with_reducible repeat (first | apply Kd.V_alloc | apply Kd.V_drewN | apply Kd.V_drew)); exact Kd.V_mono (Kd.V_far (p := ⟨gb499, 1, none⟩) (Kd.V_mono HO_500002.out (fun k_ hk => (⟨hk, hk.1.2.2.2⟩ : _ ∧ k_ ≠ gb499))) (fun _ hk => hk.2) (.slice Ao20 y509.length co20)) (fun _ hk => ⟨hk.1.1.1, ⟨hk.1.2, ⟨hk.1.1.2.1, ⟨hk.1.1.2.2.1, hk.1.1.2.2.2⟩⟩⟩⟩)⟩, ⟨by (with_reducible repeat (first | apply Kd.V_alloc | apply Kd.V_drewN | apply Kd.V_drew)); exact Kd.V_mono (Kd.V_far (p := ⟨gb499, 1, none⟩) (Kd.V_mono HO_500003.out (fun k_ hk => (⟨hk, hk.1.2.2.2⟩ : _ ∧ k_ ≠ gb499))) (fun _ hk => hk.2) (.slice Ao20 y509.length co20)) (fun _ hk => ⟨hk.1.1.1, ⟨hk.1.2, ⟨hk.1.1.2.1, ⟨hk.1.1.2.2.1, hk.1.1.2.2.2⟩⟩⟩⟩)⟩, ⟨by (with_reducible repeat (first | refine blk_drewN ?_ _ | refine blk_drew ?_ | refine blk_alloc ?_ _)); refine blk_far ?_ NB497_499.out _; (with_reducible repeat (first | refine blk_drewN ?_ _ | refine blk_drew ?_ | refine blk_alloc ?_ _)); exact BK497.out⟩, ⟨by (with_reducible repeat (first | refine blk_drewN ?_ _ | refine blk_drew ?_ | refine blk_alloc ?_ _)); refine blk_far ?_ NB498_499.out _; (with_reducible repeat (first | refine blk_drewN ?_ _ | refine blk_drew ?_ | refine blk_alloc ?_ _)); exact BK498.out⟩, ⟨by (with_reducible repeat (first | refine blk_drewN ?_ _ | refine blk_drew ?_ | refine blk_alloc ?_ _)); refine blk_put (cs := #[.bool a0_0, u500001, .slice A0_2 l0_2.length c0_2, .slice A0_3 l0_3.length c0_3]) ?_ 1 _ rfl; (with_reducible repeat (first | refine blk_drewN ?_ _ | refine blk_drew ?_ | refine blk_alloc ?_ _)); exact BK499.out⟩, ⟨by repeat (first | (with_reducible first | exact HB.out | apply below_alloc | apply pw_below_drewN | apply below_drew1 | refine below_set ?_ GE497.out | refine below_set ?_ GE498.out | refine below_set ?_ GE499.out) | exact HB.out)⟩⟩
     ·rw [if_neg c13] at H
      exact absurd H (by simp)
    ·rw [if_neg c11] at H
     exact absurd H (by simp)
   ·rw [if_neg c10] at H
    have c10b0 : decide (x4_1 < (l0_1.length : Int)) = false := decide_eq_false c10
    clear c10
    simp only [Option.some.injEq, Prod.mk.injEq] at H
    obtain ⟨rfl, rfl, rfl, rfl⟩ := H
    have hnb22 := NB497_498.out
    have hnc22 := NB498_497.out
    have hnb23 := NB497_499.out
    have hnc23 := NB499_497.out
    obtain ⟨hcz24_0, hcz24_1, hcz24_2, hcz24_3, hfz24_0, hfz24_1, hfz24_2, hfz24_3⟩ := bf4 (w := wr) BK497
    have hnb25 := NB499_498.out
    have hnc25 := NB498_499.out
    obtain ⟨hcz26_0, hcz26_1, hcz26_2, hcz26_3, hfz26_0, hfz26_1, hfz26_2, hfz26_3⟩ := bf4 (w := wr) BK499
    obtain ⟨hcz27_0, hcz27_1, hcz27_2, hcz27_3, hfz27_0, hfz27_1, hfz27_2, hfz27_3⟩ := bf4 (w := wr) BK498
    obtain ⟨Ao28, co28, eo28⟩ := Kd.R_slice HO_500001.out
    subst eo28
    go_wp2
    refine bodyPost_ret (results_cell_row rfl _ _ gb498 36 #[.bool a0_0, .slice Ao28 x500001_1.length co28, .slice A0_2 l0_2.length c0_2, .slice A0_3 l0_3.length c0_3] (0, 0) _ rfl (bR BK498) Try.underlying36 rfl (by kernel_rfl)) rfl ?_
    exact ⟨_, _, _, by first | rfl | (simp [errW_none, errW_some] <;> rfl) | (simp [*, errW_none, errW_some] <;> rfl), by (with_reducible repeat (first | apply Kd.R_alloc | apply Kd.R_drewN | apply Kd.R_drew)); exact Kd.R_mono (Kd.R_far (p := ⟨gb498, 3, none⟩) (Kd.R_far (p := ⟨gb498, 2, none⟩) (Kd.R_far (p := ⟨gb498, 1, none⟩) (Kd.R_far (p := ⟨gb498, 0, none⟩) (Kd.R_types HO_500001.out BK498.out (by decide)) (fun _ hk => hk.2) (.bool a0_0)) (fun _ hk => hk.2) (.slice Ao28 x500001_1.length co28)) (fun _ hk => hk.2) (.slice A0_2 l0_2.length c0_2)) (fun _ hk => hk.2) (.slice A0_3 l0_3.length c0_3)) (fun _ hk => hk.1), by (with_reducible repeat (first | apply Kd.V_alloc | apply Kd.V_drewN | apply Kd.V_drew)); exact Kd.V_mono (Kd.V_far (p := ⟨gb498, 3, none⟩) (Kd.V_far (p := ⟨gb498, 2, none⟩) (Kd.V_far (p := ⟨gb498, 1, none⟩) (Kd.V_far (p := ⟨gb498, 0, none⟩) (Kd.V_mono HO_500002.out (fun k_ hk => (⟨hk, hk.2.2.2.1⟩ : _ ∧ k_ ≠ gb498))) (fun _ hk => hk.2) (.bool a0_0)) (fun _ hk => hk.2) (.slice Ao28 x500001_1.length co28)) (fun _ hk => hk.2) (.slice A0_2 l0_2.length c0_2)) (fun _ hk => hk.2) (.slice A0_3 l0_3.length c0_3)) (fun _ hk => ⟨hk.1.1, hk.1.2.1⟩), by (with_reducible repeat (first | apply Kd.V_alloc | apply Kd.V_drewN | apply Kd.V_drew)); exact Kd.V_mono (Kd.V_far (p := ⟨gb498, 3, none⟩) (Kd.V_far (p := ⟨gb498, 2, none⟩) (Kd.V_far (p := ⟨gb498, 1, none⟩) (Kd.V_far (p := ⟨gb498, 0, none⟩) (Kd.V_mono HO_500003.out (fun k_ hk => (⟨hk, hk.2.2.2.1⟩ : _ ∧ k_ ≠ gb498))) (fun _ hk => hk.2) (.bool a0_0)) (fun _ hk => hk.2) (.slice Ao28 x500001_1.length co28)) (fun _ hk => hk.2) (.slice A0_2 l0_2.length c0_2)) (fun _ hk => hk.2) (.slice A0_3 l0_3.length c0_3)) (fun _ hk => ⟨hk.1.1, hk.1.2.1⟩), by repeat (first | (with_reducible first | exact HB.out | apply below_alloc | apply pw_below_drewN | apply below_drew1 | refine below_set ?_ GE497.out | refine below_set ?_ GE498.out | refine below_set ?_ GE499.out) | exact HB.out)⟩
end Go.Proofs.Ytmmjpieafbjggaa.P
end
section
namespace Go.Proofs.Ytmmjpieafbjggaa.P
open Go.RowKit Go.Proofs.YtmmjpieafbjggaaW.PrintWords Go.Proofs.YtmmjpieafbjggaaW.PrintLast Go.Proofs.YtmmjpieafbjggaaW.PrintMore
attribute [local go_sem] max2_int min2_int max_two min_two max_three min_three max_four min_four   -- for this text's walks alone
attribute [local go_sem] x_str_gtr x_str_leq x_str_geq ext_bits ext_frombits ext_neg x_store_float Instr.field asAgg
set_option linter.unusedVariables false
set_option linter.unusedSimpArgs false
mutual
def engrosslaw11_NodeWays.j0 : Nat → Int → Int → Bool → Option (Bool)
 | 0, _, _, _ => none
 | k + 1, x0, x1, x31 => if x31 = true then (some true) else (engrosslaw11_NodeWays.l0 k x0 x1 0 false ([] : List ByteArray) ([] : List Int))
def engrosslaw11_NodeWays.l0 : Nat → Int → Int → Int → Bool → List ByteArray → List Int → Option (Bool)
 | 0, _, _, _, _, _, _ => none
 | k + 1, x0, x1, x7, x816000, x816002, x816003 => if x7 < x0 then (if x816003.length < 17592186044416 then ((some (x816003 ++ [wrap64 (2 + (Int.tmod x7 30))] : List Int)).bind fun y816 => (if x7 > 0 then (if 0 ≤ x1 then (if (x1 : Int).toNat ≤ 281474976710656 then ((some (List.replicate (x1 : Int).toNat 0 : List Int)).bind fun y819 => (engrosslaw11_NodeWays.l1 k x0 x1 x7 y819 (y819.length : Int) 0 x816000 x816002 y816)) else (none)) else (none)) else (engrosslaw11_NodeWays.l0 k x0 x1 (wrap64 (x7 + 1)) x816000 x816002 y816))) else (none)) else ((engrosslaw11_Of.f k x816000 ([] : List (S56)) x816002 x816003).bind fun bt826 => ((node_Encode.f k bt826.1 bt826.2.1 bt826.2.2.1 bt826.2.2.2).bind fun bt836 => (if ((bt836.2 == 0) != (decide ((wrap64 ((wrap64 (2 + x0)) + (wrap64 ((wrap64 (x0 - 1)) * (wrap64 (1 + x1)))))) ≤ 256))) = true then (none) else ((engrosslaw11_Of.f k x816000 ([] : List (S56)) x816002 x816003).bind fun bt840 => ((node_Size.f k bt840.1 bt840.2.1 bt840.2.2.1 bt840.2.2.2).bind fun t850 => (engrosslaw11_NodeWays.j3 k x0 bt836.1 bt836.2 (t850 != (wrap64 ((wrap64 (2 + x0)) + (wrap64 ((wrap64 (x0 - 1)) * (wrap64 (1 + x1)))))))))))))
def engrosslaw11_NodeWays.l1 : Nat → Int → Int → Int → List Int → Int → Int → Bool → List ByteArray → List Int → Option (Bool)
 | 0, _, _, _, _, _, _, _, _, _ => none
 | k + 1, x0, x1, x7, x8, x51, x52, x816000, x816002, x816003 => if x52 < x51 then (if 0 ≤ x52 then (if x52 < (x8.length : Int) then (engrosslaw11_NodeWays.l1 k x0 x1 x7 (x8.set (x52 : Int).toNat ((wrap64 (97 + x7)) % 256)) x51 (wrap64 (x52 + 1)) x816000 x816002 x816003) else (none)) else (none)) else (if x816002.length < 8796093022208 then (engrosslaw11_NodeWays.l0 k x0 x1 (wrap64 (x7 + 1)) x816000 (x816002 ++ [strOfNums x8]) x816003) else (none))
def engrosslaw11_NodeWays.j3 : Nat → Int → List Int → Int → Bool → Option (Bool)
 | 0, _, _, _, _ => none
 | k + 1, x0, x11, x12, x94 => if x94 = true then (none) else (if x12 = 0 then ((node_Decode.f k x11).bind fun bt851 => (if bt851.2.2.2.2 = 0 then (if (bt851.2.2.2.1.length : Int) = x0 then (some ((bt851.2.2.1.length : Int) == (wrap64 (x0 - 1)))) else (none)) else (none))) else (some (x12 == 4)))
end
def engrosslaw11_NodeWays.f (k : Nat) (a0 : Int) (a1 : Int) : Option (Bool) := (engrosslaw11_begun.f k).bind fun t814 => (if t814 = true then (if a0 < 1 then (engrosslaw11_NodeWays.j0 k a0 a1 true) else (if a0 > 32 then (engrosslaw11_NodeWays.j0 k a0 a1 true) else (if a1 < 1 then (engrosslaw11_NodeWays.j0 k a0 a1 true) else (engrosslaw11_NodeWays.j0 k a0 a1 (decide (a1 > 16)))))) else (none))
set_option maxHeartbeats 8000000 in
set_option maxRecDepth 100000 in
theorem engrosslaw11_NodeWays.calls (k : Nat) (a0 : Int) (a1 : Int) (r : Bool) (w : World) (h : engrosslaw11_NodeWays.f k a0 a1 = some r) :
  Calls Try.prog 7 #[.int .i64 a0, .int .i64 a1] w fun e w' => e = .returned (.bool r) ∧ Below w.heap.size w w' := by
 have hu26 := Try.underlying26
 have hu36 := Try.underlying36
 have HB := Aside0.mk (Below.refl w.heap.size w)
 have H : ((engrosslaw11_begun.f k).bind fun t814 => (if t814 = true then (if a0 < 1 then (engrosslaw11_NodeWays.j0 k a0 a1 true) else (if a0 > 32 then (engrosslaw11_NodeWays.j0 k a0 a1 true) else (if a1 < 1 then (engrosslaw11_NodeWays.j0 k a0 a1 true) else (engrosslaw11_NodeWays.j0 k a0 a1 (decide (a1 > 16)))))) else (none))) = some r := h
 clear h
 replace H := Option.bind_eq_some_iff.mp H
 obtain ⟨t814, A30, H⟩ := H
 replace H : (if t814 = true then (if a0 < 1 then (engrosslaw11_NodeWays.j0 k a0 a1 true) else (if a0 > 32 then (engrosslaw11_NodeWays.j0 k a0 a1 true) else (if a1 < 1 then (engrosslaw11_NodeWays.j0 k a0 a1 true) else (engrosslaw11_NodeWays.j0 k a0 a1 (decide (a1 > 16)))))) else (none)) = some r := H
 have A3 := Aside0.mk A30
 clear A30
 by_cases c4 : t814 = true
 ·subst c4
  have H1 : (if a0 < 1 then (engrosslaw11_NodeWays.j0 k a0 a1 true) else (if a0 > 32 then (engrosslaw11_NodeWays.j0 k a0 a1 true) else (if a1 < 1 then (engrosslaw11_NodeWays.j0 k a0 a1 true) else (engrosslaw11_NodeWays.j0 k a0 a1 (decide (a1 > 16)))))) = some r := by rw [if_pos rfl] at H; exact H
  clear H
  have H := H1
  clear H1
  have HC5 := Aside0.mk H
  clear H
  go_enter Try.func7, Try.ntmps7
  go_upto_region 4 with (first | ((with_reducible refine gate_callee (f := 11) rfl ?_); refine goesL_ (some 15) rfl rfl Try.func11 (by kernel_rfl) rfl #[] rfl (by (try simp only [List.map_toArray, List.map_cons, List.map_nil]); first | done | rfl | (simp only [List.length_drop, List.length_take]; rfl)) ?_; (with_reducible refine (engrosslaw11_begun.calls k  true _ A3.out).mono ?_); rintro e w6 ⟨rfl, hb⟩; refine ⟨_, rfl, ?_⟩; replace HB := bW HB hb; (try clear hb); (try clear hb2); (try clear hk); (try clear hi)))
  (try simp only [Act.put, List.setIfInBounds_toArray, List.set_cons_zero, List.set_cons_succ])
  go_cut [31] (fun v31 wc => ∃ (kq : Nat) (x31_4 : Bool), v31 = .bool x31_4 ∧ Aside0 (engrosslaw11_NodeWays.j0 kq a0 a1 x31_4 = some r) ∧ Aside0 (kq ≤ k) ∧ Aside0 (Below w.heap.size w wc))
  case first =>
   have H := HC5.out
   clear HC5
   by_cases c7 : a0 < 1
   ·rw [if_pos c7] at H
    have c7b0 : decide (a0 < 1) = true := decide_eq_true c7
    clear c7
    (first | rw [c7b0] | (simp only [i64_w, i32_w]; rw [c7b0]) | skip)
    have H' := Aside0.mk H
    clear H
    go_wp2
    go_meet
    case rel => exact ⟨_, (true), (by first | rfl | (simp; done) | (simp [*]; done)), H', ⟨by first | omega | exact Nat.le_refl _⟩, ⟨by repeat (first | (with_reducible first | exact HB.out | apply below_alloc | apply pw_below_drewN | apply below_drew1) | exact HB.out)⟩⟩
   ·rw [if_neg c7] at H
    have c7b0 : decide (a0 < 1) = false := decide_eq_false c7
    clear c7
    (first | rw [c7b0] | (simp only [i64_w, i32_w]; rw [c7b0]) | skip)
    by_cases c8 : a0 > 32
    ·rw [if_pos c8] at H
     have c8b0 : decide (32 < a0) = true := decide_eq_true c8
     clear c8
     have H' := Aside0.mk H
     clear H
     go_wp2
     go_meet
     case rel => exact ⟨_, (true), (by first | rfl | (simp; done) | (simp [*]; done)), H', ⟨by first | omega | exact Nat.le_refl _⟩, ⟨by repeat (first | (with_reducible first | exact HB.out | apply below_alloc | apply pw_below_drewN | apply below_drew1) | exact HB.out)⟩⟩
    ·rw [if_neg c8] at H
     have c8b0 : decide (32 < a0) = false := decide_eq_false c8
     clear c8
     by_cases c9 : a1 < 1
     ·rw [if_pos c9] at H
      have c9b0 : decide (a1 < 1) = true := decide_eq_true c9
      clear c9
      have H' := Aside0.mk H
      clear H
      go_wp2
      go_meet
      case rel => exact ⟨_, (true), (by first | rfl | (simp; done) | (simp [*]; done)), H', ⟨by first | omega | exact Nat.le_refl _⟩, ⟨by repeat (first | (with_reducible first | exact HB.out | apply below_alloc | apply pw_below_drewN | apply below_drew1) | exact HB.out)⟩⟩
     ·rw [if_neg c9] at H
      have c9b0 : decide (a1 < 1) = false := decide_eq_false c9
      clear c9
      have H' := Aside0.mk H
      clear H
      go_wp2
      go_meet
      case rel => exact ⟨_, (decide (a1 > 16)), (by first | rfl | (simp; done) | (simp [*]; done)), H', ⟨by first | omega | exact Nat.le_refl _⟩, ⟨by repeat (first | (with_reducible first | exact HB.out | apply below_alloc | apply pw_below_drewN | apply below_drew1) | exact HB.out)⟩⟩
  case rest =>
   clear HC5
   try clear c1
   try clear p2
   try clear c4
   try clear c7
   try clear c7b0
   try clear c8
   try clear c8b0
   try clear c9
   try clear c9b0
   obtain ⟨kq, x31_4, rfl, HA, HJ4, HB⟩ := hcut
   cases kq with
   | zero => exact absurd HA.out (by simp [engrosslaw11_NodeWays.j0])
   | succ kj4 =>
    have H := HA.out
    clear HA
    simp only [engrosslaw11_NodeWays.j0] at H
    by_cases c10 : x31_4 = true
    ·subst c10
     have H1 : (some true) = some r := by rw [if_pos rfl] at H; exact H
     clear H
     have H := H1
     clear H1
     obtain rfl := Option.some.inj H
     go_wp2
     go_ret
     exact ⟨by first | rfl | (simp [errW_none, errW_some] <;> rfl) | (simp [*, errW_none, errW_some] <;> rfl), by repeat (first | (with_reducible first | exact HB.out | apply below_alloc | apply pw_below_drewN | apply below_drew1) | exact HB.out)⟩
    ·replace c10 := Bool.eq_false_iff.mpr c10
     subst c10
     have H1 : (engrosslaw11_NodeWays.l0 kj4 a0 a1 0 false ([] : List ByteArray) ([] : List Int)) = some r := by rw [if_neg (show ¬ (false = true) by decide)] at H; exact H
     clear H
     have H := H1
     clear H1
     have H' := Aside0.mk H
     clear H
     go_wp2_with (first | ((with_reducible refine gate_dst (N := 6) rfl ?_); (try (refine gate_guard (by rfl) ?_; dsimp only)); refine box_event ?hg (N := 6) ?hd (cs := #[.bool false, .slice none 0 0, .slice none 0 0, .slice none 0 0]) (t := 26) ?hr ?_; (case hd => rfl); (case hg => rfl); (case hr => first | (go_simp; done) | (go_simp; rfl)); intro gb815 hg w11 hbox hb; have BK815 := Aside0.mk (hbox); have GW815 := bZ HB hg; have GE815 := bZ HB hg; replace HB := bW HB hb; clear hb hbox hg; obtain ⟨hcz12_0, hcz12_1, hcz12_2, hcz12_3, hfz12_0, hfz12_1, hfz12_2, hfz12_3⟩ := bf4 (w := w11) BK815))
     go_loopg [7] kj4 (fun kq v7 w' => ∃ (x7_2 : Int) (x816002_2 : List ByteArray) (x816003_2 : List Int) (u816002 : Value) (u816003 : Value), v7 = .int .i64 x7_2 ∧ Aside0 (engrosslaw11_NodeWays.l0 kq a0 a1 x7_2 false x816002_2 x816003_2 = some r) ∧ Aside0 (kq ≤ kj4) ∧ Aside0 (Kd.R Kd.string 9 w' w.heap.size (fun _ => True) u816002 x816002_2) ∧ Aside0 (Kd.R (Kd.int .i64) 3 w' w.heap.size (fun _ => True) u816003 x816003_2) ∧ Aside0 (w'.heap[gb815]? = some (.cells #[.bool false, (.slice none 0 0), u816002, u816003] 26 (0, 0))) ∧ Aside0 (Below w.heap.size w w'))
     case atStart => exact ⟨(0), (([] : List ByteArray)), (([] : List Int)), (.slice none 0 0), (.slice none 0 0), (by first | rfl | (simp; done) | (simp [*]; done)), H', ⟨Nat.le_refl _⟩, ⟨by first | exact Kd.R_nil _ _ _ _ _ | exact Kd.N_nil _ _ _ _ _ | exact Kd.V_nil _ _ _ _ _ | exact Kd.Q_nil _ _ _ _ _ | exact Kd.S_nil _ _ _ _ _⟩, ⟨by first | exact Kd.R_nil _ _ _ _ _ | exact Kd.N_nil _ _ _ _ _ | exact Kd.V_nil _ _ _ _ _ | exact Kd.Q_nil _ _ _ _ _ | exact Kd.S_nil _ _ _ _ _⟩, ⟨by (with_reducible repeat (first | refine blk_drewN ?_ _ | refine blk_drew ?_ | refine blk_alloc ?_ _)); refine blk_put (cs := #[.bool false, .slice none 0 0, .slice none 0 0, .slice none 0 0]) ?_ 3 _ rfl; (with_reducible repeat (first | refine blk_drewN ?_ _ | refine blk_drew ?_ | refine blk_alloc ?_ _)); refine blk_put (cs := #[.bool false, .slice none 0 0, .slice none 0 0, .slice none 0 0]) ?_ 2 _ rfl; (with_reducible repeat (first | refine blk_drewN ?_ _ | refine blk_drew ?_ | refine blk_alloc ?_ _)); refine blk_put (cs := #[.bool false, .slice none 0 0, .slice none 0 0, .slice none 0 0]) ?_ 1 _ rfl; (with_reducible repeat (first | refine blk_drewN ?_ _ | refine blk_drew ?_ | refine blk_alloc ?_ _)); refine blk_put (cs := #[.bool false, .slice none 0 0, .slice none 0 0, .slice none 0 0]) ?_ 0 _ rfl; (with_reducible repeat (first | refine blk_drewN ?_ _ | refine blk_drew ?_ | refine blk_alloc ?_ _)); exact BK815.out⟩, ⟨by repeat (first | (with_reducible first | exact HB.out | apply below_alloc | apply pw_below_drewN | apply below_drew1 | refine below_set ?_ GE815.out) | exact HB.out)⟩⟩
     case round =>
      clear H'
      try clear c1
      try clear p2
      try clear c4
      try clear c7
      try clear c7b0
      try clear c8
      try clear c8b0
      try clear c9
      try clear c9b0
      try clear c10
      try clear c11
      try clear hcz12_0
      try clear hcz12_1
      try clear hcz12_2
      try clear hcz12_3
      try clear hfz12_0
      try clear hfz12_1
      try clear hfz12_2
      try clear hfz12_3
      try clear p2
      obtain ⟨x7_2, x816002_2, x816003_2, u816002, u816003, rfl, HA, HK2, HO_816002, HO_816003, BK815, HB⟩ := hrel
      cases gk with
      | zero => exact absurd HA.out (by simp [engrosslaw11_NodeWays.l0])
      | succ k2 =>
       have H := HA.out
       clear HA
       simp only [engrosslaw11_NodeWays.l0] at H
       by_cases c13 : x7_2 < a0
       ·rw [if_pos c13] at H
        have c13b0 : decide (x7_2 < a0) = true := decide_eq_true c13
        clear c13
        by_cases c14 : x816003_2.length < 17592186044416
        ·rw [if_pos c14] at H
         have LMc14 := Aside0.mk c14
         clear c14
         obtain ⟨y816, hy816⟩ : ∃ y_ : List Int, y_ = (x816003_2 ++ [wrap64 (2 + (Int.tmod x7_2 30))]) := ⟨_, rfl⟩
         replace H : (if x7_2 > 0 then (if 0 ≤ a1 then (if (a1 : Int).toNat ≤ 281474976710656 then ((some (List.replicate (a1 : Int).toNat 0 : List Int)).bind fun y819 => (engrosslaw11_NodeWays.l1 k2 a0 a1 x7_2 y819 (y819.length : Int) 0 false x816002_2 y816)) else (none)) else (none)) else (engrosslaw11_NodeWays.l0 k2 a0 a1 (wrap64 (x7_2 + 1)) false x816002_2 y816)) = some r := by first | (rw [hy816]; with_reducible exact H) | (have H2_ := (Option.bind_some _ _).symm.trans H; rw [hy816]; with_reducible exact H2_) | (have H2_ := (Option.bind_some _ _).symm.trans H; with_reducible exact H2_) | with_reducible exact H | (rw [hy816]; exact H) | exact H
         have Ny816 := Aside0.mk hy816
         clear hy816
         by_cases c15 : x7_2 > 0
         ·rw [if_pos c15] at H
          have c15b0 : decide (0 < x7_2) = true := decide_eq_true c15
          clear c15
          by_cases c16 : 0 ≤ a1
          ·rw [if_pos c16] at H
           have c16b0 := eq_true c16
           have c16b1 : decide (0 ≤ a1) = true := decide_eq_true c16
           clear c16
           by_cases c17 : (a1 : Int).toNat ≤ 281474976710656
           ·rw [if_pos c17] at H
            have c17b0 := eq_true c17
            have c17b1 : decide ((a1 : Int).toNat ≤ 281474976710656) = true := decide_eq_true c17
            clear c17
            obtain ⟨y819, hy819⟩ : ∃ y_ : List Int, y_ = (List.replicate (a1 : Int).toNat 0) := ⟨_, rfl⟩
            replace H : (engrosslaw11_NodeWays.l1 k2 a0 a1 x7_2 y819 (y819.length : Int) 0 false x816002_2 y816) = some r := by first | (rw [hy819]; with_reducible exact H) | (have H2_ := (Option.bind_some _ _).symm.trans H; rw [hy819]; with_reducible exact H2_) | (have H2_ := (Option.bind_some _ _).symm.trans H; with_reducible exact H2_) | with_reducible exact H | (rw [hy819]; exact H) | exact H
            have Ny819 := Aside0.mk hy819
            clear hy819
            have H' := Aside0.mk H
            clear H
            obtain ⟨hcz18_0, hcz18_1, hcz18_2, hcz18_3, hfz18_0, hfz18_1, hfz18_2, hfz18_3⟩ := bf4 (w := wr) BK815
            go_wp2_with (first | ((with_reducible refine gate_builtin (b := .append) (xs := #[.tmp 39, .tmp 43]) rfl ?_); (try (refine gate_guard (by rfl) ?_; dsimp only)); at_builtin; refine Kd.R_append (Kd.int .i64) (w0 := w) w.heap.size rfl (.tmp 39) (.tmp 43) 24 3 (.int .i64 0) 8 rfl Try.underlying24 info3 rfl (by decide) (by omega) u816003 x816003_2 (wrap64 (2 + (Int.tmod x7_2 30))) [.int .i64 (wrap64 (2 + (Int.tmod x7_2 30)))] (fun _ => True) (fun _ => False) rfl rfl ?aP (fun _ hk => hk.elim) ?aF ?aO ?aB ?aS ?aL ?_; (case aP => exact rfl); (case aB => exact (bC HB)); (case aF => exact (fun _ _ => trivial)); (case aO => exact (by (with_reducible repeat (first | apply Kd.R_alloc | apply Kd.R_drewN | apply Kd.R_drew)); exact HO_816003.out)); (case aS => exact (below_size (bC HB))); (case aL => have := LMc14.out; omega); intro v817 w19 ho hb hg hat; rw [← Ny816.out] at ho; have HO818 := Aside0.mk (ho); replace HO_816002 := Aside0.mk (Kd.R_over' (by (with_reducible repeat (first | apply Kd.R_alloc | apply Kd.R_drewN | apply Kd.R_drew)); exact HO_816002.out) (Kd.R_typed (by (with_reducible repeat (first | apply Kd.R_alloc | apply Kd.R_drewN | apply Kd.R_drew)); exact HO_816003.out)) (by decide) hg); replace BK815 := Aside0.mk (blk_grown (bQ BK815) hg (Kd.R_ne HO_816003.out BK815.out (by decide))); replace HB := Aside0.mk (hb); clear HO_816003; clear ho hb hg hat; obtain ⟨Ao20, co20, eo20⟩ := Kd.R_slice HO818.out; subst eo20; obtain ⟨hcz21_0, hcz21_1, hcz21_2, hcz21_3, hfz21_0, hfz21_1, hfz21_2, hfz21_3⟩ := bf4 (w := w19) BK815) | ((with_reducible refine gate_dst (N := 49) rfl ?_); (try (refine gate_guard (by rfl) ?_; dsimp only)); refine Kd.R_make (Kd.int .u8) _ 5 rfl (N := 49) rfl 30 _ _ rfl a1 rfl rfl Try.underlying30 (.int .u8 0) 1 info5 rfl (by decide) (by omega) 0 (ok := fun _ => True) (okp := fun _ => True) rfl (fun _ hk => hk) trivial (of_decide_eq_true (by first | (with_reducible assumption) | assumption)) (Nat.le_trans (Nat.mul_le_mul_right _ (of_decide_eq_true (by first | (with_reducible assumption) | assumption) : a1.toNat ≤ 281474976710656)) (by omega)) (Below.refl _ _) (Nat.le_refl _) ?_; intro v820 w22 ho23 hb hg_ hnew_; clear hg_ hnew_; (first | rw [← Ny819.out] at ho23 | (simp only [Int.reduceToNat] at ho23; rw [← Ny819.out] at ho23)); have HO821 := Aside0.mk (Kd.R_lower ho23 (below_size (bC HB))); replace HO_816002 := Aside0.mk (Kd.R_below (by (with_reducible repeat (first | apply Kd.R_alloc | apply Kd.R_drewN | apply Kd.R_drew)); exact (Kd.R_mono (Kd.R_far (p := ⟨gb815, 3, none⟩) (Kd.R_types HO_816002.out BK815.out (by decide)) (fun _ hk => hk.2) (.slice Ao20 y816.length co20)) (fun _ h_ => h_.1))) hb); replace HO818 := Aside0.mk (Kd.R_below (by (with_reducible repeat (first | apply Kd.R_alloc | apply Kd.R_drewN | apply Kd.R_drew)); exact (Kd.R_mono (Kd.R_far (p := ⟨gb815, 3, none⟩) (Kd.R_types HO818.out BK815.out (by decide)) (fun _ hk => hk.2) (.slice Ao20 y816.length co20)) (fun _ h_ => h_.1))) hb); replace BK815 := Aside0.mk (blk_below (g := gb815) (o := .cells #[.bool false, .slice none 0 0, u816002, .slice Ao20 y816.length co20] 26 (0, 0)) (bR BK815) hb); replace HB := bW HB hb; clear hb ho23; obtain ⟨Ao24, co24, eo24⟩ := Kd.R_slice HO821.out; subst eo24))
            go_loopg [52] k2 (fun kq v52 w' => ∃ (x8_3 : List Int) (x52_3 : Int), v52 = .int .i64 x52_3 ∧ Aside0 (engrosslaw11_NodeWays.l1 kq a0 a1 x7_2 x8_3 (y819.length : Int) x52_3 false x816002_2 y816 = some r) ∧ Aside0 (kq ≤ k2) ∧ Aside0 (Kd.R (Kd.int .u8) 5 w' w.heap.size (fun _ => True) (.slice Ao24 y819.length co24) x8_3) ∧ Aside0 (Kd.R Kd.string 9 w' w.heap.size (fun _ => True) u816002 x816002_2) ∧ Aside0 (Kd.R (Kd.int .i64) 3 w' w.heap.size (fun _ => True) (.slice Ao20 y816.length co20) y816) ∧ Aside0 (w'.heap[gb815]? = some (.cells #[.bool false, (.slice none 0 0), u816002, (.slice Ao20 y816.length co20)] 26 (0, 0))) ∧ Aside0 (Below w.heap.size w w'))
            case atStart => exact ⟨(y819), (0), (by first | rfl | (simp; done) | (simp [*]; done)), H', ⟨Nat.le_refl _⟩, ⟨by (with_reducible repeat (first | apply Kd.R_alloc | apply Kd.R_drewN | apply Kd.R_drew)); exact HO821.out⟩, ⟨by (with_reducible repeat (first | apply Kd.R_alloc | apply Kd.R_drewN | apply Kd.R_drew)); exact HO_816002.out⟩, ⟨by (with_reducible repeat (first | apply Kd.R_alloc | apply Kd.R_drewN | apply Kd.R_drew)); exact HO818.out⟩, ⟨by (with_reducible repeat (first | refine blk_drewN ?_ _ | refine blk_drew ?_ | refine blk_alloc ?_ _)); exact BK815.out⟩, ⟨by repeat (first | (with_reducible first | exact HB.out | apply below_alloc | apply pw_below_drewN | apply below_drew1 | refine below_set ?_ GE815.out) | exact HB.out)⟩⟩
            case round =>
             clear H'
             try clear c1
             try clear p2
             try clear c4
             try clear p6
             try clear c7
             try clear c7b0
             try clear c8
             try clear c8b0
             try clear c9
             try clear c9b0
             try clear c10
             try clear c11
             try clear c13
             try clear c13b0
             try clear c14
             try clear c15
             try clear c15b0
             try clear c16
             try clear c16b0
             try clear c16b1
             try clear c17
             try clear c17b0
             try clear c17b1
             try clear hcz12_0
             try clear hcz12_1
             try clear hcz12_2
             try clear hcz12_3
             try clear hcz18_0
             try clear hcz18_1
             try clear hcz18_2
             try clear hcz18_3
             try clear hcz21_0
             try clear hcz21_1
             try clear hcz21_2
             try clear hcz21_3
             try clear hfz12_0
             try clear hfz12_1
             try clear hfz12_2
             try clear hfz12_3
             try clear hfz18_0
             try clear hfz18_1
             try clear hfz18_2
             try clear hfz18_3
             try clear hfz21_0
             try clear hfz21_1
             try clear hfz21_2
             try clear hfz21_3
             try clear p2
             obtain ⟨x8_3, x52_3, rfl, HA, HK3, HO_8, HO_816002, HO_816003, BK815, HB⟩ := hrel
             have hl8_3 := (Kd.R_reads' HO_8.out).1
             rw [hl8_3] at HO_8
             (try simp only [hl8_3])
             (try simp only [hl8_3] at BK815)
             (try simp only [hl8_3] at HO_816002)
             (try simp only [hl8_3] at HO_816003)
             cases gk with
             | zero => exact absurd HA.out (by simp [engrosslaw11_NodeWays.l1])
             | succ k3 =>
              have H := HA.out
              clear HA
              simp only [engrosslaw11_NodeWays.l1] at H
              by_cases c25 : x52_3 < (y819.length : Int)
              ·rw [if_pos c25] at H
               have c25b0 : decide (x52_3 < (y819.length : Int)) = true := decide_eq_true c25
               clear c25
               (try (have c25x0 := c25b0; simp only [hl8_3] at c25x0))
               by_cases c26 : 0 ≤ x52_3
               ·rw [if_pos c26] at H
                have c26b0 : decide (0 ≤ x52_3) = true := decide_eq_true c26
                clear c26
                by_cases c27 : x52_3 < (x8_3.length : Int)
                ·rw [if_pos c27] at H
                 have c27b0 : decide (x52_3 < (x8_3.length : Int)) = true := decide_eq_true c27
                 clear c27
                 (try (have c27x0 := c27b0; simp only [hl8_3] at c27x0))
                 obtain ⟨y822, hy822⟩ : ∃ y_ : List Int, y_ = (x8_3.set (x52_3 : Int).toNat ((wrap64 (97 + x7_2)) % 256)) := ⟨_, rfl⟩
                 replace H : (engrosslaw11_NodeWays.l1 k3 a0 a1 x7_2 y822 (y819.length : Int) (wrap64 (x52_3 + 1)) false x816002_2 y816) = some r := by first | (rw [hy822]; with_reducible exact H) | (have H2_ := (Option.bind_some _ _).symm.trans H; rw [hy822]; with_reducible exact H2_) | (have H2_ := (Option.bind_some _ _).symm.trans H; with_reducible exact H2_) | with_reducible exact H | (rw [hy822]; exact H) | exact H
                 have Ny822 := Aside0.mk hy822
                 clear hy822
                 have H' := Aside0.mk H
                 clear H
                 have p28 : 0 ≤ (x52_3 : Int) := of_decide_eq_true (by first | (with_reducible assumption) | assumption)
                 have q28 : (x52_3 : Int) < ((x8_3.length : Int) : Int) := of_decide_eq_true (by first | (with_reducible assumption) | assumption)
                 obtain ⟨go28, co28, eo28, gb28, gl28, cl28, HG28⟩ := Kd.R_form HO_8.out (by omega)
                 (first | cases eo28 | (injection eo28 with ea_ en_ ec_; (first | subst ea_ | (injection ea_ with ea_; subst ea_)); subst ec_; clear en_))
                 have GB28 := Aside0.mk gb28
                 have GG28 := Aside0.mk HG28
                 clear gb28 gl28 HG28
                 obtain ⟨hx28_0, hf28_0⟩ := Kd.R_celln 0 HO_8.out (x52_3 : Int) p28 q28
                 replace p28 := eq_true p28
                 replace q28 := eq_true q28
                 have HP29 := Kd.R_putg HO_8.out (x52_3 : Int) ((wrap64 (97 + x7_2)) % 256)
                 go_wp2_with (first | ((with_reducible refine gate_store (t := 5) (p := 60) rfl ?_); refine store_event (t := 5) (p := 60) (v := ?vo_w30) (w1 := (wr.setCell ⟨go28, (x52_3 : Int).toNat, none⟩ (.int .u8 ((wrap64 (97 + x7_2)) % 256)))) ?hg ?ho ?hn ?hr ?_; (case ho => rfl); (case hg => rfl); (case hn => rfl); (case hr => first | (go_simp; done) | (go_simp; rfl)); intro w30 hw; have hg : wr.grownBy w30 (some go28) := (by rw [hw]; exact HP29.2); have hp_ : Kd.R (Kd.int .u8) 5 w30 w.heap.size (fun _ => True) (.slice (some ⟨go28, 0, none⟩) x8_3.length co24) y822 := (by rw [hw, Ny822.out]; exact HP29.1); clear HP29; replace HO_816002 := Aside0.mk (Kd.R_over' (v := (.slice (some ⟨go28, 0, none⟩) x8_3.length co24)) (by (with_reducible repeat (first | apply Kd.R_alloc | apply Kd.R_drewN | apply Kd.R_drew)); exact HO_816002.out) (Kd.R_typed HO_8.out) (by decide) hg); replace HO_816003 := Aside0.mk (Kd.R_over' (v := (.slice (some ⟨go28, 0, none⟩) x8_3.length co24)) (by (with_reducible repeat (first | apply Kd.R_alloc | apply Kd.R_drewN | apply Kd.R_drew)); exact HO_816003.out) (Kd.R_typed HO_8.out) (by decide) hg); replace BK815 := Aside0.mk (blk_grown (bQ BK815) hg (Kd.R_ne HO_8.out BK815.out (by decide))); replace HO_8 := Aside0.mk (hp_); replace HB := Aside0.mk ((by rw [hw]; exact below_set (HB.out) GB28.out : Below w.heap.size w w30)); clear hg hw hp_))
                 (try simp only [← hl8_3])
                 go_roundg k3
                 case measure => have := HJ4.out; have := HK2.out; have := HK3.out; omega
                 case rel => exact ⟨(y822), (wrap64 (x52_3 + 1)), (by first | rfl | (simp; done) | (simp [*]; done)), H', ⟨by have := HJ4.out; have := HK2.out; have := HK3.out; omega⟩, ⟨by (try simp only [hl8_3]); (with_reducible repeat (first | apply Kd.R_alloc | apply Kd.R_drewN | apply Kd.R_drew)); exact HO_8.out⟩, ⟨by (try simp only [hl8_3]); (with_reducible repeat (first | apply Kd.R_alloc | apply Kd.R_drewN | apply Kd.R_drew)); exact HO_816002.out⟩, ⟨by (try simp only [hl8_3]); (with_reducible repeat (first | apply Kd.R_alloc | apply Kd.R_drewN | apply Kd.R_drew)); exact HO_816003.out⟩, ⟨by (try simp only [hl8_3]); (with_reducible repeat (first | refine blk_drewN ?_ _ | refine blk_drew ?_ | refine blk_alloc ?_ _)); exact BK815.out⟩, ⟨by repeat (first | (with_reducible first | exact HB.out | apply below_alloc | apply pw_below_drewN | apply below_drew1 | refine below_set ?_ GE815.out) | exact HB.out)⟩⟩
                ·rw [if_neg c27] at H
                 exact absurd H (by simp)
               ·rw [if_neg c26] at H
                exact absurd H (by simp)
              ·rw [if_neg c25] at H
               have c25b0 : decide (x52_3 < (y819.length : Int)) = false := decide_eq_false c25
               clear c25
               (try (have c25x0 := c25b0; simp only [hl8_3] at c25x0))
               by_cases c31 : x816002_2.length < 8796093022208
               ·rw [if_pos c31] at H
                have LMc31 := Aside0.mk c31
                clear c31
                obtain ⟨y823, hy823⟩ : ∃ y_ : List ByteArray, y_ = (x816002_2 ++ [strOfNums x8_3]) := ⟨_, rfl⟩
                replace H : (engrosslaw11_NodeWays.l0 k3 a0 a1 (wrap64 (x7_2 + 1)) false y823 y816) = some r := by first | (rw [hy823]; with_reducible exact H) | (have H2_ := (Option.bind_some _ _).symm.trans H; rw [hy823]; with_reducible exact H2_) | (have H2_ := (Option.bind_some _ _).symm.trans H; with_reducible exact H2_) | with_reducible exact H | (rw [hy823]; exact H) | exact H
                have Ny823 := Aside0.mk hy823
                clear hy823
                have H' := Aside0.mk H
                clear H
                obtain ⟨hcz32_0, hcz32_1, hcz32_2, hcz32_3, hfz32_0, hfz32_1, hfz32_2, hfz32_3⟩ := bf4 (w := wr) BK815
                have hcv33 := Kd.x_R_string (P := Try.prog) Try.underlying30 Try.underlying5 Try.underlying9 (HO_8.out)
                go_wp2_with (first | ((with_reducible refine gate_builtin (b := .append) (xs := #[.tmp 63, .tmp 66]) rfl ?_); (try (refine gate_guard (by rfl) ?_; dsimp only)); at_builtin; refine Kd.R_append Kd.string (w0 := w) w.heap.size rfl (.tmp 63) (.tmp 66) 23 9 (.string ⟨#[]⟩) 16 rfl Try.underlying23 info9 rfl (by decide) (by omega) u816002 x816002_2 (strOfNums x8_3) [.string (strOfNums x8_3)] (fun _ => True) (fun _ => False) rfl rfl ?aP (fun _ hk => hk.elim) ?aF ?aO ?aB ?aS ?aL ?_; (case aP => exact rfl); (case aB => exact (bC HB)); (case aF => exact (fun _ _ => trivial)); (case aO => exact (by (with_reducible repeat (first | apply Kd.R_alloc | apply Kd.R_drewN | apply Kd.R_drew)); exact HO_816002.out)); (case aS => exact (below_size (bC HB))); (case aL => have := LMc31.out; omega); intro v824 w34 ho hb hg hat; rw [← Ny823.out] at ho; have HO825 := Aside0.mk (ho); replace HO_8 := Aside0.mk (Kd.R_over' (by (with_reducible repeat (first | apply Kd.R_alloc | apply Kd.R_drewN | apply Kd.R_drew)); exact HO_8.out) (Kd.R_typed (by (with_reducible repeat (first | apply Kd.R_alloc | apply Kd.R_drewN | apply Kd.R_drew)); exact HO_816002.out)) (by decide) hg); replace HO_816003 := Aside0.mk (Kd.R_over' (by (with_reducible repeat (first | apply Kd.R_alloc | apply Kd.R_drewN | apply Kd.R_drew)); exact HO_816003.out) (Kd.R_typed (by (with_reducible repeat (first | apply Kd.R_alloc | apply Kd.R_drewN | apply Kd.R_drew)); exact HO_816002.out)) (by decide) hg); replace BK815 := Aside0.mk (blk_grown (bQ BK815) hg (Kd.R_ne HO_816002.out BK815.out (by decide))); replace HB := Aside0.mk (hb); clear HO_816002; clear ho hb hg hat; obtain ⟨Ao35, co35, eo35⟩ := Kd.R_slice HO825.out; subst eo35; obtain ⟨hcz36_0, hcz36_1, hcz36_2, hcz36_3, hfz36_0, hfz36_1, hfz36_2, hfz36_3⟩ := bf4 (w := w34) BK815))
                (try simp only [← hl8_3])
                go_roundg k3
                case measure => have := HJ4.out; have := HK2.out; have := HK3.out; omega
                case rel => exact ⟨(wrap64 (x7_2 + 1)), (y823), (y816), (.slice Ao35 y823.length co35), (.slice Ao20 y816.length co20), (by first | rfl | (simp; done) | (simp [*]; done)), H', ⟨by have := HJ4.out; have := HK2.out; have := HK3.out; omega⟩, ⟨by (try simp only [hl8_3]); (with_reducible repeat (first | apply Kd.R_alloc | apply Kd.R_drewN | apply Kd.R_drew)); exact Kd.R_mono (Kd.R_far (p := ⟨gb815, 2, none⟩) (Kd.R_types HO825.out BK815.out (by decide)) (fun _ hk => hk.2) (.slice Ao35 y823.length co35)) (fun _ hk => trivial)⟩, ⟨by (try simp only [hl8_3]); (with_reducible repeat (first | apply Kd.R_alloc | apply Kd.R_drewN | apply Kd.R_drew)); exact Kd.R_mono (Kd.R_far (p := ⟨gb815, 2, none⟩) (Kd.R_types HO_816003.out BK815.out (by decide)) (fun _ hk => hk.2) (.slice Ao35 y823.length co35)) (fun _ hk => trivial)⟩, ⟨by (try simp only [hl8_3]); (with_reducible repeat (first | refine blk_drewN ?_ _ | refine blk_drew ?_ | refine blk_alloc ?_ _)); refine blk_put (cs := #[.bool false, .slice none 0 0, u816002, .slice Ao20 y816.length co20]) ?_ 2 _ rfl; (with_reducible repeat (first | refine blk_drewN ?_ _ | refine blk_drew ?_ | refine blk_alloc ?_ _)); exact BK815.out⟩, ⟨by repeat (first | (with_reducible first | exact HB.out | apply below_alloc | apply pw_below_drewN | apply below_drew1 | refine below_set ?_ GE815.out) | exact HB.out)⟩⟩
               ·rw [if_neg c31] at H
                exact absurd H (by simp)
           ·rw [if_neg c17] at H
            exact absurd H (by simp)
          ·rw [if_neg c16] at H
           exact absurd H (by simp)
         ·rw [if_neg c15] at H
          have c15b0 : decide (0 < x7_2) = false := decide_eq_false c15
          clear c15
          have H' := Aside0.mk H
          clear H
          obtain ⟨hcz37_0, hcz37_1, hcz37_2, hcz37_3, hfz37_0, hfz37_1, hfz37_2, hfz37_3⟩ := bf4 (w := wr) BK815
          go_wp2_with (first | ((with_reducible refine gate_builtin (b := .append) (xs := #[.tmp 39, .tmp 43]) rfl ?_); (try (refine gate_guard (by rfl) ?_; dsimp only)); at_builtin; refine Kd.R_append (Kd.int .i64) (w0 := w) w.heap.size rfl (.tmp 39) (.tmp 43) 24 3 (.int .i64 0) 8 rfl Try.underlying24 info3 rfl (by decide) (by omega) u816003 x816003_2 (wrap64 (2 + (Int.tmod x7_2 30))) [.int .i64 (wrap64 (2 + (Int.tmod x7_2 30)))] (fun _ => True) (fun _ => False) rfl rfl ?aP (fun _ hk => hk.elim) ?aF ?aO ?aB ?aS ?aL ?_; (case aP => exact rfl); (case aB => exact (bC HB)); (case aF => exact (fun _ _ => trivial)); (case aO => exact (by (with_reducible repeat (first | apply Kd.R_alloc | apply Kd.R_drewN | apply Kd.R_drew)); exact HO_816003.out)); (case aS => exact (below_size (bC HB))); (case aL => have := LMc14.out; omega); intro v817 w38 ho hb hg hat; rw [← Ny816.out] at ho; have HO818 := Aside0.mk (ho); replace HO_816002 := Aside0.mk (Kd.R_over' (by (with_reducible repeat (first | apply Kd.R_alloc | apply Kd.R_drewN | apply Kd.R_drew)); exact HO_816002.out) (Kd.R_typed (by (with_reducible repeat (first | apply Kd.R_alloc | apply Kd.R_drewN | apply Kd.R_drew)); exact HO_816003.out)) (by decide) hg); replace BK815 := Aside0.mk (blk_grown (bQ BK815) hg (Kd.R_ne HO_816003.out BK815.out (by decide))); replace HB := Aside0.mk (hb); clear HO_816003; clear ho hb hg hat; obtain ⟨Ao39, co39, eo39⟩ := Kd.R_slice HO818.out; subst eo39; obtain ⟨hcz40_0, hcz40_1, hcz40_2, hcz40_3, hfz40_0, hfz40_1, hfz40_2, hfz40_3⟩ := bf4 (w := w38) BK815))
          go_roundg k2
          case measure => have := HJ4.out; have := HK2.out; omega
          case rel => exact ⟨(wrap64 (x7_2 + 1)), (x816002_2), (y816), (u816002), (.slice Ao39 y816.length co39), (by first | rfl | (simp; done) | (simp [*]; done)), H', ⟨by have := HJ4.out; have := HK2.out; omega⟩, ⟨by (with_reducible repeat (first | apply Kd.R_alloc | apply Kd.R_drewN | apply Kd.R_drew)); exact Kd.R_mono (Kd.R_far (p := ⟨gb815, 3, none⟩) (Kd.R_types HO_816002.out BK815.out (by decide)) (fun _ hk => hk.2) (.slice Ao39 y816.length co39)) (fun _ hk => trivial)⟩, ⟨by (with_reducible repeat (first | apply Kd.R_alloc | apply Kd.R_drewN | apply Kd.R_drew)); exact Kd.R_mono (Kd.R_far (p := ⟨gb815, 3, none⟩) (Kd.R_types HO818.out BK815.out (by decide)) (fun _ hk => hk.2) (.slice Ao39 y816.length co39)) (fun _ hk => trivial)⟩, ⟨by (with_reducible repeat (first | refine blk_drewN ?_ _ | refine blk_drew ?_ | refine blk_alloc ?_ _)); refine blk_put (cs := #[.bool false, .slice none 0 0, u816002, u816003]) ?_ 3 _ rfl; (with_reducible repeat (first | refine blk_drewN ?_ _ | refine blk_drew ?_ | refine blk_alloc ?_ _)); exact BK815.out⟩, ⟨by repeat (first | (with_reducible first | exact HB.out | apply below_alloc | apply pw_below_drewN | apply below_drew1 | refine below_set ?_ GE815.out) | exact HB.out)⟩⟩
        ·rw [if_neg c14] at H
         exact absurd H (by simp)
       ·rw [if_neg c13] at H
        have c13b0 : decide (x7_2 < a0) = false := decide_eq_false c13
        clear c13
        replace H := Option.bind_eq_some_iff.mp H
        obtain ⟨⟨t826, t827, t830, t833⟩, A410, H⟩ := H
        replace H : ((node_Encode.f k2 t826 t827 t830 t833).bind fun bt836 => (if ((bt836.2 == 0) != (decide ((wrap64 ((wrap64 (2 + a0)) + (wrap64 ((wrap64 (a0 - 1)) * (wrap64 (1 + a1)))))) ≤ 256))) = true then (none) else ((engrosslaw11_Of.f k2 false ([] : List (S56)) x816002_2 x816003_2).bind fun bt840 => ((node_Size.f k2 bt840.1 bt840.2.1 bt840.2.2.1 bt840.2.2.2).bind fun t850 => (engrosslaw11_NodeWays.j3 k2 a0 bt836.1 bt836.2 (t850 != (wrap64 ((wrap64 (2 + a0)) + (wrap64 ((wrap64 (a0 - 1)) * (wrap64 (1 + a1)))))))))))) = some r := H
        have A41 := Aside0.mk A410
        clear A410
        replace H := Option.bind_eq_some_iff.mp H
        obtain ⟨⟨t836, t839⟩, A420, H⟩ := H
        replace H : (if ((t839 == 0) != (decide ((wrap64 ((wrap64 (2 + a0)) + (wrap64 ((wrap64 (a0 - 1)) * (wrap64 (1 + a1)))))) ≤ 256))) = true then (none) else ((engrosslaw11_Of.f k2 false ([] : List (S56)) x816002_2 x816003_2).bind fun bt840 => ((node_Size.f k2 bt840.1 bt840.2.1 bt840.2.2.1 bt840.2.2.2).bind fun t850 => (engrosslaw11_NodeWays.j3 k2 a0 t836 t839 (t850 != (wrap64 ((wrap64 (2 + a0)) + (wrap64 ((wrap64 (a0 - 1)) * (wrap64 (1 + a1))))))))))) = some r := H
        have A42 := Aside0.mk A420
        clear A420
        have HC43 := Aside0.mk H
        clear H
        obtain ⟨hcz44_0, hcz44_1, hcz44_2, hcz44_3, hfz44_0, hfz44_1, hfz44_2, hfz44_3⟩ := bf4 (w := wr) BK815
        obtain ⟨Ao45, co45, eo45⟩ := Kd.R_slice HO_816002.out
        subst eo45
        obtain ⟨Ao46, co46, eo46⟩ := Kd.R_slice HO_816003.out
        subst eo46
        go_upto_region 21 with (first | (go_at_call 17; refine calls_of_args (args' := #[.agg #[.bool false, .slice none ([] : List (S56)).length 0, .slice Ao45 x816002_2.length co45, .slice Ao46 x816003_2.length co46]]) (by first | rfl | ((try simp only [List.map_toArray, List.map_cons, List.map_nil]); rfl)) ?_; (with_reducible refine (engrosslaw11_Of.calls k2 false _ _ ([] : List (S56)) (fun k_ => some k_ = (.slice Ao45 x816002_2.length co45 : Value).ownBlock) _ _ x816002_2 (fun k_ => some k_ = (.slice Ao46 x816003_2.length co46 : Value).ownBlock) _ _ x816003_2 t826 t827 t830 t833 _ ?side1 ?side2 ?side3 ?side4 A41.out).mono ?_); (case side1 => exact Kd.C_nil _ _); (case side2 => exact Nat.le_refl _); (case side3 => exact Kd.R_V (Kd.R_tight rfl (Kd.R_types (Kd.R_apart' (HO_816002.out) (Kd.R_typed HO_816003.out) (by decide)) BK815.out (by decide)))); (case side4 => exact Kd.R_V (Kd.R_tight rfl (Kd.R_types (Kd.R_apart' (HO_816003.out) (Kd.R_typed HO_816002.out) (by decide)) BK815.out (by decide)))); rintro e w47 ⟨v828, v831, v834, rfl, ho0, ho1, ho2, hb⟩; have HO829 := Aside0.mk (Kd.R_lower (Kd.R_mono (ok' := fun k_ => True) ho0 (fun _ hk_ => trivial)) (below_size (bC HB))); have HO832 := Aside0.mk (Kd.V_lower (Kd.V_mono (ok' := fun k_ => some k_ ≠ (v828 : Value).ownBlock ∧ k_ ≠ gb815) ho1 (fun k_ hk_ => ⟨hk_.2, Or.elim hk_.1 (fun hs_ => Or.elim hs_ (fun hs_ => ((Kd.R_types (Kd.R_apart' (HO_816002.out) (Kd.R_typed HO_816003.out) (by decide)) BK815.out (by decide)).1 k_ hs_.symm).2) (fun hs_ => ((Kd.R_types (Kd.R_apart' (HO_816003.out) (Kd.R_typed HO_816002.out) (by decide)) BK815.out (by decide)).1 k_ hs_.symm).2)) (fun hn_ => (Kd.freshB (bQ BK815) k_ hn_))⟩)) (below_size (bC HB))); have HO835 := Aside0.mk (Kd.V_lower (Kd.V_mono (ok' := fun k_ => some k_ ≠ (v828 : Value).ownBlock ∧ k_ ≠ gb815) ho2 (fun k_ hk_ => ⟨hk_.2, Or.elim hk_.1 (fun hs_ => Or.elim hs_ (fun hs_ => ((Kd.R_types (Kd.R_apart' (HO_816002.out) (Kd.R_typed HO_816003.out) (by decide)) BK815.out (by decide)).1 k_ hs_.symm).2) (fun hs_ => ((Kd.R_types (Kd.R_apart' (HO_816003.out) (Kd.R_typed HO_816002.out) (by decide)) BK815.out (by decide)).1 k_ hs_.symm).2)) (fun hn_ => (Kd.freshB (bQ BK815) k_ hn_))⟩)) (below_size (bC HB))); replace HO_816002 := Aside0.mk (Kd.R_below (by (with_reducible repeat (first | apply Kd.R_alloc | apply Kd.R_drewN | apply Kd.R_drew)); exact HO_816002.out) hb); replace HO_816003 := Aside0.mk (Kd.R_below (by (with_reducible repeat (first | apply Kd.R_alloc | apply Kd.R_drewN | apply Kd.R_drew)); exact HO_816003.out) hb); replace BK815 := bB BK815 hb; replace HB := bW HB hb; (try clear hb); (try clear hb2); (try clear hk); (try clear hi); (try clear ho0); (try clear ho1); (try clear ho2); obtain ⟨Ao48, co48, eo48⟩ := Kd.R_slice HO829.out; subst eo48; obtain ⟨Ao49, co49, eo49⟩ := Kd.V_slice HO832.out; subst eo49; obtain ⟨Ao50, co50, eo50⟩ := Kd.V_slice HO835.out; subst eo50) | ((with_reducible refine gate_callee (f := 19) rfl ?_); refine goesL_ (some 80) rfl rfl Try.func19 (by kernel_rfl) rfl #[.agg #[.bool t826, .slice Ao48 t827.length co48, .slice Ao49 t830.length co49, .slice Ao50 t833.length co50]] rfl (by (try simp only [List.map_toArray, List.map_cons, List.map_nil]); first | done | rfl | (simp only [List.length_drop, List.length_take]; rfl)) ?_; (with_reducible refine (node_Encode.calls k2 t826 _ _ t827 _ _ t830 _ _ t833 t836 t839 _ ?side1 ?side2 ?side3 ?side4 ?side5 ?side6 A42.out).mono ?_); (case side1 => repeat (first | exact (Kd.R_reads' HO829.out).2.2 | (with_reducible refine Kd.C_alloc ?_ _) | (with_reducible refine Kd.C_drewN ?_ _) | (with_reducible refine Kd.C_drew ?_))); (case side2 => exact (Kd.R_reads' HO829.out).2.1); (case side3 => repeat (first | exact (Kd.V_reads' HO832.out).2.2 | (with_reducible refine Kd.C_alloc ?_ _) | (with_reducible refine Kd.C_drewN ?_ _) | (with_reducible refine Kd.C_drew ?_))); (case side4 => exact (Kd.V_reads' HO832.out).2.1); (case side5 => repeat (first | exact (Kd.V_reads' HO835.out).2.2 | (with_reducible refine Kd.C_alloc ?_ _) | (with_reducible refine Kd.C_drewN ?_ _) | (with_reducible refine Kd.C_drew ?_))); (case side6 => exact (Kd.V_reads' HO835.out).2.1); rintro e w51 ⟨v837, rfl, ho0, hb⟩; refine ⟨_, rfl, ?_⟩; have HO838 := Aside0.mk (Kd.R_lower ho0 (below_size (bC HB))); replace HO_816002 := Aside0.mk (Kd.R_below (by (with_reducible repeat (first | apply Kd.R_alloc | apply Kd.R_drewN | apply Kd.R_drew)); exact HO_816002.out) hb); replace HO_816003 := Aside0.mk (Kd.R_below (by (with_reducible repeat (first | apply Kd.R_alloc | apply Kd.R_drewN | apply Kd.R_drew)); exact HO_816003.out) hb); replace HO829 := Aside0.mk (Kd.R_below (by (with_reducible repeat (first | apply Kd.R_alloc | apply Kd.R_drewN | apply Kd.R_drew)); exact HO829.out) hb); replace HO832 := Aside0.mk (Kd.V_elder' (by (with_reducible repeat (first | apply Kd.V_alloc | apply Kd.V_drewN | apply Kd.V_drew)); exact HO832.out) (Kd.R_base ho0) hb); replace HO835 := Aside0.mk (Kd.V_elder' (by (with_reducible repeat (first | apply Kd.V_alloc | apply Kd.V_drewN | apply Kd.V_drew)); exact HO835.out) (Kd.R_base ho0) hb); replace BK815 := bB BK815 hb; replace HB := bW HB hb; (try clear hb); (try clear hb2); (try clear hk); (try clear hi); (try clear ho0)))
        (try simp only [Act.put, List.setIfInBounds_toArray, List.set_cons_zero, List.set_cons_succ])
        go_cut [94] (fun v94 wc => ∃ (kq : Nat) (x94_42 : Bool), v94 = .bool x94_42 ∧ Aside0 (engrosslaw11_NodeWays.j3 kq a0 t836 t839 x94_42 = some r) ∧ Aside0 (kq ≤ k2) ∧ Aside0 (Kd.R (Kd.int .u8) 5 wc w.heap.size (fun _ => True) v837 t836) ∧ Aside0 (Kd.R Kd.string 9 wc w.heap.size (fun _ => True) (.slice Ao45 x816002_2.length co45) x816002_2) ∧ Aside0 (Kd.R (Kd.int .i64) 3 wc w.heap.size (fun _ => True) (.slice Ao46 x816003_2.length co46) x816003_2) ∧ Aside0 (wc.heap[gb815]? = some (.cells #[.bool false, (.slice none 0 0), (.slice Ao45 x816002_2.length co45), (.slice Ao46 x816003_2.length co46)] 26 (0, 0))) ∧ Aside0 (Below w.heap.size w wc))
        case first =>
         have H := HC43.out
         clear HC43
         by_cases c52 : ((t839 == 0) != (decide ((wrap64 ((wrap64 (2 + a0)) + (wrap64 ((wrap64 (a0 - 1)) * (wrap64 (1 + a1)))))) ≤ 256))) = true
         ·rw [if_pos c52] at H
          exact absurd H (by simp)
         ·rw [if_neg c52] at H
          have c52b0 : ((t839 == 0) != (decide ((wrap64 ((wrap64 (2 + a0)) + (wrap64 ((wrap64 (a0 - 1)) * (wrap64 (1 + a1)))))) ≤ 256))) = false := by simpa using c52
          (try (have c52b1 : decide ((t839 == 0) = (decide ((wrap64 ((wrap64 (2 + a0)) + (wrap64 ((wrap64 (a0 - 1)) * (wrap64 (1 + a1)))))) ≤ 256))) = true := by simpa using c52))
          (try (have c52b2 : ((t839 == 0) == (decide ((wrap64 ((wrap64 (2 + a0)) + (wrap64 ((wrap64 (a0 - 1)) * (wrap64 (1 + a1)))))) ≤ 256))) = true := by simpa using c52))
          clear c52
          (first | rw [c52b0] | (simp only [i64_w, i32_w]; rw [c52b0]) | skip)
          replace H := Option.bind_eq_some_iff.mp H
          obtain ⟨⟨t840, t841, t844, t847⟩, A530, H⟩ := H
          replace H : ((node_Size.f k2 t840 t841 t844 t847).bind fun t850 => (engrosslaw11_NodeWays.j3 k2 a0 t836 t839 (t850 != (wrap64 ((wrap64 (2 + a0)) + (wrap64 ((wrap64 (a0 - 1)) * (wrap64 (1 + a1))))))))) = some r := H
          have A53 := Aside0.mk A530
          clear A530
          replace H := Option.bind_eq_some_iff.mp H
          obtain ⟨t850, A540, H⟩ := H
          replace H : (engrosslaw11_NodeWays.j3 k2 a0 t836 t839 (t850 != (wrap64 ((wrap64 (2 + a0)) + (wrap64 ((wrap64 (a0 - 1)) * (wrap64 (1 + a1)))))))) = some r := H
          have A54 := Aside0.mk A540
          clear A540
          have H' := Aside0.mk H
          clear H
          obtain ⟨hcz55_0, hcz55_1, hcz55_2, hcz55_3, hfz55_0, hfz55_1, hfz55_2, hfz55_3⟩ := bf4 (w := w51) BK815
          go_wp2_with (first | (go_at_call 17; refine calls_of_args (args' := #[.agg #[.bool false, .slice none ([] : List (S56)).length 0, .slice Ao45 x816002_2.length co45, .slice Ao46 x816003_2.length co46]]) (by first | rfl | ((try simp only [List.map_toArray, List.map_cons, List.map_nil]); rfl)) ?_; (with_reducible refine (engrosslaw11_Of.calls k2 false _ _ ([] : List (S56)) (fun k_ => some k_ = (.slice Ao45 x816002_2.length co45 : Value).ownBlock) _ _ x816002_2 (fun k_ => some k_ = (.slice Ao46 x816003_2.length co46 : Value).ownBlock) _ _ x816003_2 t840 t841 t844 t847 _ ?side1 ?side2 ?side3 ?side4 A53.out).mono ?_); (case side1 => exact Kd.C_nil _ _); (case side2 => exact Nat.le_refl _); (case side3 => exact Kd.R_V (Kd.R_tight rfl (Kd.R_types (Kd.R_apart' (Kd.R_apart' (Kd.R_apart' (HO_816002.out) (Kd.R_typed HO_816003.out) (by decide)) (Kd.R_typed HO829.out) (by decide)) (Kd.R_typed HO838.out) (by decide)) BK815.out (by decide)))); (case side4 => exact Kd.R_V (Kd.R_tight rfl (Kd.R_types (Kd.R_apart' (Kd.R_apart' (Kd.R_apart' (HO_816003.out) (Kd.R_typed HO_816002.out) (by decide)) (Kd.R_typed HO829.out) (by decide)) (Kd.R_typed HO838.out) (by decide)) BK815.out (by decide)))); rintro e w56 ⟨v842, v845, v848, rfl, ho0, ho1, ho2, hb⟩; have HO843 := Aside0.mk (Kd.R_lower (Kd.R_new' (Kd.R_mono (ok' := fun k_ => True) ho0 (fun _ hk_ => trivial)) (Kd.R_lt (by (with_reducible repeat (first | apply Kd.R_alloc | apply Kd.R_drewN | apply Kd.R_drew)); exact HO829.out))) (below_size (bC HB))); have HO846 := Aside0.mk (Kd.V_lower (Kd.V_mono (ok' := fun k_ => some k_ ≠ (v842 : Value).ownBlock ∧ some k_ ≠ (.slice Ao48 t827.length co48 : Value).ownBlock ∧ some k_ ≠ (v837 : Value).ownBlock ∧ k_ ≠ gb815) ho1 (fun k_ hk_ => ⟨hk_.2, Or.elim hk_.1 (fun hs_ => Or.elim hs_ (fun hs_ => ((Kd.R_types (Kd.R_apart' (Kd.R_apart' (Kd.R_apart' (HO_816002.out) (Kd.R_typed HO_816003.out) (by decide)) (Kd.R_typed HO829.out) (by decide)) (Kd.R_typed HO838.out) (by decide)) BK815.out (by decide)).1 k_ hs_.symm).1.1.2) (fun hs_ => ((Kd.R_types (Kd.R_apart' (Kd.R_apart' (Kd.R_apart' (HO_816003.out) (Kd.R_typed HO_816002.out) (by decide)) (Kd.R_typed HO829.out) (by decide)) (Kd.R_typed HO838.out) (by decide)) BK815.out (by decide)).1 k_ hs_.symm).1.1.2)) (fun hn_ => (Kd.fresh' (Kd.R_lt (by (with_reducible repeat (first | apply Kd.R_alloc | apply Kd.R_drewN | apply Kd.R_drew)); exact HO829.out)) k_ hn_)), Or.elim hk_.1 (fun hs_ => Or.elim hs_ (fun hs_ => ((Kd.R_types (Kd.R_apart' (Kd.R_apart' (Kd.R_apart' (HO_816002.out) (Kd.R_typed HO_816003.out) (by decide)) (Kd.R_typed HO829.out) (by decide)) (Kd.R_typed HO838.out) (by decide)) BK815.out (by decide)).1 k_ hs_.symm).1.2) (fun hs_ => ((Kd.R_types (Kd.R_apart' (Kd.R_apart' (Kd.R_apart' (HO_816003.out) (Kd.R_typed HO_816002.out) (by decide)) (Kd.R_typed HO829.out) (by decide)) (Kd.R_typed HO838.out) (by decide)) BK815.out (by decide)).1 k_ hs_.symm).1.2)) (fun hn_ => (Kd.fresh' (Kd.R_lt (by (with_reducible repeat (first | apply Kd.R_alloc | apply Kd.R_drewN | apply Kd.R_drew)); exact HO838.out)) k_ hn_)), Or.elim hk_.1 (fun hs_ => Or.elim hs_ (fun hs_ => ((Kd.R_types (Kd.R_apart' (Kd.R_apart' (Kd.R_apart' (HO_816002.out) (Kd.R_typed HO_816003.out) (by decide)) (Kd.R_typed HO829.out) (by decide)) (Kd.R_typed HO838.out) (by decide)) BK815.out (by decide)).1 k_ hs_.symm).2) (fun hs_ => ((Kd.R_types (Kd.R_apart' (Kd.R_apart' (Kd.R_apart' (HO_816003.out) (Kd.R_typed HO_816002.out) (by decide)) (Kd.R_typed HO829.out) (by decide)) (Kd.R_typed HO838.out) (by decide)) BK815.out (by decide)).1 k_ hs_.symm).2)) (fun hn_ => (Kd.freshB (bQ BK815) k_ hn_))⟩)) (below_size (bC HB))); have HO849 := Aside0.mk (Kd.V_lower (Kd.V_mono (ok' := fun k_ => some k_ ≠ (v842 : Value).ownBlock ∧ some k_ ≠ (.slice Ao48 t827.length co48 : Value).ownBlock ∧ some k_ ≠ (v837 : Value).ownBlock ∧ k_ ≠ gb815) ho2 (fun k_ hk_ => ⟨hk_.2, Or.elim hk_.1 (fun hs_ => Or.elim hs_ (fun hs_ => ((Kd.R_types (Kd.R_apart' (Kd.R_apart' (Kd.R_apart' (HO_816002.out) (Kd.R_typed HO_816003.out) (by decide)) (Kd.R_typed HO829.out) (by decide)) (Kd.R_typed HO838.out) (by decide)) BK815.out (by decide)).1 k_ hs_.symm).1.1.2) (fun hs_ => ((Kd.R_types (Kd.R_apart' (Kd.R_apart' (Kd.R_apart' (HO_816003.out) (Kd.R_typed HO_816002.out) (by decide)) (Kd.R_typed HO829.out) (by decide)) (Kd.R_typed HO838.out) (by decide)) BK815.out (by decide)).1 k_ hs_.symm).1.1.2)) (fun hn_ => (Kd.fresh' (Kd.R_lt (by (with_reducible repeat (first | apply Kd.R_alloc | apply Kd.R_drewN | apply Kd.R_drew)); exact HO829.out)) k_ hn_)), Or.elim hk_.1 (fun hs_ => Or.elim hs_ (fun hs_ => ((Kd.R_types (Kd.R_apart' (Kd.R_apart' (Kd.R_apart' (HO_816002.out) (Kd.R_typed HO_816003.out) (by decide)) (Kd.R_typed HO829.out) (by decide)) (Kd.R_typed HO838.out) (by decide)) BK815.out (by decide)).1 k_ hs_.symm).1.2) (fun hs_ => ((Kd.R_types (Kd.R_apart' (Kd.R_apart' (Kd.R_apart' (HO_816003.out) (Kd.R_typed HO_816002.out) (by decide)) (Kd.R_typed HO829.out) (by decide)) (Kd.R_typed HO838.out) (by decide)) BK815.out (by decide)).1 k_ hs_.symm).1.2)) (fun hn_ => (Kd.fresh' (Kd.R_lt (by (with_reducible repeat (first | apply Kd.R_alloc | apply Kd.R_drewN | apply Kd.R_drew)); exact HO838.out)) k_ hn_)), Or.elim hk_.1 (fun hs_ => Or.elim hs_ (fun hs_ => ((Kd.R_types (Kd.R_apart' (Kd.R_apart' (Kd.R_apart' (HO_816002.out) (Kd.R_typed HO_816003.out) (by decide)) (Kd.R_typed HO829.out) (by decide)) (Kd.R_typed HO838.out) (by decide)) BK815.out (by decide)).1 k_ hs_.symm).2) (fun hs_ => ((Kd.R_types (Kd.R_apart' (Kd.R_apart' (Kd.R_apart' (HO_816003.out) (Kd.R_typed HO_816002.out) (by decide)) (Kd.R_typed HO829.out) (by decide)) (Kd.R_typed HO838.out) (by decide)) BK815.out (by decide)).1 k_ hs_.symm).2)) (fun hn_ => (Kd.freshB (bQ BK815) k_ hn_))⟩)) (below_size (bC HB))); replace HO_816002 := Aside0.mk (Kd.R_below (by (with_reducible repeat (first | apply Kd.R_alloc | apply Kd.R_drewN | apply Kd.R_drew)); exact HO_816002.out) hb); replace HO_816003 := Aside0.mk (Kd.R_below (by (with_reducible repeat (first | apply Kd.R_alloc | apply Kd.R_drewN | apply Kd.R_drew)); exact HO_816003.out) hb); replace HO829 := Aside0.mk (Kd.R_elder' (by (with_reducible repeat (first | apply Kd.R_alloc | apply Kd.R_drewN | apply Kd.R_drew)); exact HO829.out) (Kd.R_base ho0) hb); replace HO832 := Aside0.mk (Kd.V_elder' (by (with_reducible repeat (first | apply Kd.V_alloc | apply Kd.V_drewN | apply Kd.V_drew)); exact HO832.out) (Kd.R_base ho0) hb); replace HO835 := Aside0.mk (Kd.V_elder' (by (with_reducible repeat (first | apply Kd.V_alloc | apply Kd.V_drewN | apply Kd.V_drew)); exact HO835.out) (Kd.R_base ho0) hb); replace HO838 := Aside0.mk (Kd.R_below (by (with_reducible repeat (first | apply Kd.R_alloc | apply Kd.R_drewN | apply Kd.R_drew)); exact HO838.out) hb); replace BK815 := bB BK815 hb; replace HB := bW HB hb; (try clear hb); (try clear hb2); (try clear hk); (try clear hi); (try clear ho0); (try clear ho1); (try clear ho2); obtain ⟨Ao57, co57, eo57⟩ := Kd.R_slice HO843.out; subst eo57; obtain ⟨Ao58, co58, eo58⟩ := Kd.V_slice HO846.out; subst eo58; obtain ⟨Ao59, co59, eo59⟩ := Kd.V_slice HO849.out; subst eo59) | (go_at_call 18; (with_reducible refine (node_Size.calls k2 t840 _ _ t841 _ _ t844 _ _ t847 t850 _ ?side1 ?side2 ?side3 ?side4 ?side5 ?side6 A54.out).mono ?_); (case side1 => repeat (first | exact (Kd.R_reads' HO843.out).2.2 | (with_reducible refine Kd.C_alloc ?_ _) | (with_reducible refine Kd.C_drewN ?_ _) | (with_reducible refine Kd.C_drew ?_))); (case side2 => exact (Kd.R_reads' HO843.out).2.1); (case side3 => repeat (first | exact (Kd.V_reads' HO846.out).2.2 | (with_reducible refine Kd.C_alloc ?_ _) | (with_reducible refine Kd.C_drewN ?_ _) | (with_reducible refine Kd.C_drew ?_))); (case side4 => exact (Kd.V_reads' HO846.out).2.1); (case side5 => repeat (first | exact (Kd.V_reads' HO849.out).2.2 | (with_reducible refine Kd.C_alloc ?_ _) | (with_reducible refine Kd.C_drewN ?_ _) | (with_reducible refine Kd.C_drew ?_))); (case side6 => exact (Kd.V_reads' HO849.out).2.1); rintro e w60 ⟨rfl, hb⟩; replace HO_816002 := Aside0.mk (Kd.R_below (by (with_reducible repeat (first | apply Kd.R_alloc | apply Kd.R_drewN | apply Kd.R_drew)); exact HO_816002.out) hb); replace HO_816003 := Aside0.mk (Kd.R_below (by (with_reducible repeat (first | apply Kd.R_alloc | apply Kd.R_drewN | apply Kd.R_drew)); exact HO_816003.out) hb); replace HO829 := Aside0.mk (Kd.R_below (by (with_reducible repeat (first | apply Kd.R_alloc | apply Kd.R_drewN | apply Kd.R_drew)); exact HO829.out) hb); replace HO832 := Aside0.mk (Kd.V_below (by (with_reducible repeat (first | apply Kd.V_alloc | apply Kd.V_drewN | apply Kd.V_drew)); exact HO832.out) hb); replace HO835 := Aside0.mk (Kd.V_below (by (with_reducible repeat (first | apply Kd.V_alloc | apply Kd.V_drewN | apply Kd.V_drew)); exact HO835.out) hb); replace HO838 := Aside0.mk (Kd.R_below (by (with_reducible repeat (first | apply Kd.R_alloc | apply Kd.R_drewN | apply Kd.R_drew)); exact HO838.out) hb); replace HO843 := Aside0.mk (Kd.R_below (by (with_reducible repeat (first | apply Kd.R_alloc | apply Kd.R_drewN | apply Kd.R_drew)); exact HO843.out) hb); replace HO846 := Aside0.mk (Kd.V_below (by (with_reducible repeat (first | apply Kd.V_alloc | apply Kd.V_drewN | apply Kd.V_drew)); exact HO846.out) hb); replace HO849 := Aside0.mk (Kd.V_below (by (with_reducible repeat (first | apply Kd.V_alloc | apply Kd.V_drewN | apply Kd.V_drew)); exact HO849.out) hb); replace BK815 := bB BK815 hb; replace HB := bW HB hb; (try clear hb); (try clear hb2); (try clear hk); (try clear hi)))
          go_meet
          case rel => exact ⟨_, ((t850 != (wrap64 ((wrap64 (2 + a0)) + (wrap64 ((wrap64 (a0 - 1)) * (wrap64 (1 + a1)))))))), (by first | rfl | (simp; done) | (simp [*]; done)), H', ⟨by have := HJ4.out; have := HK2.out; first | omega | exact Nat.le_refl _⟩, ⟨by (with_reducible repeat (first | apply Kd.R_alloc | apply Kd.R_drewN | apply Kd.R_drew)); exact HO838.out⟩, ⟨by (with_reducible repeat (first | apply Kd.R_alloc | apply Kd.R_drewN | apply Kd.R_drew)); exact HO_816002.out⟩, ⟨by (with_reducible repeat (first | apply Kd.R_alloc | apply Kd.R_drewN | apply Kd.R_drew)); exact HO_816003.out⟩, ⟨by (with_reducible repeat (first | refine blk_drewN ?_ _ | refine blk_drew ?_ | refine blk_alloc ?_ _)); exact BK815.out⟩, ⟨by repeat (first | (with_reducible first | exact HB.out | apply below_alloc | apply pw_below_drewN | apply below_drew1 | refine below_set ?_ GE815.out) | exact HB.out)⟩⟩
        case rest =>
         clear HC43
         try clear c1
         try clear c2
         try clear p2
         try clear q2
         try clear hx2
         try clear hf2
         try clear c3
         try clear hcv3
         try clear c4
         try clear c5
         try clear p6
         try clear c7
         try clear c7b0
         try clear c8
         try clear c8b0
         try clear c9
         try clear c9b0
         try clear c10
         try clear c11
         try clear c13
         try clear c13b0
         try clear c14
         try clear c15
         try clear c15b0
         try clear c16
         try clear c16b0
         try clear c16b1
         try clear c17
         try clear c17b0
         try clear c17b1
         try clear c19
         try clear c25
         try clear c25b0
         try clear c26
         try clear c26b0
         try clear c27
         try clear c27b0
         try clear p28
         try clear q28
         try clear hx28
         try clear hf28
         try clear c31
         try clear hcv33
         try clear c52
         try clear c52b0
         try clear c52b1
         try clear c52b2
         try clear hcz12_0
         try clear hcz12_1
         try clear hcz12_2
         try clear hcz12_3
         try clear hcz18_0
         try clear hcz18_1
         try clear hcz18_2
         try clear hcz18_3
         try clear hcz21_0
         try clear hcz21_1
         try clear hcz21_2
         try clear hcz21_3
         try clear hcz32_0
         try clear hcz32_1
         try clear hcz32_2
         try clear hcz32_3
         try clear hcz36_0
         try clear hcz36_1
         try clear hcz36_2
         try clear hcz36_3
         try clear hcz37_0
         try clear hcz37_1
         try clear hcz37_2
         try clear hcz37_3
         try clear hcz40_0
         try clear hcz40_1
         try clear hcz40_2
         try clear hcz40_3
         try clear hcz44_0
         try clear hcz44_1
         try clear hcz44_2
         try clear hcz44_3
         try clear hcz55_0
         try clear hcz55_1
         try clear hcz55_2
         try clear hcz55_3
         try clear hfz12_0
         try clear hfz12_1
         try clear hfz12_2
         try clear hfz12_3
         try clear hfz18_0
         try clear hfz18_1
         try clear hfz18_2
         try clear hfz18_3
         try clear hfz21_0
         try clear hfz21_1
         try clear hfz21_2
         try clear hfz21_3
         try clear hfz32_0
         try clear hfz32_1
         try clear hfz32_2
         try clear hfz32_3
         try clear hfz36_0
         try clear hfz36_1
         try clear hfz36_2
         try clear hfz36_3
         try clear hfz37_0
         try clear hfz37_1
         try clear hfz37_2
         try clear hfz37_3
         try clear hfz40_0
         try clear hfz40_1
         try clear hfz40_2
         try clear hfz40_3
         try clear hfz44_0
         try clear hfz44_1
         try clear hfz44_2
         try clear hfz44_3
         try clear hfz55_0
         try clear hfz55_1
         try clear hfz55_2
         try clear hfz55_3
         try clear hx28_0
         try clear p2
         try clear p28
         try clear p6
         try clear q28
         obtain ⟨kq, x94_42, rfl, HA, HJ42, HO_11, HO_816002, HO_816003, BK815, HB⟩ := hcut
         cases kq with
         | zero => exact absurd HA.out (by simp [engrosslaw11_NodeWays.j3])
         | succ kj42 =>
          have H := HA.out
          clear HA
          simp only [engrosslaw11_NodeWays.j3] at H
          by_cases c61 : x94_42 = true
          ·subst c61
           have H1 : (none) = some r := by rw [if_pos rfl] at H; exact H
           clear H
           have H := H1
           clear H1
           exact absurd H (by simp)
          ·replace c61 := Bool.eq_false_iff.mpr c61
           subst c61
           have H1 : (if t839 = 0 then ((node_Decode.f kj42 t836).bind fun bt851 => (if bt851.2.2.2.2 = 0 then (if (bt851.2.2.2.1.length : Int) = a0 then (some ((bt851.2.2.1.length : Int) == (wrap64 (a0 - 1)))) else (none)) else (none))) else (some (t839 == 4))) = some r := by rw [if_neg (show ¬ (false = true) by decide)] at H; exact H
           clear H
           have H := H1
           clear H1
           by_cases c62 : t839 = 0
           ·rw [if_pos c62] at H
            have c62b0 : (t839 == 0) = true := beq_iff_eq.mpr c62
            have c62b1 : (t839 != 0) = false := bne_eq_false_iff_eq.mpr c62
            clear c62
            replace H := Option.bind_eq_some_iff.mp H
            obtain ⟨⟨t851, t852, t855, t858, t861⟩, A630, H⟩ := H
            replace H : (if t861 = 0 then (if (t858.length : Int) = a0 then (some ((t855.length : Int) == (wrap64 (a0 - 1)))) else (none)) else (none)) = some r := H
            have A63 := Aside0.mk A630
            clear A630
            by_cases c64 : t861 = 0
            ·rw [if_pos c64] at H
             have c64b0 : (t861 == 0) = true := beq_iff_eq.mpr c64
             have c64b1 : (t861 != 0) = false := bne_eq_false_iff_eq.mpr c64
             clear c64
             by_cases c65 : (t858.length : Int) = a0
             ·rw [if_pos c65] at H
              have c65b0 : ((t858.length : Int) == a0) = true := beq_iff_eq.mpr c65
              have c65b1 : ((t858.length : Int) != a0) = false := bne_eq_false_iff_eq.mpr c65
              clear c65
              obtain rfl := Option.some.inj H
              obtain ⟨Ao66, co66, eo66⟩ := Kd.R_slice HO_11.out
              subst eo66
              go_wp2_with (first | ((with_reducible refine gate_callee (f := 21) rfl ?_); refine goesL_ (some 101) rfl rfl Try.func21 (by kernel_rfl) rfl #[.slice Ao66 t836.length co66] rfl (by (try simp only [List.map_toArray, List.map_cons, List.map_nil]); first | done | rfl | (simp only [List.length_drop, List.length_take]; rfl)) ?_; (with_reducible refine (node_Decode.calls kj42 _ _ t836 t851 t852 t855 t858 t861 _ ?side1 ?side2 A63.out).mono ?_); (case side1 => repeat (first | exact (Kd.R_reads' HO_11.out).2.2 | (with_reducible refine Kd.C_alloc ?_ _) | (with_reducible refine Kd.C_drewN ?_ _) | (with_reducible refine Kd.C_drew ?_))); (case side2 => exact (Kd.R_reads' HO_11.out).2.1); rintro e w67 ⟨v853, v856, v859, rfl, ho0, ho1, ho2, hb⟩; refine ⟨_, rfl, ?_⟩; have HO854 := Aside0.mk (Kd.R_lower ho0 (below_size (bC HB))); have HO857 := Aside0.mk (Kd.R_lower (Kd.R_new' ho1 (Kd.R_lt (by (with_reducible repeat (first | apply Kd.R_alloc | apply Kd.R_drewN | apply Kd.R_drew)); exact HO_816002.out))) (below_size (bC HB))); have HO860 := Aside0.mk (Kd.R_lower (Kd.R_new' ho2 (Kd.R_lt (by (with_reducible repeat (first | apply Kd.R_alloc | apply Kd.R_drewN | apply Kd.R_drew)); exact HO_816003.out))) (below_size (bC HB))); replace HO_11 := Aside0.mk (Kd.R_below (by (with_reducible repeat (first | apply Kd.R_alloc | apply Kd.R_drewN | apply Kd.R_drew)); exact HO_11.out) hb); replace HO_816002 := Aside0.mk (Kd.R_elder' (by (with_reducible repeat (first | apply Kd.R_alloc | apply Kd.R_drewN | apply Kd.R_drew)); exact HO_816002.out) (Kd.R_base ho1) hb); replace HO_816003 := Aside0.mk (Kd.R_elder' (by (with_reducible repeat (first | apply Kd.R_alloc | apply Kd.R_drewN | apply Kd.R_drew)); exact HO_816003.out) (Kd.R_base ho2) hb); replace BK815 := bB BK815 hb; replace HB := bW HB hb; (try clear hb); (try clear hb2); (try clear hk); (try clear hi); (try clear ho0); (try clear ho1); (try clear ho2)) | ((with_reducible refine gate_dst (N := 13) rfl ?_); (try (refine gate_guard (by rfl) ?_; dsimp only)); refine box_event ?hg (N := 13) ?hd (cs := #[.bool false, .slice none 0 0, .slice none 0 0, .slice none 0 0]) (t := 36) ?hr ?_; (case hd => rfl); (case hg => rfl); (case hr => first | (go_simp; done) | (go_simp; rfl)); intro gb862 hg w68 hbox hb; have BK862 := Aside0.mk (hbox); have GW862 := bZ HB hg; have GE862 := bZ HB hg; have NB815_862 := bL BK815 hg; have NB862_815 := bG BK815 hg; replace HO_11 := Aside0.mk (Kd.R_below (by (with_reducible repeat (first | apply Kd.R_alloc | apply Kd.R_drewN | apply Kd.R_drew)); exact HO_11.out) hb); replace HO_816002 := Aside0.mk (Kd.R_below (by (with_reducible repeat (first | apply Kd.R_alloc | apply Kd.R_drewN | apply Kd.R_drew)); exact HO_816002.out) hb); replace HO_816003 := Aside0.mk (Kd.R_below (by (with_reducible repeat (first | apply Kd.R_alloc | apply Kd.R_drewN | apply Kd.R_drew)); exact HO_816003.out) hb); replace HO854 := Aside0.mk (Kd.R_below (by (with_reducible repeat (first | apply Kd.R_alloc | apply Kd.R_drewN | apply Kd.R_drew)); exact HO854.out) hb); replace HO857 := Aside0.mk (Kd.R_below (by (with_reducible repeat (first | apply Kd.R_alloc | apply Kd.R_drewN | apply Kd.R_drew)); exact HO857.out) hb); replace HO860 := Aside0.mk (Kd.R_below (by (with_reducible repeat (first | apply Kd.R_alloc | apply Kd.R_drewN | apply Kd.R_drew)); exact HO860.out) hb); replace BK815 := bB BK815 hb; replace HB := bW HB hb; clear hb hbox hg; have hnb69 := NB862_815.out; have hnc69 := NB815_862.out; obtain ⟨hcz70_0, hcz70_1, hcz70_2, hcz70_3, hfz70_0, hfz70_1, hfz70_2, hfz70_3⟩ := bf4 (w := w68) BK862; obtain ⟨Ao71, co71, eo71⟩ := Kd.R_slice HO854.out; subst eo71; obtain ⟨Ao72, co72, eo72⟩ := Kd.R_slice HO857.out; subst eo72; obtain ⟨Ao73, co73, eo73⟩ := Kd.R_slice HO860.out; subst eo73))
              go_ret
              exact ⟨by first | rfl | (simp [errW_none, errW_some] <;> rfl) | (simp [*, errW_none, errW_some] <;> rfl), by repeat (first | (with_reducible first | exact HB.out | apply below_alloc | apply pw_below_drewN | apply below_drew1 | refine below_set ?_ GE815.out | refine below_set ?_ GE862.out) | exact HB.out)⟩
             ·rw [if_neg c65] at H
              exact absurd H (by simp)
            ·rw [if_neg c64] at H
             exact absurd H (by simp)
           ·rw [if_neg c62] at H
            have c62b0 : (t839 == 0) = false := beq_eq_false_iff_ne.mpr c62
            have c62b1 : (t839 != 0) = true := bne_iff_ne.mpr c62
            obtain rfl := Option.some.inj H
            go_wp2
            go_ret
            exact ⟨by first | rfl | (simp [errW_none, errW_some] <;> rfl) | (simp [*, errW_none, errW_some] <;> rfl), by repeat (first | (with_reducible first | exact HB.out | apply below_alloc | apply pw_below_drewN | apply below_drew1 | refine below_set ?_ GE815.out) | exact HB.out)⟩
 ·replace c4 := Bool.eq_false_iff.mpr c4
  subst c4
  have H1 : (none) = some r := by rw [if_neg (show ¬ (false = true) by decide)] at H; exact H
  clear H
  have H := H1
  clear H1
  exact absurd H (by simp)
/-- THE ONE PURE STATEMENT of engrosslaw11_NodeWays: yours. -/
def engrosslaw11_NodeWays.Pure : Prop := ∀ (a0 : Int) (a1 : Int), (Lit.int .i64 a0).wf = true → (Lit.int .i64 a1).wf = true → ∃ k, engrosslaw11_NodeWays.f k a0 a1 = some true
theorem engrosslaw11_NodeWays.walk (P : engrosslaw11_NodeWays.Pure) (a0 : Int) (a1 : Int) (w : World) (w0 : (Lit.int .i64 a0).wf = true) (w1 : (Lit.int .i64 a1).wf = true) :
  Calls Try.prog 7 #[.int .i64 a0, .int .i64 a1] w fun e w' => e = .returned (.bool true) ∧ Below w.heap.size w w' := by
 obtain ⟨k, h⟩ := P a0 a1 w0 w1
 refine (engrosslaw11_NodeWays.calls k a0 a1 true w h).mono ?_
 rintro e w' ⟨rfl, hd⟩
 exact ⟨rfl, hd⟩
end Go.Proofs.Ytmmjpieafbjggaa.P
end
section
set_option linter.unusedVariables false
set_option linter.unusedSimpArgs false
namespace Go.Proofs.Ytmmjpieafbjggaa.Pure
open Go.RowKit Go.Proofs.Ytmmjpieafbjggaa.P Go.Proofs.YtmmjpieafbjggaaW.PrintWords Go.Proofs.YtmmjpieafbjggaaW.PrintLast Go.Proofs.YtmmjpieafbjggaaW.PrintMore
theorem begun11 {k : Nat} (hk : 100 ≤ k) : engrosslaw11_begun.f k = some true :=
  at_rounds (g := fun k => engrosslaw11_begun.f k) (fun k => engrosslaw11_begun.mono k) hk (show engrosslaw11_begun.f 100 = some true by decide +kernel)
end Go.Proofs.Ytmmjpieafbjggaa.Pure
end
