/- The law NodeTwins returns true for every input: the words, the walks and the plain statement that its row needs. No condition. (Merged by a program of this session out of its own texts.) -/
import Derived.ArgAppend
import Derived.Below
import Derived.BigQuiet
import Derived.Deep.AppendLies
import Derived.Deep.CutBlock
import Derived.Deep.DeepCutAuto
import Derived.Deep.Draws
import Derived.Deep.LoopGhost
import Derived.Deep.OwnRows
import Derived.Deep.QuietTactic
import Derived.Deep.RegionHeld3
import Derived.KernelRfl
import Derived.Laws.BitsLemmas
import Derived.Laws.BytesArg
import Derived.Laws.Cover2
import Derived.Laws.Externs
import Derived.Laws.FloatArith
import Derived.Laws.IdiomCopy
import Derived.Laws.MakeOwn
import Derived.Laws.OwnMore
import Derived.Laws.Rows
import Derived.Laws.Slices
import Derived.Laws.StructEq
import Derived.Lib.AppendStr
import Derived.Lib.ConvBytes
import Derived.Maps.AppendAt
import Derived.OrdersHeld
import Derived.OwnWalk
import Derived.RowKit
import Derived.RowKit3
import Derived.Tactics
import Derived.Test.YtmmjpieafbjggaaProg
import Derived.WalkKit
import Derived.WideLaws
import Derived.Test.YtmmjpieafbjggaaQNodeTwins4
import Derived.Test.YtmmjpieafbjggaaQNodeTwins5
import Derived.Test.YtmmjpieafbjggaaQNodeTwins6
section
namespace Go.Proofs.Ytmmjpieafbjggaa.P
open Go.RowKit Go.Proofs.YtmmjpieafbjggaaW.PrintWords Go.Proofs.YtmmjpieafbjggaaW.PrintLast Go.Proofs.YtmmjpieafbjggaaW.PrintMore
attribute [local go_sem] max2_int min2_int max_two min_two max_three min_three max_four min_four   -- for this text's walks alone
attribute [local go_sem] x_str_gtr x_str_leq x_str_geq ext_bits ext_frombits ext_neg x_store_float Instr.field asAgg
set_option linter.unusedVariables false
set_option linter.unusedSimpArgs false
def engrosslaw11_begun.f (k : Nat)  : Option (Bool) := (some (([(⟨(⟨#[97]⟩ : ByteArray), (⟨1, 4607182418800017408, (⟨#[]⟩ : ByteArray)⟩ : S54), 0, (⟨0, 0, (⟨#[]⟩ : ByteArray)⟩ : S54)⟩ : S62)] : List (S62)) : List (S62))).bind fun y285 => ((some (([(⟨#[107]⟩ : ByteArray)] : List ByteArray) : List ByteArray)).bind fun y289 => ((some (([2, 3] : List Int) : List Int)).bind fun y292 => ((node_Encode.f k true y285 ([] : List ByteArray) ([] : List Int)).bind fun bt296 => ((node_Encode.f k false ([] : List (S62)) y289 y292).bind fun bt300 => ((node_Decode.f k bt300.1).bind fun bt304 => (if 256 ≤ 281474976710656 then ((node_Decode.f k (List.replicate 256 0)).bind fun bt319 => ((node_May.f k true y285 ([] : List ByteArray) ([] : List Int)).bind fun t331 => (if t331 = true then ((node_May.f k false ([] : List (S62)) y289 y292).bind fun t332 => (if t332 = true then ((node_May.f k false ([] : List (S62)) ([] : List ByteArray) ([] : List Int)).bind fun t333 => (if t333 = true then (none) else (if bt296.2 = 0 then (if bt300.2 = 0 then (if (bt296.1.length : Int) = 256 then (if 0 < (bt296.1.length : Int) then (if (rd bt296.1 0) = 1 then (if bt304.2.2.2.2 = 0 then (if (bt304.2.2.2.1.length : Int) = 2 then (if bt319.2.2.2.2 = 8 then ((node_Kid.f k false ([] : List (S62)) y289 y292 (⟨#[107]⟩ : ByteArray)).bind fun t335 => (if t335 = 1 then ((node_Kid.f k false ([] : List (S62)) y289 y292 (⟨#[106]⟩ : ByteArray)).bind fun t336 => (if t336 = 0 then ((node_Kid.f k true y285 ([] : List ByteArray) ([] : List Int) (⟨#[106]⟩ : ByteArray)).bind fun t337 => (if t337 = (-1) then ((node_Size.f k true y285 ([] : List ByteArray) ([] : List Int)).bind fun t338 => (some (decide (t338 > 10)))) else (none))) else (none))) else (none))) else (none)) else (none)) else (none)) else (none)) else (none)) else (none)) else (none)) else (none)))) else (none))) else (none)))) else (none)))))))
theorem engrosslaw11_begun.mono : ∀ k, LeO (engrosslaw11_begun.f k ) (engrosslaw11_begun.f (k + 1) ) := by
 intro  k
 unfold engrosslaw11_begun.f
 repeat' first
   | (with_reducible exact node_Decode.mono _ _)
   | (with_reducible exact node_Encode.mono _ _ _ _ _)
   | (with_reducible exact node_Kid.mono _ _ _ _ _ _)
   | (with_reducible exact node_May.mono _ _ _ _ _)
   | (with_reducible exact node_Size.mono _ _ _ _ _)
   | (with_reducible exact LeO.refl _)
   | (with_reducible exact LeO.none _)
   | (with_reducible refine LeO.ite ?_ ?_)
   | (with_reducible refine LeO.bind ?_ (fun _ => ?_))
   | exact node_Decode.mono _ _
   | exact node_Encode.mono _ _ _ _ _
   | exact node_Kid.mono _ _ _ _ _ _
   | exact node_May.mono _ _ _ _ _
   | exact node_Size.mono _ _ _ _ _
   | exact LeO.none _
   | refine LeO.ite ?_ ?_
   | refine LeO.bind ?_ (fun _ => ?_)
set_option maxHeartbeats 8000000 in
set_option maxRecDepth 100000 in
theorem engrosslaw11_begun.calls (k : Nat)  (r : Bool) (w : World) (h : engrosslaw11_begun.f k  = some r) :
  Calls Try.prog 11 #[] w fun e w' => e = .returned (.bool r) ∧ Below w.heap.size w w' := by
 have hu54 := Try.underlying54
 have hu62 := Try.underlying62
 have hu36 := Try.underlying36
 have HB := Aside0.mk (Below.refl w.heap.size w)
 have H : ((some (([(⟨(⟨#[97]⟩ : ByteArray), (⟨1, 4607182418800017408, (⟨#[]⟩ : ByteArray)⟩ : S54), 0, (⟨0, 0, (⟨#[]⟩ : ByteArray)⟩ : S54)⟩ : S62)] : List (S62)) : List (S62))).bind fun y285 => ((some (([(⟨#[107]⟩ : ByteArray)] : List ByteArray) : List ByteArray)).bind fun y289 => ((some (([2, 3] : List Int) : List Int)).bind fun y292 => ((node_Encode.f k true y285 ([] : List ByteArray) ([] : List Int)).bind fun bt296 => ((node_Encode.f k false ([] : List (S62)) y289 y292).bind fun bt300 => ((node_Decode.f k bt300.1).bind fun bt304 => (if 256 ≤ 281474976710656 then ((node_Decode.f k (List.replicate 256 0)).bind fun bt319 => ((node_May.f k true y285 ([] : List ByteArray) ([] : List Int)).bind fun t331 => (if t331 = true then ((node_May.f k false ([] : List (S62)) y289 y292).bind fun t332 => (if t332 = true then ((node_May.f k false ([] : List (S62)) ([] : List ByteArray) ([] : List Int)).bind fun t333 => (if t333 = true then (none) else (if bt296.2 = 0 then (if bt300.2 = 0 then (if (bt296.1.length : Int) = 256 then (if 0 < (bt296.1.length : Int) then (if (rd bt296.1 0) = 1 then (if bt304.2.2.2.2 = 0 then (if (bt304.2.2.2.1.length : Int) = 2 then (if bt319.2.2.2.2 = 8 then ((node_Kid.f k false ([] : List (S62)) y289 y292 (⟨#[107]⟩ : ByteArray)).bind fun t335 => (if t335 = 1 then ((node_Kid.f k false ([] : List (S62)) y289 y292 (⟨#[106]⟩ : ByteArray)).bind fun t336 => (if t336 = 0 then ((node_Kid.f k true y285 ([] : List ByteArray) ([] : List Int) (⟨#[106]⟩ : ByteArray)).bind fun t337 => (if t337 = (-1) then ((node_Size.f k true y285 ([] : List ByteArray) ([] : List Int)).bind fun t338 => (some (decide (t338 > 10)))) else (none))) else (none))) else (none))) else (none)) else (none)) else (none)) else (none)) else (none)) else (none)) else (none)) else (none)))) else (none))) else (none)))) else (none)))))))) = some r := h
 clear h
 obtain ⟨y285, hy285⟩ : ∃ y_ : List (S62), y_ = (([(⟨(⟨#[97]⟩ : ByteArray), (⟨1, 4607182418800017408, (⟨#[]⟩ : ByteArray)⟩ : S54), 0, (⟨0, 0, (⟨#[]⟩ : ByteArray)⟩ : S54)⟩ : S62)] : List (S62))) := ⟨_, rfl⟩
 replace H : ((some (([(⟨#[107]⟩ : ByteArray)] : List ByteArray) : List ByteArray)).bind fun y289 => ((some (([2, 3] : List Int) : List Int)).bind fun y292 => ((node_Encode.f k true y285 ([] : List ByteArray) ([] : List Int)).bind fun bt296 => ((node_Encode.f k false ([] : List (S62)) y289 y292).bind fun bt300 => ((node_Decode.f k bt300.1).bind fun bt304 => (if 256 ≤ 281474976710656 then ((node_Decode.f k (List.replicate 256 0)).bind fun bt319 => ((node_May.f k true y285 ([] : List ByteArray) ([] : List Int)).bind fun t331 => (if t331 = true then ((node_May.f k false ([] : List (S62)) y289 y292).bind fun t332 => (if t332 = true then ((node_May.f k false ([] : List (S62)) ([] : List ByteArray) ([] : List Int)).bind fun t333 => (if t333 = true then (none) else (if bt296.2 = 0 then (if bt300.2 = 0 then (if (bt296.1.length : Int) = 256 then (if 0 < (bt296.1.length : Int) then (if (rd bt296.1 0) = 1 then (if bt304.2.2.2.2 = 0 then (if (bt304.2.2.2.1.length : Int) = 2 then (if bt319.2.2.2.2 = 8 then ((node_Kid.f k false ([] : List (S62)) y289 y292 (⟨#[107]⟩ : ByteArray)).bind fun t335 => (if t335 = 1 then ((node_Kid.f k false ([] : List (S62)) y289 y292 (⟨#[106]⟩ : ByteArray)).bind fun t336 => (if t336 = 0 then ((node_Kid.f k true y285 ([] : List ByteArray) ([] : List Int) (⟨#[106]⟩ : ByteArray)).bind fun t337 => (if t337 = (-1) then ((node_Size.f k true y285 ([] : List ByteArray) ([] : List Int)).bind fun t338 => (some (decide (t338 > 10)))) else (none))) else (none))) else (none))) else (none)) else (none)) else (none)) else (none)) else (none)) else (none)) else (none)) else (none)))) else (none))) else (none)))) else (none))))))) = some r := by first | (rw [hy285]; with_reducible exact H) | (have H2_ := (Option.bind_some _ _).symm.trans H; rw [hy285]; with_reducible exact H2_) | (have H2_ := (Option.bind_some _ _).symm.trans H; with_reducible exact H2_) | with_reducible exact H | (rw [hy285]; exact H) | exact H
 have Ny285 := Aside0.mk hy285
 clear hy285
 obtain ⟨y289, hy289⟩ : ∃ y_ : List ByteArray, y_ = (([(⟨#[107]⟩ : ByteArray)] : List ByteArray)) := ⟨_, rfl⟩
 replace H : ((some (([2, 3] : List Int) : List Int)).bind fun y292 => ((node_Encode.f k true y285 ([] : List ByteArray) ([] : List Int)).bind fun bt296 => ((node_Encode.f k false ([] : List (S62)) y289 y292).bind fun bt300 => ((node_Decode.f k bt300.1).bind fun bt304 => (if 256 ≤ 281474976710656 then ((node_Decode.f k (List.replicate 256 0)).bind fun bt319 => ((node_May.f k true y285 ([] : List ByteArray) ([] : List Int)).bind fun t331 => (if t331 = true then ((node_May.f k false ([] : List (S62)) y289 y292).bind fun t332 => (if t332 = true then ((node_May.f k false ([] : List (S62)) ([] : List ByteArray) ([] : List Int)).bind fun t333 => (if t333 = true then (none) else (if bt296.2 = 0 then (if bt300.2 = 0 then (if (bt296.1.length : Int) = 256 then (if 0 < (bt296.1.length : Int) then (if (rd bt296.1 0) = 1 then (if bt304.2.2.2.2 = 0 then (if (bt304.2.2.2.1.length : Int) = 2 then (if bt319.2.2.2.2 = 8 then ((node_Kid.f k false ([] : List (S62)) y289 y292 (⟨#[107]⟩ : ByteArray)).bind fun t335 => (if t335 = 1 then ((node_Kid.f k false ([] : List (S62)) y289 y292 (⟨#[106]⟩ : ByteArray)).bind fun t336 => (if t336 = 0 then ((node_Kid.f k true y285 ([] : List ByteArray) ([] : List Int) (⟨#[106]⟩ : ByteArray)).bind fun t337 => (if t337 = (-1) then ((node_Size.f k true y285 ([] : List ByteArray) ([] : List Int)).bind fun t338 => (some (decide (t338 > 10)))) else (none))) else (none))) else (none))) else (none)) else (none)) else (none)) else (none)) else (none)) else (none)) else (none)) else (none)))) else (none))) else (none)))) else (none)))))) = some r := by first | (rw [hy289]; with_reducible exact H) | (have H2_ := (Option.bind_some _ _).symm.trans H; rw [hy289]; with_reducible exact H2_) | (have H2_ := (Option.bind_some _ _).symm.trans H; with_reducible exact H2_) | with_reducible exact H | (rw [hy289]; exact H) | exact H
 have Ny289 := Aside0.mk hy289
 clear hy289
 obtain ⟨y292, hy292⟩ : ∃ y_ : List Int, y_ = (([2, 3] : List Int)) := ⟨_, rfl⟩
 replace H : ((node_Encode.f k true y285 ([] : List ByteArray) ([] : List Int)).bind fun bt296 => ((node_Encode.f k false ([] : List (S62)) y289 y292).bind fun bt300 => ((node_Decode.f k bt300.1).bind fun bt304 => (if 256 ≤ 281474976710656 then ((node_Decode.f k (List.replicate 256 0)).bind fun bt319 => ((node_May.f k true y285 ([] : List ByteArray) ([] : List Int)).bind fun t331 => (if t331 = true then ((node_May.f k false ([] : List (S62)) y289 y292).bind fun t332 => (if t332 = true then ((node_May.f k false ([] : List (S62)) ([] : List ByteArray) ([] : List Int)).bind fun t333 => (if t333 = true then (none) else (if bt296.2 = 0 then (if bt300.2 = 0 then (if (bt296.1.length : Int) = 256 then (if 0 < (bt296.1.length : Int) then (if (rd bt296.1 0) = 1 then (if bt304.2.2.2.2 = 0 then (if (bt304.2.2.2.1.length : Int) = 2 then (if bt319.2.2.2.2 = 8 then ((node_Kid.f k false ([] : List (S62)) y289 y292 (⟨#[107]⟩ : ByteArray)).bind fun t335 => (if t335 = 1 then ((node_Kid.f k false ([] : List (S62)) y289 y292 (⟨#[106]⟩ : ByteArray)).bind fun t336 => (if t336 = 0 then ((node_Kid.f k true y285 ([] : List ByteArray) ([] : List Int) (⟨#[106]⟩ : ByteArray)).bind fun t337 => (if t337 = (-1) then ((node_Size.f k true y285 ([] : List ByteArray) ([] : List Int)).bind fun t338 => (some (decide (t338 > 10)))) else (none))) else (none))) else (none))) else (none)) else (none)) else (none)) else (none)) else (none)) else (none)) else (none)) else (none)))) else (none))) else (none)))) else (none))))) = some r := by first | (rw [hy292]; with_reducible exact H) | (have H2_ := (Option.bind_some _ _).symm.trans H; rw [hy292]; with_reducible exact H2_) | (have H2_ := (Option.bind_some _ _).symm.trans H; with_reducible exact H2_) | with_reducible exact H | (rw [hy292]; exact H) | exact H
 have Ny292 := Aside0.mk hy292
 clear hy292
 replace H := Option.bind_eq_some_iff.mp H
 obtain ⟨⟨t296, t299⟩, A10, H⟩ := H
 replace H : ((node_Encode.f k false ([] : List (S62)) y289 y292).bind fun bt300 => ((node_Decode.f k bt300.1).bind fun bt304 => (if 256 ≤ 281474976710656 then ((node_Decode.f k (List.replicate 256 0)).bind fun bt319 => ((node_May.f k true y285 ([] : List ByteArray) ([] : List Int)).bind fun t331 => (if t331 = true then ((node_May.f k false ([] : List (S62)) y289 y292).bind fun t332 => (if t332 = true then ((node_May.f k false ([] : List (S62)) ([] : List ByteArray) ([] : List Int)).bind fun t333 => (if t333 = true then (none) else (if t299 = 0 then (if bt300.2 = 0 then (if (t296.length : Int) = 256 then (if 0 < (t296.length : Int) then (if (rd t296 0) = 1 then (if bt304.2.2.2.2 = 0 then (if (bt304.2.2.2.1.length : Int) = 2 then (if bt319.2.2.2.2 = 8 then ((node_Kid.f k false ([] : List (S62)) y289 y292 (⟨#[107]⟩ : ByteArray)).bind fun t335 => (if t335 = 1 then ((node_Kid.f k false ([] : List (S62)) y289 y292 (⟨#[106]⟩ : ByteArray)).bind fun t336 => (if t336 = 0 then ((node_Kid.f k true y285 ([] : List ByteArray) ([] : List Int) (⟨#[106]⟩ : ByteArray)).bind fun t337 => (if t337 = (-1) then ((node_Size.f k true y285 ([] : List ByteArray) ([] : List Int)).bind fun t338 => (some (decide (t338 > 10)))) else (none))) else (none))) else (none))) else (none)) else (none)) else (none)) else (none)) else (none)) else (none)) else (none)) else (none)))) else (none))) else (none)))) else (none)))) = some r := H
 have A1 := Aside0.mk A10
 clear A10
 replace H := Option.bind_eq_some_iff.mp H
 obtain ⟨⟨t300, t303⟩, A20, H⟩ := H
 replace H : ((node_Decode.f k t300).bind fun bt304 => (if 256 ≤ 281474976710656 then ((node_Decode.f k (List.replicate 256 0)).bind fun bt319 => ((node_May.f k true y285 ([] : List ByteArray) ([] : List Int)).bind fun t331 => (if t331 = true then ((node_May.f k false ([] : List (S62)) y289 y292).bind fun t332 => (if t332 = true then ((node_May.f k false ([] : List (S62)) ([] : List ByteArray) ([] : List Int)).bind fun t333 => (if t333 = true then (none) else (if t299 = 0 then (if t303 = 0 then (if (t296.length : Int) = 256 then (if 0 < (t296.length : Int) then (if (rd t296 0) = 1 then (if bt304.2.2.2.2 = 0 then (if (bt304.2.2.2.1.length : Int) = 2 then (if bt319.2.2.2.2 = 8 then ((node_Kid.f k false ([] : List (S62)) y289 y292 (⟨#[107]⟩ : ByteArray)).bind fun t335 => (if t335 = 1 then ((node_Kid.f k false ([] : List (S62)) y289 y292 (⟨#[106]⟩ : ByteArray)).bind fun t336 => (if t336 = 0 then ((node_Kid.f k true y285 ([] : List ByteArray) ([] : List Int) (⟨#[106]⟩ : ByteArray)).bind fun t337 => (if t337 = (-1) then ((node_Size.f k true y285 ([] : List ByteArray) ([] : List Int)).bind fun t338 => (some (decide (t338 > 10)))) else (none))) else (none))) else (none))) else (none)) else (none)) else (none)) else (none)) else (none)) else (none)) else (none)) else (none)))) else (none))) else (none)))) else (none))) = some r := H
 have A2 := Aside0.mk A20
 clear A20
 replace H := Option.bind_eq_some_iff.mp H
 obtain ⟨⟨t304, t305, t308, t311, t314⟩, A30, H⟩ := H
 replace H : (if 256 ≤ 281474976710656 then ((node_Decode.f k (List.replicate 256 0)).bind fun bt319 => ((node_May.f k true y285 ([] : List ByteArray) ([] : List Int)).bind fun t331 => (if t331 = true then ((node_May.f k false ([] : List (S62)) y289 y292).bind fun t332 => (if t332 = true then ((node_May.f k false ([] : List (S62)) ([] : List ByteArray) ([] : List Int)).bind fun t333 => (if t333 = true then (none) else (if t299 = 0 then (if t303 = 0 then (if (t296.length : Int) = 256 then (if 0 < (t296.length : Int) then (if (rd t296 0) = 1 then (if t314 = 0 then (if (t311.length : Int) = 2 then (if bt319.2.2.2.2 = 8 then ((node_Kid.f k false ([] : List (S62)) y289 y292 (⟨#[107]⟩ : ByteArray)).bind fun t335 => (if t335 = 1 then ((node_Kid.f k false ([] : List (S62)) y289 y292 (⟨#[106]⟩ : ByteArray)).bind fun t336 => (if t336 = 0 then ((node_Kid.f k true y285 ([] : List ByteArray) ([] : List Int) (⟨#[106]⟩ : ByteArray)).bind fun t337 => (if t337 = (-1) then ((node_Size.f k true y285 ([] : List ByteArray) ([] : List Int)).bind fun t338 => (some (decide (t338 > 10)))) else (none))) else (none))) else (none))) else (none)) else (none)) else (none)) else (none)) else (none)) else (none)) else (none)) else (none)))) else (none))) else (none)))) else (none)) = some r := H
 have A3 := Aside0.mk A30
 clear A30
 by_cases c4 : 256 ≤ 281474976710656
 rotate_left
 ·rw [if_neg c4] at H
  exact absurd H (by simp)
 rw [if_pos c4] at H
 have c4b0 := eq_true c4
 have c4b1 : decide (256 ≤ 281474976710656) = true := decide_eq_true c4
 clear c4
 obtain ⟨y316, hy316⟩ : ∃ y_ : List Int, y_ = (List.replicate 256 0) := ⟨_, rfl⟩
 replace H : ((node_Decode.f k y316).bind fun bt319 => ((node_May.f k true y285 ([] : List ByteArray) ([] : List Int)).bind fun t331 => (if t331 = true then ((node_May.f k false ([] : List (S62)) y289 y292).bind fun t332 => (if t332 = true then ((node_May.f k false ([] : List (S62)) ([] : List ByteArray) ([] : List Int)).bind fun t333 => (if t333 = true then (none) else (if t299 = 0 then (if t303 = 0 then (if (t296.length : Int) = 256 then (if 0 < (t296.length : Int) then (if (rd t296 0) = 1 then (if t314 = 0 then (if (t311.length : Int) = 2 then (if bt319.2.2.2.2 = 8 then ((node_Kid.f k false ([] : List (S62)) y289 y292 (⟨#[107]⟩ : ByteArray)).bind fun t335 => (if t335 = 1 then ((node_Kid.f k false ([] : List (S62)) y289 y292 (⟨#[106]⟩ : ByteArray)).bind fun t336 => (if t336 = 0 then ((node_Kid.f k true y285 ([] : List ByteArray) ([] : List Int) (⟨#[106]⟩ : ByteArray)).bind fun t337 => (if t337 = (-1) then ((node_Size.f k true y285 ([] : List ByteArray) ([] : List Int)).bind fun t338 => (some (decide (t338 > 10)))) else (none))) else (none))) else (none))) else (none)) else (none)) else (none)) else (none)) else (none)) else (none)) else (none)) else (none)))) else (none))) else (none)))) = some r := by first | (rw [hy316]; with_reducible exact H) | (have H2_ := (Option.bind_some _ _).symm.trans H; rw [hy316]; with_reducible exact H2_) | (have H2_ := (Option.bind_some _ _).symm.trans H; with_reducible exact H2_) | with_reducible exact H | (rw [hy316]; exact H) | exact H
 have Ny316 := Aside0.mk hy316
 clear hy316
 replace H := Option.bind_eq_some_iff.mp H
 obtain ⟨⟨t319, t320, t323, t326, t329⟩, A50, H⟩ := H
 replace H : ((node_May.f k true y285 ([] : List ByteArray) ([] : List Int)).bind fun t331 => (if t331 = true then ((node_May.f k false ([] : List (S62)) y289 y292).bind fun t332 => (if t332 = true then ((node_May.f k false ([] : List (S62)) ([] : List ByteArray) ([] : List Int)).bind fun t333 => (if t333 = true then (none) else (if t299 = 0 then (if t303 = 0 then (if (t296.length : Int) = 256 then (if 0 < (t296.length : Int) then (if (rd t296 0) = 1 then (if t314 = 0 then (if (t311.length : Int) = 2 then (if t329 = 8 then ((node_Kid.f k false ([] : List (S62)) y289 y292 (⟨#[107]⟩ : ByteArray)).bind fun t335 => (if t335 = 1 then ((node_Kid.f k false ([] : List (S62)) y289 y292 (⟨#[106]⟩ : ByteArray)).bind fun t336 => (if t336 = 0 then ((node_Kid.f k true y285 ([] : List ByteArray) ([] : List Int) (⟨#[106]⟩ : ByteArray)).bind fun t337 => (if t337 = (-1) then ((node_Size.f k true y285 ([] : List ByteArray) ([] : List Int)).bind fun t338 => (some (decide (t338 > 10)))) else (none))) else (none))) else (none))) else (none)) else (none)) else (none)) else (none)) else (none)) else (none)) else (none)) else (none)))) else (none))) else (none))) = some r := H
 have A5 := Aside0.mk A50
 clear A50
 replace H := Option.bind_eq_some_iff.mp H
 obtain ⟨t331, A60, H⟩ := H
 replace H : (if t331 = true then ((node_May.f k false ([] : List (S62)) y289 y292).bind fun t332 => (if t332 = true then ((node_May.f k false ([] : List (S62)) ([] : List ByteArray) ([] : List Int)).bind fun t333 => (if t333 = true then (none) else (if t299 = 0 then (if t303 = 0 then (if (t296.length : Int) = 256 then (if 0 < (t296.length : Int) then (if (rd t296 0) = 1 then (if t314 = 0 then (if (t311.length : Int) = 2 then (if t329 = 8 then ((node_Kid.f k false ([] : List (S62)) y289 y292 (⟨#[107]⟩ : ByteArray)).bind fun t335 => (if t335 = 1 then ((node_Kid.f k false ([] : List (S62)) y289 y292 (⟨#[106]⟩ : ByteArray)).bind fun t336 => (if t336 = 0 then ((node_Kid.f k true y285 ([] : List ByteArray) ([] : List Int) (⟨#[106]⟩ : ByteArray)).bind fun t337 => (if t337 = (-1) then ((node_Size.f k true y285 ([] : List ByteArray) ([] : List Int)).bind fun t338 => (some (decide (t338 > 10)))) else (none))) else (none))) else (none))) else (none)) else (none)) else (none)) else (none)) else (none)) else (none)) else (none)) else (none)))) else (none))) else (none)) = some r := H
 have A6 := Aside0.mk A60
 clear A60
 by_cases c7 : t331 = true
 rotate_left
 ·replace c7 := Bool.eq_false_iff.mpr c7
  subst c7
  have H1 : (none) = some r := by rw [if_neg (show ¬ (false = true) by decide)] at H; exact H
  clear H
  have H := H1
  clear H1
  exact absurd H (by simp)
 subst c7
 have H1 : ((node_May.f k false ([] : List (S62)) y289 y292).bind fun t332 => (if t332 = true then ((node_May.f k false ([] : List (S62)) ([] : List ByteArray) ([] : List Int)).bind fun t333 => (if t333 = true then (none) else (if t299 = 0 then (if t303 = 0 then (if (t296.length : Int) = 256 then (if 0 < (t296.length : Int) then (if (rd t296 0) = 1 then (if t314 = 0 then (if (t311.length : Int) = 2 then (if t329 = 8 then ((node_Kid.f k false ([] : List (S62)) y289 y292 (⟨#[107]⟩ : ByteArray)).bind fun t335 => (if t335 = 1 then ((node_Kid.f k false ([] : List (S62)) y289 y292 (⟨#[106]⟩ : ByteArray)).bind fun t336 => (if t336 = 0 then ((node_Kid.f k true y285 ([] : List ByteArray) ([] : List Int) (⟨#[106]⟩ : ByteArray)).bind fun t337 => (if t337 = (-1) then ((node_Size.f k true y285 ([] : List ByteArray) ([] : List Int)).bind fun t338 => (some (decide (t338 > 10)))) else (none))) else (none))) else (none))) else (none)) else (none)) else (none)) else (none)) else (none)) else (none)) else (none)) else (none)))) else (none))) = some r := by rw [if_pos rfl] at H; exact H
 clear H
 have H := H1
 clear H1
 replace H := Option.bind_eq_some_iff.mp H
 obtain ⟨t332, A80, H⟩ := H
 replace H : (if t332 = true then ((node_May.f k false ([] : List (S62)) ([] : List ByteArray) ([] : List Int)).bind fun t333 => (if t333 = true then (none) else (if t299 = 0 then (if t303 = 0 then (if (t296.length : Int) = 256 then (if 0 < (t296.length : Int) then (if (rd t296 0) = 1 then (if t314 = 0 then (if (t311.length : Int) = 2 then (if t329 = 8 then ((node_Kid.f k false ([] : List (S62)) y289 y292 (⟨#[107]⟩ : ByteArray)).bind fun t335 => (if t335 = 1 then ((node_Kid.f k false ([] : List (S62)) y289 y292 (⟨#[106]⟩ : ByteArray)).bind fun t336 => (if t336 = 0 then ((node_Kid.f k true y285 ([] : List ByteArray) ([] : List Int) (⟨#[106]⟩ : ByteArray)).bind fun t337 => (if t337 = (-1) then ((node_Size.f k true y285 ([] : List ByteArray) ([] : List Int)).bind fun t338 => (some (decide (t338 > 10)))) else (none))) else (none))) else (none))) else (none)) else (none)) else (none)) else (none)) else (none)) else (none)) else (none)) else (none)))) else (none)) = some r := H
 have A8 := Aside0.mk A80
 clear A80
 by_cases c9 : t332 = true
 rotate_left
 ·replace c9 := Bool.eq_false_iff.mpr c9
  subst c9
  have H1 : (none) = some r := by rw [if_neg (show ¬ (false = true) by decide)] at H; exact H
  clear H
  have H := H1
  clear H1
  exact absurd H (by simp)
 subst c9
 have H1 : ((node_May.f k false ([] : List (S62)) ([] : List ByteArray) ([] : List Int)).bind fun t333 => (if t333 = true then (none) else (if t299 = 0 then (if t303 = 0 then (if (t296.length : Int) = 256 then (if 0 < (t296.length : Int) then (if (rd t296 0) = 1 then (if t314 = 0 then (if (t311.length : Int) = 2 then (if t329 = 8 then ((node_Kid.f k false ([] : List (S62)) y289 y292 (⟨#[107]⟩ : ByteArray)).bind fun t335 => (if t335 = 1 then ((node_Kid.f k false ([] : List (S62)) y289 y292 (⟨#[106]⟩ : ByteArray)).bind fun t336 => (if t336 = 0 then ((node_Kid.f k true y285 ([] : List ByteArray) ([] : List Int) (⟨#[106]⟩ : ByteArray)).bind fun t337 => (if t337 = (-1) then ((node_Size.f k true y285 ([] : List ByteArray) ([] : List Int)).bind fun t338 => (some (decide (t338 > 10)))) else (none))) else (none))) else (none))) else (none)) else (none)) else (none)) else (none)) else (none)) else (none)) else (none)) else (none)))) = some r := by rw [if_pos rfl] at H; exact H
 clear H
 have H := H1
 clear H1
 replace H := Option.bind_eq_some_iff.mp H
 obtain ⟨t333, A100, H⟩ := H
 replace H : (if t333 = true then (none) else (if t299 = 0 then (if t303 = 0 then (if (t296.length : Int) = 256 then (if 0 < (t296.length : Int) then (if (rd t296 0) = 1 then (if t314 = 0 then (if (t311.length : Int) = 2 then (if t329 = 8 then ((node_Kid.f k false ([] : List (S62)) y289 y292 (⟨#[107]⟩ : ByteArray)).bind fun t335 => (if t335 = 1 then ((node_Kid.f k false ([] : List (S62)) y289 y292 (⟨#[106]⟩ : ByteArray)).bind fun t336 => (if t336 = 0 then ((node_Kid.f k true y285 ([] : List ByteArray) ([] : List Int) (⟨#[106]⟩ : ByteArray)).bind fun t337 => (if t337 = (-1) then ((node_Size.f k true y285 ([] : List ByteArray) ([] : List Int)).bind fun t338 => (some (decide (t338 > 10)))) else (none))) else (none))) else (none))) else (none)) else (none)) else (none)) else (none)) else (none)) else (none)) else (none)) else (none))) = some r := H
 have A10 := Aside0.mk A100
 clear A100
 by_cases c11 : t333 = true
 ·subst c11
  have H1 : (none) = some r := by rw [if_pos rfl] at H; exact H
  clear H
  have H := H1
  clear H1
  exact absurd H (by simp)
 replace c11 := Bool.eq_false_iff.mpr c11
 subst c11
 have H1 : (if t299 = 0 then (if t303 = 0 then (if (t296.length : Int) = 256 then (if 0 < (t296.length : Int) then (if (rd t296 0) = 1 then (if t314 = 0 then (if (t311.length : Int) = 2 then (if t329 = 8 then ((node_Kid.f k false ([] : List (S62)) y289 y292 (⟨#[107]⟩ : ByteArray)).bind fun t335 => (if t335 = 1 then ((node_Kid.f k false ([] : List (S62)) y289 y292 (⟨#[106]⟩ : ByteArray)).bind fun t336 => (if t336 = 0 then ((node_Kid.f k true y285 ([] : List ByteArray) ([] : List Int) (⟨#[106]⟩ : ByteArray)).bind fun t337 => (if t337 = (-1) then ((node_Size.f k true y285 ([] : List ByteArray) ([] : List Int)).bind fun t338 => (some (decide (t338 > 10)))) else (none))) else (none))) else (none))) else (none)) else (none)) else (none)) else (none)) else (none)) else (none)) else (none)) else (none)) = some r := by rw [if_neg (show ¬ (false = true) by decide)] at H; exact H
 clear H
 have H := H1
 clear H1
 by_cases c12 : t299 = 0
 rotate_left
 ·rw [if_neg c12] at H
  exact absurd H (by simp)
 rw [if_pos c12] at H
 have c12b0 : (t299 == 0) = true := beq_iff_eq.mpr c12
 have c12b1 : (t299 != 0) = false := bne_eq_false_iff_eq.mpr c12
 clear c12
 by_cases c13 : t303 = 0
 rotate_left
 ·rw [if_neg c13] at H
  exact absurd H (by simp)
 rw [if_pos c13] at H
 have c13b0 : (t303 == 0) = true := beq_iff_eq.mpr c13
 have c13b1 : (t303 != 0) = false := bne_eq_false_iff_eq.mpr c13
 clear c13
 by_cases c14 : (t296.length : Int) = 256
 rotate_left
 ·rw [if_neg c14] at H
  exact absurd H (by simp)
 rw [if_pos c14] at H
 have c14b0 : ((t296.length : Int) == 256) = true := beq_iff_eq.mpr c14
 have c14b1 : ((t296.length : Int) != 256) = false := bne_eq_false_iff_eq.mpr c14
 clear c14
 by_cases c15 : 0 < (t296.length : Int)
 rotate_left
 ·rw [if_neg c15] at H
  exact absurd H (by simp)
 rw [if_pos c15] at H
 have c15b0 : decide (0 < (t296.length : Int)) = true := decide_eq_true c15
 have c15b1 : decide (0 < t296.length) = true := decide_eq_true (by omega)
 clear c15
 by_cases c16 : (rd t296 0) = 1
 rotate_left
 ·rw [if_neg c16] at H
  exact absurd H (by simp)
 rw [if_pos c16] at H
 have c16b0 : ((rd t296 0) == 1) = true := beq_iff_eq.mpr c16
 have c16b1 : ((rd t296 0) != 1) = false := bne_eq_false_iff_eq.mpr c16
 clear c16
 by_cases c17 : t314 = 0
 rotate_left
 ·rw [if_neg c17] at H
  exact absurd H (by simp)
 rw [if_pos c17] at H
 have c17b0 : (t314 == 0) = true := beq_iff_eq.mpr c17
 have c17b1 : (t314 != 0) = false := bne_eq_false_iff_eq.mpr c17
 clear c17
 by_cases c18 : (t311.length : Int) = 2
 rotate_left
 ·rw [if_neg c18] at H
  exact absurd H (by simp)
 rw [if_pos c18] at H
 have c18b0 : ((t311.length : Int) == 2) = true := beq_iff_eq.mpr c18
 have c18b1 : ((t311.length : Int) != 2) = false := bne_eq_false_iff_eq.mpr c18
 clear c18
 by_cases c19 : t329 = 8
 rotate_left
 ·rw [if_neg c19] at H
  exact absurd H (by simp)
 rw [if_pos c19] at H
 have c19b0 : (t329 == 8) = true := beq_iff_eq.mpr c19
 have c19b1 : (t329 != 8) = false := bne_eq_false_iff_eq.mpr c19
 clear c19
 replace H := Option.bind_eq_some_iff.mp H
 obtain ⟨t335, A200, H⟩ := H
 replace H : (if t335 = 1 then ((node_Kid.f k false ([] : List (S62)) y289 y292 (⟨#[106]⟩ : ByteArray)).bind fun t336 => (if t336 = 0 then ((node_Kid.f k true y285 ([] : List ByteArray) ([] : List Int) (⟨#[106]⟩ : ByteArray)).bind fun t337 => (if t337 = (-1) then ((node_Size.f k true y285 ([] : List ByteArray) ([] : List Int)).bind fun t338 => (some (decide (t338 > 10)))) else (none))) else (none))) else (none)) = some r := H
 have A20 := Aside0.mk A200
 clear A200
 by_cases c21 : t335 = 1
 rotate_left
 ·rw [if_neg c21] at H
  exact absurd H (by simp)
 rw [if_pos c21] at H
 have c21b0 : (t335 == 1) = true := beq_iff_eq.mpr c21
 have c21b1 : (t335 != 1) = false := bne_eq_false_iff_eq.mpr c21
 clear c21
 replace H := Option.bind_eq_some_iff.mp H
 obtain ⟨t336, A220, H⟩ := H
 replace H : (if t336 = 0 then ((node_Kid.f k true y285 ([] : List ByteArray) ([] : List Int) (⟨#[106]⟩ : ByteArray)).bind fun t337 => (if t337 = (-1) then ((node_Size.f k true y285 ([] : List ByteArray) ([] : List Int)).bind fun t338 => (some (decide (t338 > 10)))) else (none))) else (none)) = some r := H
 have A22 := Aside0.mk A220
 clear A220
 by_cases c23 : t336 = 0
 rotate_left
 ·rw [if_neg c23] at H
  exact absurd H (by simp)
 rw [if_pos c23] at H
 have c23b0 : (t336 == 0) = true := beq_iff_eq.mpr c23
 have c23b1 : (t336 != 0) = false := bne_eq_false_iff_eq.mpr c23
 clear c23
 replace H := Option.bind_eq_some_iff.mp H
 obtain ⟨t337, A240, H⟩ := H
 replace H : (if t337 = (-1) then ((node_Size.f k true y285 ([] : List ByteArray) ([] : List Int)).bind fun t338 => (some (decide (t338 > 10)))) else (none)) = some r := H
 have A24 := Aside0.mk A240
 clear A240
 by_cases c25 : t337 = (-1)
 rotate_left
 ·rw [if_neg c25] at H
  exact absurd H (by simp)
 rw [if_pos c25] at H
 have c25b0 : (t337 == (-1)) = true := beq_iff_eq.mpr c25
 have c25b1 : (t337 != (-1)) = false := bne_eq_false_iff_eq.mpr c25
 clear c25
 replace H := Option.bind_eq_some_iff.mp H
 obtain ⟨t338, A260, H⟩ := H
 replace H : (some (decide (t338 > 10))) = some r := H
 have A26 := Aside0.mk A260
 clear A260
 obtain rfl := Option.some.inj H
 go_enter Try.func11, Try.ntmps11
 go_wp2_with (first | ((with_reducible refine gate_dst (N := 13) rfl ?_); (try (refine gate_guard (by rfl) ?_; dsimp only)); refine Kd.R_lit k62 _ 62 ?hg (N := 13) ?hd (xs := ([(⟨(⟨#[97]⟩ : ByteArray), (⟨1, 4607182418800017408, (⟨#[]⟩ : ByteArray)⟩ : S54), 0, (⟨0, 0, (⟨#[]⟩ : ByteArray)⟩ : S54)⟩ : S62)] : List (S62))) (inner := [.string (⟨#[97]⟩ : ByteArray), .int .i64 1, .float .f64 4607182418800017408, .string (⟨#[]⟩ : ByteArray), .int .i64 0, .int .i64 0, .float .f64 0, .string (⟨#[]⟩ : ByteArray)]) (ok := fun _ => True) (okp := fun _ => True) ?hr ?hp (fun _ hk => hk) trivial (Below.refl _ _) (Nat.le_refl _) (by simp) ?_; (case hd => rfl); (case hg => rfl); (case hr => first | (go_simp; done) | (go_simp; rfl)); (case hp => exact (Reps.c8 (show Kd.M k62 _ _ _ (⟨(⟨#[97]⟩ : ByteArray), (⟨1, 4607182418800017408, (⟨#[]⟩ : ByteArray)⟩ : S54), 0, (⟨0, 0, (⟨#[]⟩ : ByteArray)⟩ : S54)⟩ : S62) [.string (⟨#[97]⟩ : ByteArray), .int .i64 1, .float .f64 4607182418800017408, .string (⟨#[]⟩ : ByteArray), .int .i64 0, .int .i64 0, .float .f64 0, .string (⟨#[]⟩ : ByteArray)] from (k62_mkM _ _ _ (⟨(⟨#[97]⟩ : ByteArray), (⟨1, 4607182418800017408, (⟨#[]⟩ : ByteArray)⟩ : S54), 0, (⟨0, 0, (⟨#[]⟩ : ByteArray)⟩ : S54)⟩ : S62) )) (Reps.none _ _))); intro v286 w27 ho28 hb hg_ hnew_; clear hg_ hnew_; (first | rw [← Ny285.out] at ho28 | (simp only [Int.reduceToNat] at ho28; rw [← Ny285.out] at ho28)); have HO287 := Aside0.mk (Kd.R_lower ho28 (below_size (bC HB))); replace HB := bW HB hb; clear hb ho28; obtain ⟨Ao29, co29, eo29⟩ := Kd.R_slice HO287.out; subst eo29) | ((with_reducible refine gate_dst (N := 1) rfl ?_); (try (refine gate_guard (by rfl) ?_; dsimp only)); refine box_event ?hg (N := 1) ?hd (cs := #[.bool false, .slice none 0 0, .slice none 0 0, .slice none 0 0]) (t := 36) ?hr ?_; (case hd => rfl); (case hg => rfl); (case hr => first | (go_simp; done) | (go_simp; rfl)); intro gb288 hg w30 hbox hb; have BK288 := Aside0.mk (hbox); have GW288 := bZ HB hg; have GE288 := bZ HB hg; replace HO287 := rB HO287 hb; replace HB := bW HB hb; clear hb hbox hg; obtain ⟨hcz31_0, hcz31_1, hcz31_2, hcz31_3, hfz31_0, hfz31_1, hfz31_2, hfz31_3⟩ := bf4 (w := w30) BK288) | ((with_reducible refine gate_dst (N := 15) rfl ?_); (try (refine gate_guard (by rfl) ?_; dsimp only)); refine Kd.R_lit Kd.string _ 9 ?hg (N := 15) ?hd (xs := ([(⟨#[107]⟩ : ByteArray)] : List ByteArray)) (inner := [.string (⟨#[107]⟩ : ByteArray)]) (ok := fun _ => True) (okp := fun _ => True) ?hr ?hp (fun _ hk => hk) trivial (Below.refl _ _) (Nat.le_refl _) (by simp) ?_; (case hd => rfl); (case hg => rfl); (case hr => first | (go_simp; done) | (go_simp; rfl)); (case hp => exact (Reps.one (show Kd.M Kd.string _ _ _ (⟨#[107]⟩ : ByteArray) [.string (⟨#[107]⟩ : ByteArray)] from rfl) (Reps.none _ _))); intro v290 w32 ho33 hb hg_ hnew_; clear hg_ hnew_; (first | rw [← Ny289.out] at ho33 | (simp only [Int.reduceToNat] at ho33; rw [← Ny289.out] at ho33)); have HO291 := Aside0.mk (Kd.R_lower ho33 (below_size (bC HB))); replace HO287 := Aside0.mk (Kd.R_below (by (with_reducible repeat (first | apply Kd.R_alloc | apply Kd.R_drewN | apply Kd.R_drew)); exact (Kd.R_mono (Kd.R_far (p := ⟨gb288, 3, none⟩) (Kd.R_far (p := ⟨gb288, 2, none⟩) (Kd.R_far (p := ⟨gb288, 1, none⟩) (Kd.R_far (p := ⟨gb288, 0, none⟩) (Kd.R_types HO287.out BK288.out (by decide)) (fun _ hk => hk.2) (.bool true)) (fun _ hk => hk.2) (.slice Ao29 y285.length co29)) (fun _ hk => hk.2) (.slice none 0 0)) (fun _ hk => hk.2) (.slice none 0 0)) (fun _ h_ => h_.1))) hb); replace BK288 := Aside0.mk (blk_below (g := gb288) (o := .cells #[.bool true, .slice Ao29 y285.length co29, .slice none 0 0, .slice none 0 0] 36 (0, 0)) (bR BK288) hb); replace HB := bW HB hb; clear hb ho33) | ((with_reducible refine gate_dst (N := 16) rfl ?_); (try (refine gate_guard (by rfl) ?_; dsimp only)); refine Kd.R_lit (Kd.int .i64) _ 3 ?hg (N := 16) ?hd (xs := ([2, 3] : List Int)) (inner := [.int .i64 2, .int .i64 3]) (ok := fun _ => True) (okp := fun _ => True) ?hr ?hp (fun _ hk => hk) trivial (Below.refl _ _) (Nat.le_refl _) (by simp) ?_; (case hd => rfl); (case hg => rfl); (case hr => first | (go_simp; done) | (go_simp; rfl)); (case hp => exact (Reps.one (show Kd.M (Kd.int .i64) _ _ _ 2 [.int .i64 2] from rfl) (Reps.one (show Kd.M (Kd.int .i64) _ _ _ 3 [.int .i64 3] from rfl) (Reps.none _ _)))); intro v293 w34 ho35 hb hg_ hnew_; clear hg_ hnew_; (first | rw [← Ny292.out] at ho35 | (simp only [Int.reduceToNat] at ho35; rw [← Ny292.out] at ho35)); have HO294 := Aside0.mk (Kd.R_lower ho35 (below_size (bC HB))); replace HO287 := rB HO287 hb; replace HO291 := rB HO291 hb; replace BK288 := bB BK288 hb; replace HB := bW HB hb; clear hb ho35; obtain ⟨Ao36, co36, eo36⟩ := Kd.R_slice HO294.out; subst eo36; obtain ⟨Ao37, co37, eo37⟩ := Kd.R_slice HO291.out; subst eo37) | ((with_reducible refine gate_dst (N := 2) rfl ?_); (try (refine gate_guard (by rfl) ?_; dsimp only)); refine box_event ?hg (N := 2) ?hd (cs := #[.bool false, .slice none 0 0, .slice none 0 0, .slice none 0 0]) (t := 36) ?hr ?_; (case hd => rfl); (case hg => rfl); (case hr => first | (go_simp; done) | (go_simp; rfl)); intro gb295 hg w38 hbox hb; have BK295 := Aside0.mk (hbox); have GW295 := bZ HB hg; have GE295 := bZ HB hg; have NB288_295 := bL BK288 hg; have NB295_288 := bG BK288 hg; replace HO287 := rB HO287 hb; replace HO291 := rB HO291 hb; replace HO294 := rB HO294 hb; replace BK288 := bB BK288 hb; replace HB := bW HB hb; clear hb hbox hg; have hnb39 := NB295_288.out; have hnc39 := NB288_295.out; obtain ⟨hcz40_0, hcz40_1, hcz40_2, hcz40_3, hfz40_0, hfz40_1, hfz40_2, hfz40_3⟩ := bf4 (w := w38) BK295; obtain ⟨hcz41_0, hcz41_1, hcz41_2, hcz41_3, hfz41_0, hfz41_1, hfz41_2, hfz41_3⟩ := bf4 (w := w38) BK288) | (go_at_call 19; refine calls_of_args (args' := #[.agg #[.bool true, .slice Ao29 y285.length co29, .slice none ([] : List ByteArray).length 0, .slice none ([] : List Int).length 0]]) (by first | rfl | ((try simp only [List.map_toArray, List.map_cons, List.map_nil]); rfl)) ?_; (with_reducible refine (node_Encode.calls k true _ _ y285 _ _ ([] : List ByteArray) _ _ ([] : List Int) t296 t299 _ ?side1 ?side2 ?side3 ?side4 ?side5 ?side6 A1.out).mono ?_); (case side1 => refine (Kd.R_reads' (e := 62) (base := w.heap.size) (ok := fun k_ => True) (n := y285.length) (c := co29) ?_).2.2; exact (by (with_reducible repeat (first | apply Kd.R_alloc | apply Kd.R_drewN | apply Kd.R_drew)); exact (Kd.R_mono (Kd.R_far (p := ⟨gb295, 3, none⟩) (Kd.R_far (p := ⟨gb295, 2, none⟩) (Kd.R_far (p := ⟨gb295, 1, none⟩) (Kd.R_far (p := ⟨gb295, 0, none⟩) (Kd.R_types HO287.out BK295.out (by decide)) (fun _ hk => hk.2) (.bool false)) (fun _ hk => hk.2) (.slice none 0 0)) (fun _ hk => hk.2) (.slice Ao37 y289.length co37)) (fun _ hk => hk.2) (.slice Ao36 y292.length co36)) (fun _ h_ => h_.1)))); (case side2 => exact (Kd.R_reads' HO287.out).2.1); (case side3 => exact Kd.C_nil _ _); (case side4 => exact Nat.le_refl _); (case side5 => exact Kd.C_nil _ _); (case side6 => exact Nat.le_refl _); rintro e w42 ⟨v297, rfl, ho0, hb⟩; have HO298 := Aside0.mk (Kd.R_lower ho0 (below_size (bC HB))); replace HO287 := Aside0.mk (Kd.R_below (by (with_reducible repeat (first | apply Kd.R_alloc | apply Kd.R_drewN | apply Kd.R_drew)); exact (Kd.R_mono (Kd.R_far (p := ⟨gb295, 3, none⟩) (Kd.R_far (p := ⟨gb295, 2, none⟩) (Kd.R_far (p := ⟨gb295, 1, none⟩) (Kd.R_far (p := ⟨gb295, 0, none⟩) (Kd.R_types HO287.out BK295.out (by decide)) (fun _ hk => hk.2) (.bool false)) (fun _ hk => hk.2) (.slice none 0 0)) (fun _ hk => hk.2) (.slice Ao37 y289.length co37)) (fun _ hk => hk.2) (.slice Ao36 y292.length co36)) (fun _ h_ => h_.1))) hb); replace HO291 := Aside0.mk (Kd.R_below (by (with_reducible repeat (first | apply Kd.R_alloc | apply Kd.R_drewN | apply Kd.R_drew)); exact (Kd.R_mono (Kd.R_far (p := ⟨gb295, 3, none⟩) (Kd.R_far (p := ⟨gb295, 2, none⟩) (Kd.R_far (p := ⟨gb295, 1, none⟩) (Kd.R_far (p := ⟨gb295, 0, none⟩) (Kd.R_types HO291.out BK295.out (by decide)) (fun _ hk => hk.2) (.bool false)) (fun _ hk => hk.2) (.slice none 0 0)) (fun _ hk => hk.2) (.slice Ao37 y289.length co37)) (fun _ hk => hk.2) (.slice Ao36 y292.length co36)) (fun _ h_ => h_.1))) hb); replace HO294 := Aside0.mk (Kd.R_below (by (with_reducible repeat (first | apply Kd.R_alloc | apply Kd.R_drewN | apply Kd.R_drew)); exact (Kd.R_mono (Kd.R_far (p := ⟨gb295, 3, none⟩) (Kd.R_far (p := ⟨gb295, 2, none⟩) (Kd.R_far (p := ⟨gb295, 1, none⟩) (Kd.R_far (p := ⟨gb295, 0, none⟩) (Kd.R_types HO294.out BK295.out (by decide)) (fun _ hk => hk.2) (.bool false)) (fun _ hk => hk.2) (.slice none 0 0)) (fun _ hk => hk.2) (.slice Ao37 y289.length co37)) (fun _ hk => hk.2) (.slice Ao36 y292.length co36)) (fun _ h_ => h_.1))) hb); replace BK288 := bB BK288 hb; replace BK295 := Aside0.mk (blk_below (g := gb295) (o := .cells #[.bool false, .slice none 0 0, .slice Ao37 y289.length co37, .slice Ao36 y292.length co36] 36 (0, 0)) (bR BK295) hb); replace HB := bW HB hb; (try clear hb); (try clear hb2); (try clear hk); (try clear hi); (try clear ho0); obtain ⟨hcz43_0, hcz43_1, hcz43_2, hcz43_3, hfz43_0, hfz43_1, hfz43_2, hfz43_3⟩ := bf4 (w := w42) BK295) | (go_at_call 19; refine calls_of_args (args' := #[.agg #[.bool false, .slice none ([] : List (S62)).length 0, .slice Ao37 y289.length co37, .slice Ao36 y292.length co36]]) (by first | rfl | ((try simp only [List.map_toArray, List.map_cons, List.map_nil]); rfl)) ?_; (with_reducible refine (node_Encode.calls k false _ _ ([] : List (S62)) _ _ y289 _ _ y292 t300 t303 _ ?side1 ?side2 ?side3 ?side4 ?side5 ?side6 A2.out).mono ?_); (case side1 => exact Kd.C_nil _ _); (case side2 => exact Nat.le_refl _); (case side3 => repeat (first | exact (Kd.R_reads' HO291.out).2.2 | (with_reducible refine Kd.C_alloc ?_ _) | (with_reducible refine Kd.C_drewN ?_ _) | (with_reducible refine Kd.C_drew ?_))); (case side4 => exact (Kd.R_reads' HO291.out).2.1); (case side5 => repeat (first | exact (Kd.R_reads' HO294.out).2.2 | (with_reducible refine Kd.C_alloc ?_ _) | (with_reducible refine Kd.C_drewN ?_ _) | (with_reducible refine Kd.C_drew ?_))); (case side6 => exact (Kd.R_reads' HO294.out).2.1); rintro e w44 ⟨v301, rfl, ho0, hb⟩; have HO302 := Aside0.mk (Kd.R_lower (Kd.R_new' ho0 (Kd.R_lt (by (with_reducible repeat (first | apply Kd.R_alloc | apply Kd.R_drewN | apply Kd.R_drew)); exact HO298.out))) (below_size (bC HB))); replace HO287 := rB HO287 hb; replace HO291 := rB HO291 hb; replace HO294 := rB HO294 hb; replace HO298 := rE HO298 (Kd.R_base ho0) hb; replace BK288 := bB BK288 hb; replace BK295 := bB BK295 hb; replace HB := bW HB hb; (try clear hb); (try clear hb2); (try clear hk); (try clear hi); (try clear ho0); obtain ⟨Ao45, co45, eo45⟩ := Kd.R_slice HO302.out; subst eo45) | ((with_reducible refine gate_callee (f := 21) rfl ?_); refine gL (some 30) Try.func21 #[.slice Ao45 t300.length co45] ?_; (with_reducible refine (node_Decode.calls k _ _ t300 t304 t305 t308 t311 t314 _ ?side1 ?side2 A3.out).mono ?_); (case side1 => repeat (first | exact (Kd.R_reads' HO302.out).2.2 | (with_reducible refine Kd.C_alloc ?_ _) | (with_reducible refine Kd.C_drewN ?_ _) | (with_reducible refine Kd.C_drew ?_))); (case side2 => exact (Kd.R_reads' HO302.out).2.1); rintro e w46 ⟨v306, v309, v312, rfl, ho0, ho1, ho2, hb⟩; refine ⟨_, rfl, ?_⟩; have HO307 := Aside0.mk (Kd.R_lower (Kd.R_new' ho0 (Kd.R_lt (by (with_reducible repeat (first | apply Kd.R_alloc | apply Kd.R_drewN | apply Kd.R_drew)); exact HO287.out))) (below_size (bC HB))); have HO310 := Aside0.mk (Kd.R_lower (Kd.R_new' ho1 (Kd.R_lt (by (with_reducible repeat (first | apply Kd.R_alloc | apply Kd.R_drewN | apply Kd.R_drew)); exact HO291.out))) (below_size (bC HB))); have HO313 := Aside0.mk (Kd.R_lower (Kd.R_new' ho2 (Kd.R_lt (by (with_reducible repeat (first | apply Kd.R_alloc | apply Kd.R_drewN | apply Kd.R_drew)); exact HO294.out))) (below_size (bC HB))); replace HO287 := rE HO287 (Kd.R_base ho0) hb; replace HO291 := rE HO291 (Kd.R_base ho1) hb; replace HO294 := rE HO294 (Kd.R_base ho2) hb; replace HO298 := rB HO298 hb; replace HO302 := rB HO302 hb; replace BK288 := bB BK288 hb; replace BK295 := bB BK295 hb; replace HB := bW HB hb; (try clear hb); (try clear hb2); (try clear hk); (try clear hi); (try clear ho0); (try clear ho1); (try clear ho2)) | ((with_reducible refine gate_dst (N := 7) rfl ?_); (try (refine gate_guard (by rfl) ?_; dsimp only)); refine box_event ?hg (N := 7) ?hd (cs := #[.bool false, .slice none 0 0, .slice none 0 0, .slice none 0 0]) (t := 36) ?hr ?_; (case hd => rfl); (case hg => rfl); (case hr => first | (go_simp; done) | (go_simp; rfl)); intro gb315 hg w47 hbox hb; have BK315 := Aside0.mk (hbox); have GW315 := bZ HB hg; have GE315 := bZ HB hg; have NB288_315 := bL BK288 hg; have NB315_288 := bG BK288 hg; have NB295_315 := bL BK295 hg; have NB315_295 := bG BK295 hg; replace HO287 := rB HO287 hb; replace HO291 := rB HO291 hb; replace HO294 := rB HO294 hb; replace HO298 := rB HO298 hb; replace HO302 := rB HO302 hb; replace HO307 := rB HO307 hb; replace HO310 := rB HO310 hb; replace HO313 := rB HO313 hb; replace BK288 := bB BK288 hb; replace BK295 := bB BK295 hb; replace HB := bW HB hb; clear hb hbox hg; have hnb48 := NB315_288.out; have hnc48 := NB288_315.out; have hnb49 := NB315_295.out; have hnc49 := NB295_315.out; obtain ⟨hcz50_0, hcz50_1, hcz50_2, hcz50_3, hfz50_0, hfz50_1, hfz50_2, hfz50_3⟩ := bf4 (w := w47) BK315; obtain ⟨Ao51, co51, eo51⟩ := Kd.R_slice HO307.out; subst eo51; obtain ⟨Ao52, co52, eo52⟩ := Kd.R_slice HO310.out; subst eo52; obtain ⟨Ao53, co53, eo53⟩ := Kd.R_slice HO313.out; subst eo53) | ((with_reducible refine gate_dst (N := 34) rfl ?_); (try (refine gate_guard (by rfl) ?_; dsimp only)); refine Kd.R_make (Kd.int .u8) _ 5 rfl (N := 34) rfl 30 _ _ rfl 256 rfl rfl Try.underlying30 (.int .u8 0) 1 info5 rfl (by decide) (by omega) 0 (ok := fun _ => True) (okp := fun _ => True) rfl (fun _ hk => hk) trivial (by omega) (by omega) (Below.refl _ _) (Nat.le_refl _) ?_; intro v317 w54 ho55 hb hg_ hnew_; clear hg_ hnew_; (first | rw [← Ny316.out] at ho55 | (simp only [Int.reduceToNat] at ho55; rw [← Ny316.out] at ho55)); have HO318 := Aside0.mk (Kd.R_lower (Kd.R_new' (Kd.R_new' ho55 (Kd.R_lt (by (with_reducible repeat (first | apply Kd.R_alloc | apply Kd.R_drewN | apply Kd.R_drew)); exact (Kd.R_mono (Kd.R_far (p := ⟨gb315, 3, none⟩) (Kd.R_far (p := ⟨gb315, 2, none⟩) (Kd.R_far (p := ⟨gb315, 1, none⟩) (Kd.R_far (p := ⟨gb315, 0, none⟩) (Kd.R_types HO298.out BK315.out (by decide)) (fun _ hk => hk.2) (.bool t304)) (fun _ hk => hk.2) (.slice Ao51 t305.length co51)) (fun _ hk => hk.2) (.slice Ao52 t308.length co52)) (fun _ hk => hk.2) (.slice Ao53 t311.length co53)) (fun _ h_ => h_.1))))) (Kd.R_lt (by (with_reducible repeat (first | apply Kd.R_alloc | apply Kd.R_drewN | apply Kd.R_drew)); exact (Kd.R_mono (Kd.R_far (p := ⟨gb315, 3, none⟩) (Kd.R_far (p := ⟨gb315, 2, none⟩) (Kd.R_far (p := ⟨gb315, 1, none⟩) (Kd.R_far (p := ⟨gb315, 0, none⟩) (Kd.R_types HO302.out BK315.out (by decide)) (fun _ hk => hk.2) (.bool t304)) (fun _ hk => hk.2) (.slice Ao51 t305.length co51)) (fun _ hk => hk.2) (.slice Ao52 t308.length co52)) (fun _ hk => hk.2) (.slice Ao53 t311.length co53)) (fun _ h_ => h_.1))))) (below_size (bC HB))); replace HO287 := Aside0.mk (Kd.R_below (by (with_reducible repeat (first | apply Kd.R_alloc | apply Kd.R_drewN | apply Kd.R_drew)); exact (Kd.R_mono (Kd.R_far (p := ⟨gb315, 3, none⟩) (Kd.R_far (p := ⟨gb315, 2, none⟩) (Kd.R_far (p := ⟨gb315, 1, none⟩) (Kd.R_far (p := ⟨gb315, 0, none⟩) (Kd.R_types HO287.out BK315.out (by decide)) (fun _ hk => hk.2) (.bool t304)) (fun _ hk => hk.2) (.slice Ao51 t305.length co51)) (fun _ hk => hk.2) (.slice Ao52 t308.length co52)) (fun _ hk => hk.2) (.slice Ao53 t311.length co53)) (fun _ h_ => h_.1))) hb); replace HO291 := Aside0.mk (Kd.R_below (by (with_reducible repeat (first | apply Kd.R_alloc | apply Kd.R_drewN | apply Kd.R_drew)); exact (Kd.R_mono (Kd.R_far (p := ⟨gb315, 3, none⟩) (Kd.R_far (p := ⟨gb315, 2, none⟩) (Kd.R_far (p := ⟨gb315, 1, none⟩) (Kd.R_far (p := ⟨gb315, 0, none⟩) (Kd.R_types HO291.out BK315.out (by decide)) (fun _ hk => hk.2) (.bool t304)) (fun _ hk => hk.2) (.slice Ao51 t305.length co51)) (fun _ hk => hk.2) (.slice Ao52 t308.length co52)) (fun _ hk => hk.2) (.slice Ao53 t311.length co53)) (fun _ h_ => h_.1))) hb); replace HO294 := Aside0.mk (Kd.R_below (by (with_reducible repeat (first | apply Kd.R_alloc | apply Kd.R_drewN | apply Kd.R_drew)); exact (Kd.R_mono (Kd.R_far (p := ⟨gb315, 3, none⟩) (Kd.R_far (p := ⟨gb315, 2, none⟩) (Kd.R_far (p := ⟨gb315, 1, none⟩) (Kd.R_far (p := ⟨gb315, 0, none⟩) (Kd.R_types HO294.out BK315.out (by decide)) (fun _ hk => hk.2) (.bool t304)) (fun _ hk => hk.2) (.slice Ao51 t305.length co51)) (fun _ hk => hk.2) (.slice Ao52 t308.length co52)) (fun _ hk => hk.2) (.slice Ao53 t311.length co53)) (fun _ h_ => h_.1))) hb); replace HO298 := Aside0.mk (Kd.R_elder' (by (with_reducible repeat (first | apply Kd.R_alloc | apply Kd.R_drewN | apply Kd.R_drew)); exact (Kd.R_mono (Kd.R_far (p := ⟨gb315, 3, none⟩) (Kd.R_far (p := ⟨gb315, 2, none⟩) (Kd.R_far (p := ⟨gb315, 1, none⟩) (Kd.R_far (p := ⟨gb315, 0, none⟩) (Kd.R_types HO298.out BK315.out (by decide)) (fun _ hk => hk.2) (.bool t304)) (fun _ hk => hk.2) (.slice Ao51 t305.length co51)) (fun _ hk => hk.2) (.slice Ao52 t308.length co52)) (fun _ hk => hk.2) (.slice Ao53 t311.length co53)) (fun _ h_ => h_.1))) (Kd.R_base ho55) hb); replace HO302 := Aside0.mk (Kd.R_elder' (by (with_reducible repeat (first | apply Kd.R_alloc | apply Kd.R_drewN | apply Kd.R_drew)); exact (Kd.R_mono (Kd.R_far (p := ⟨gb315, 3, none⟩) (Kd.R_far (p := ⟨gb315, 2, none⟩) (Kd.R_far (p := ⟨gb315, 1, none⟩) (Kd.R_far (p := ⟨gb315, 0, none⟩) (Kd.R_types HO302.out BK315.out (by decide)) (fun _ hk => hk.2) (.bool t304)) (fun _ hk => hk.2) (.slice Ao51 t305.length co51)) (fun _ hk => hk.2) (.slice Ao52 t308.length co52)) (fun _ hk => hk.2) (.slice Ao53 t311.length co53)) (fun _ h_ => h_.1))) (Kd.R_base ho55) hb); replace HO307 := Aside0.mk (Kd.R_below (by (with_reducible repeat (first | apply Kd.R_alloc | apply Kd.R_drewN | apply Kd.R_drew)); exact (Kd.R_mono (Kd.R_far (p := ⟨gb315, 3, none⟩) (Kd.R_far (p := ⟨gb315, 2, none⟩) (Kd.R_far (p := ⟨gb315, 1, none⟩) (Kd.R_far (p := ⟨gb315, 0, none⟩) (Kd.R_types HO307.out BK315.out (by decide)) (fun _ hk => hk.2) (.bool t304)) (fun _ hk => hk.2) (.slice Ao51 t305.length co51)) (fun _ hk => hk.2) (.slice Ao52 t308.length co52)) (fun _ hk => hk.2) (.slice Ao53 t311.length co53)) (fun _ h_ => h_.1))) hb); replace HO310 := Aside0.mk (Kd.R_below (by (with_reducible repeat (first | apply Kd.R_alloc | apply Kd.R_drewN | apply Kd.R_drew)); exact (Kd.R_mono (Kd.R_far (p := ⟨gb315, 3, none⟩) (Kd.R_far (p := ⟨gb315, 2, none⟩) (Kd.R_far (p := ⟨gb315, 1, none⟩) (Kd.R_far (p := ⟨gb315, 0, none⟩) (Kd.R_types HO310.out BK315.out (by decide)) (fun _ hk => hk.2) (.bool t304)) (fun _ hk => hk.2) (.slice Ao51 t305.length co51)) (fun _ hk => hk.2) (.slice Ao52 t308.length co52)) (fun _ hk => hk.2) (.slice Ao53 t311.length co53)) (fun _ h_ => h_.1))) hb); replace HO313 := Aside0.mk (Kd.R_below (by (with_reducible repeat (first | apply Kd.R_alloc | apply Kd.R_drewN | apply Kd.R_drew)); exact (Kd.R_mono (Kd.R_far (p := ⟨gb315, 3, none⟩) (Kd.R_far (p := ⟨gb315, 2, none⟩) (Kd.R_far (p := ⟨gb315, 1, none⟩) (Kd.R_far (p := ⟨gb315, 0, none⟩) (Kd.R_types HO313.out BK315.out (by decide)) (fun _ hk => hk.2) (.bool t304)) (fun _ hk => hk.2) (.slice Ao51 t305.length co51)) (fun _ hk => hk.2) (.slice Ao52 t308.length co52)) (fun _ hk => hk.2) (.slice Ao53 t311.length co53)) (fun _ h_ => h_.1))) hb); replace BK288 := bB BK288 hb; replace BK295 := bB BK295 hb; replace BK315 := Aside0.mk (blk_below (g := gb315) (o := .cells #[.bool t304, .slice Ao51 t305.length co51, .slice Ao52 t308.length co52, .slice Ao53 t311.length co53] 36 (0, 0)) (bR BK315) hb); replace HB := bW HB hb; clear hb ho55; obtain ⟨Ao56, co56, eo56⟩ := Kd.R_slice HO318.out; subst eo56) | ((with_reducible refine gate_callee (f := 21) rfl ?_); refine gL (some 35) Try.func21 #[.slice Ao56 y316.length co56] ?_; (with_reducible refine (node_Decode.calls k _ _ y316 t319 t320 t323 t326 t329 _ ?side1 ?side2 A5.out).mono ?_); (case side1 => repeat (first | exact (Kd.R_reads' HO318.out).2.2 | (with_reducible refine Kd.C_alloc ?_ _) | (with_reducible refine Kd.C_drewN ?_ _) | (with_reducible refine Kd.C_drew ?_))); (case side2 => exact (Kd.R_reads' HO318.out).2.1); rintro e w57 ⟨v321, v324, v327, rfl, ho0, ho1, ho2, hb⟩; refine ⟨_, rfl, ?_⟩; have HO322 := Aside0.mk (Kd.R_lower (Kd.R_new' (Kd.R_new' ho0 (Kd.R_lt (by (with_reducible repeat (first | apply Kd.R_alloc | apply Kd.R_drewN | apply Kd.R_drew)); exact HO287.out))) (Kd.R_lt (by (with_reducible repeat (first | apply Kd.R_alloc | apply Kd.R_drewN | apply Kd.R_drew)); exact HO307.out))) (below_size (bC HB))); have HO325 := Aside0.mk (Kd.R_lower (Kd.R_new' (Kd.R_new' ho1 (Kd.R_lt (by (with_reducible repeat (first | apply Kd.R_alloc | apply Kd.R_drewN | apply Kd.R_drew)); exact HO291.out))) (Kd.R_lt (by (with_reducible repeat (first | apply Kd.R_alloc | apply Kd.R_drewN | apply Kd.R_drew)); exact HO310.out))) (below_size (bC HB))); have HO328 := Aside0.mk (Kd.R_lower (Kd.R_new' (Kd.R_new' ho2 (Kd.R_lt (by (with_reducible repeat (first | apply Kd.R_alloc | apply Kd.R_drewN | apply Kd.R_drew)); exact HO294.out))) (Kd.R_lt (by (with_reducible repeat (first | apply Kd.R_alloc | apply Kd.R_drewN | apply Kd.R_drew)); exact HO313.out))) (below_size (bC HB))); replace HO287 := rE HO287 (Kd.R_base ho0) hb; replace HO291 := rE HO291 (Kd.R_base ho1) hb; replace HO294 := rE HO294 (Kd.R_base ho2) hb; replace HO298 := rB HO298 hb; replace HO302 := rB HO302 hb; replace HO307 := rE HO307 (Kd.R_base ho0) hb; replace HO310 := rE HO310 (Kd.R_base ho1) hb; replace HO313 := rE HO313 (Kd.R_base ho2) hb; replace HO318 := rB HO318 hb; replace BK288 := bB BK288 hb; replace BK295 := bB BK295 hb; replace BK315 := bB BK315 hb; replace HB := bW HB hb; (try clear hb); (try clear hb2); (try clear hk); (try clear hi); (try clear ho0); (try clear ho1); (try clear ho2)) | ((with_reducible refine gate_dst (N := 9) rfl ?_); (try (refine gate_guard (by rfl) ?_; dsimp only)); refine box_event ?hg (N := 9) ?hd (cs := #[.bool false, .slice none 0 0, .slice none 0 0, .slice none 0 0]) (t := 36) ?hr ?_; (case hd => rfl); (case hg => rfl); (case hr => first | (go_simp; done) | (go_simp; rfl)); intro gb330 hg w58 hbox hb; have BK330 := Aside0.mk (hbox); have GW330 := bZ HB hg; have GE330 := bZ HB hg; have NB288_330 := bL BK288 hg; have NB330_288 := bG BK288 hg; have NB295_330 := bL BK295 hg; have NB330_295 := bG BK295 hg; have NB315_330 := bL BK315 hg; have NB330_315 := bG BK315 hg; replace HO287 := rB HO287 hb; replace HO291 := rB HO291 hb; replace HO294 := rB HO294 hb; replace HO298 := rB HO298 hb; replace HO302 := rB HO302 hb; replace HO307 := rB HO307 hb; replace HO310 := rB HO310 hb; replace HO313 := rB HO313 hb; replace HO318 := rB HO318 hb; replace HO322 := rB HO322 hb; replace HO325 := rB HO325 hb; replace HO328 := rB HO328 hb; replace BK288 := bB BK288 hb; replace BK295 := bB BK295 hb; replace BK315 := bB BK315 hb; replace HB := bW HB hb; clear hb hbox hg; have hnb59 := NB330_288.out; have hnc59 := NB288_330.out; have hnb60 := NB330_295.out; have hnc60 := NB295_330.out; have hnb61 := NB330_315.out; have hnc61 := NB315_330.out; obtain ⟨hcz62_0, hcz62_1, hcz62_2, hcz62_3, hfz62_0, hfz62_1, hfz62_2, hfz62_3⟩ := bf4 (w := w58) BK330; obtain ⟨Ao63, co63, eo63⟩ := Kd.R_slice HO322.out; subst eo63; obtain ⟨Ao64, co64, eo64⟩ := Kd.R_slice HO325.out; subst eo64; obtain ⟨Ao65, co65, eo65⟩ := Kd.R_slice HO328.out; subst eo65; obtain ⟨hcz66_0, hcz66_1, hcz66_2, hcz66_3, hfz66_0, hfz66_1, hfz66_2, hfz66_3⟩ := bf4 (w := w58) BK288) | (go_at_call 16; refine calls_of_args (args' := #[.agg #[.bool true, .slice Ao29 y285.length co29, .slice none ([] : List ByteArray).length 0, .slice none ([] : List Int).length 0]]) (by first | rfl | ((try simp only [List.map_toArray, List.map_cons, List.map_nil]); rfl)) ?_; (with_reducible refine (node_May.calls k true _ _ y285 _ _ ([] : List ByteArray) _ _ ([] : List Int) true _ ?side1 ?side2 ?side3 ?side4 ?side5 ?side6 A6.out).mono ?_); (case side1 => refine (Kd.R_reads' (e := 62) (base := w.heap.size) (ok := fun k_ => ((True ∧ some k_ ≠ (.slice Ao51 t305.length co51 : Value).ownBlock) ∧ some k_ ≠ (.slice Ao63 t320.length co63 : Value).ownBlock)) (n := y285.length) (c := co29) ?_).2.2; exact (by (with_reducible repeat (first | apply Kd.R_alloc | apply Kd.R_drewN | apply Kd.R_drew)); exact (Kd.R_mono (Kd.R_far (p := ⟨gb330, 3, none⟩) (Kd.R_far (p := ⟨gb330, 2, none⟩) (Kd.R_far (p := ⟨gb330, 1, none⟩) (Kd.R_far (p := ⟨gb330, 0, none⟩) (Kd.R_types HO287.out BK330.out (by decide)) (fun _ hk => hk.2) (.bool t319)) (fun _ hk => hk.2) (.slice Ao63 t320.length co63)) (fun _ hk => hk.2) (.slice Ao64 t323.length co64)) (fun _ hk => hk.2) (.slice Ao65 t326.length co65)) (fun _ h_ => h_.1)))); (case side2 => exact (Kd.R_reads' HO287.out).2.1); (case side3 => exact Kd.C_nil _ _); (case side4 => exact Nat.le_refl _); (case side5 => exact Kd.C_nil _ _); (case side6 => exact Nat.le_refl _); rintro e w67 ⟨rfl, hb⟩; replace HO287 := Aside0.mk (Kd.R_below (by (with_reducible repeat (first | apply Kd.R_alloc | apply Kd.R_drewN | apply Kd.R_drew)); exact (Kd.R_mono (Kd.R_far (p := ⟨gb330, 3, none⟩) (Kd.R_far (p := ⟨gb330, 2, none⟩) (Kd.R_far (p := ⟨gb330, 1, none⟩) (Kd.R_far (p := ⟨gb330, 0, none⟩) (Kd.R_types HO287.out BK330.out (by decide)) (fun _ hk => hk.2) (.bool t319)) (fun _ hk => hk.2) (.slice Ao63 t320.length co63)) (fun _ hk => hk.2) (.slice Ao64 t323.length co64)) (fun _ hk => hk.2) (.slice Ao65 t326.length co65)) (fun _ h_ => h_.1))) hb); replace HO291 := Aside0.mk (Kd.R_below (by (with_reducible repeat (first | apply Kd.R_alloc | apply Kd.R_drewN | apply Kd.R_drew)); exact (Kd.R_mono (Kd.R_far (p := ⟨gb330, 3, none⟩) (Kd.R_far (p := ⟨gb330, 2, none⟩) (Kd.R_far (p := ⟨gb330, 1, none⟩) (Kd.R_far (p := ⟨gb330, 0, none⟩) (Kd.R_types HO291.out BK330.out (by decide)) (fun _ hk => hk.2) (.bool t319)) (fun _ hk => hk.2) (.slice Ao63 t320.length co63)) (fun _ hk => hk.2) (.slice Ao64 t323.length co64)) (fun _ hk => hk.2) (.slice Ao65 t326.length co65)) (fun _ h_ => h_.1))) hb); replace HO294 := Aside0.mk (Kd.R_below (by (with_reducible repeat (first | apply Kd.R_alloc | apply Kd.R_drewN | apply Kd.R_drew)); exact (Kd.R_mono (Kd.R_far (p := ⟨gb330, 3, none⟩) (Kd.R_far (p := ⟨gb330, 2, none⟩) (Kd.R_far (p := ⟨gb330, 1, none⟩) (Kd.R_far (p := ⟨gb330, 0, none⟩) (Kd.R_types HO294.out BK330.out (by decide)) (fun _ hk => hk.2) (.bool t319)) (fun _ hk => hk.2) (.slice Ao63 t320.length co63)) (fun _ hk => hk.2) (.slice Ao64 t323.length co64)) (fun _ hk => hk.2) (.slice Ao65 t326.length co65)) (fun _ h_ => h_.1))) hb); replace HO298 := Aside0.mk (Kd.R_below (by (with_reducible repeat (first | apply Kd.R_alloc | apply Kd.R_drewN | apply Kd.R_drew)); exact (Kd.R_mono (Kd.R_far (p := ⟨gb330, 3, none⟩) (Kd.R_far (p := ⟨gb330, 2, none⟩) (Kd.R_far (p := ⟨gb330, 1, none⟩) (Kd.R_far (p := ⟨gb330, 0, none⟩) (Kd.R_types HO298.out BK330.out (by decide)) (fun _ hk => hk.2) (.bool t319)) (fun _ hk => hk.2) (.slice Ao63 t320.length co63)) (fun _ hk => hk.2) (.slice Ao64 t323.length co64)) (fun _ hk => hk.2) (.slice Ao65 t326.length co65)) (fun _ h_ => h_.1))) hb); replace HO302 := Aside0.mk (Kd.R_below (by (with_reducible repeat (first | apply Kd.R_alloc | apply Kd.R_drewN | apply Kd.R_drew)); exact (Kd.R_mono (Kd.R_far (p := ⟨gb330, 3, none⟩) (Kd.R_far (p := ⟨gb330, 2, none⟩) (Kd.R_far (p := ⟨gb330, 1, none⟩) (Kd.R_far (p := ⟨gb330, 0, none⟩) (Kd.R_types HO302.out BK330.out (by decide)) (fun _ hk => hk.2) (.bool t319)) (fun _ hk => hk.2) (.slice Ao63 t320.length co63)) (fun _ hk => hk.2) (.slice Ao64 t323.length co64)) (fun _ hk => hk.2) (.slice Ao65 t326.length co65)) (fun _ h_ => h_.1))) hb); replace HO307 := Aside0.mk (Kd.R_below (by (with_reducible repeat (first | apply Kd.R_alloc | apply Kd.R_drewN | apply Kd.R_drew)); exact (Kd.R_mono (Kd.R_far (p := ⟨gb330, 3, none⟩) (Kd.R_far (p := ⟨gb330, 2, none⟩) (Kd.R_far (p := ⟨gb330, 1, none⟩) (Kd.R_far (p := ⟨gb330, 0, none⟩) (Kd.R_types HO307.out BK330.out (by decide)) (fun _ hk => hk.2) (.bool t319)) (fun _ hk => hk.2) (.slice Ao63 t320.length co63)) (fun _ hk => hk.2) (.slice Ao64 t323.length co64)) (fun _ hk => hk.2) (.slice Ao65 t326.length co65)) (fun _ h_ => h_.1))) hb); replace HO310 := Aside0.mk (Kd.R_below (by (with_reducible repeat (first | apply Kd.R_alloc | apply Kd.R_drewN | apply Kd.R_drew)); exact (Kd.R_mono (Kd.R_far (p := ⟨gb330, 3, none⟩) (Kd.R_far (p := ⟨gb330, 2, none⟩) (Kd.R_far (p := ⟨gb330, 1, none⟩) (Kd.R_far (p := ⟨gb330, 0, none⟩) (Kd.R_types HO310.out BK330.out (by decide)) (fun _ hk => hk.2) (.bool t319)) (fun _ hk => hk.2) (.slice Ao63 t320.length co63)) (fun _ hk => hk.2) (.slice Ao64 t323.length co64)) (fun _ hk => hk.2) (.slice Ao65 t326.length co65)) (fun _ h_ => h_.1))) hb); replace HO313 := Aside0.mk (Kd.R_below (by (with_reducible repeat (first | apply Kd.R_alloc | apply Kd.R_drewN | apply Kd.R_drew)); exact (Kd.R_mono (Kd.R_far (p := ⟨gb330, 3, none⟩) (Kd.R_far (p := ⟨gb330, 2, none⟩) (Kd.R_far (p := ⟨gb330, 1, none⟩) (Kd.R_far (p := ⟨gb330, 0, none⟩) (Kd.R_types HO313.out BK330.out (by decide)) (fun _ hk => hk.2) (.bool t319)) (fun _ hk => hk.2) (.slice Ao63 t320.length co63)) (fun _ hk => hk.2) (.slice Ao64 t323.length co64)) (fun _ hk => hk.2) (.slice Ao65 t326.length co65)) (fun _ h_ => h_.1))) hb); replace HO318 := Aside0.mk (Kd.R_below (by (with_reducible repeat (first | apply Kd.R_alloc | apply Kd.R_drewN | apply Kd.R_drew)); exact (Kd.R_mono (Kd.R_far (p := ⟨gb330, 3, none⟩) (Kd.R_far (p := ⟨gb330, 2, none⟩) (Kd.R_far (p := ⟨gb330, 1, none⟩) (Kd.R_far (p := ⟨gb330, 0, none⟩) (Kd.R_types HO318.out BK330.out (by decide)) (fun _ hk => hk.2) (.bool t319)) (fun _ hk => hk.2) (.slice Ao63 t320.length co63)) (fun _ hk => hk.2) (.slice Ao64 t323.length co64)) (fun _ hk => hk.2) (.slice Ao65 t326.length co65)) (fun _ h_ => h_.1))) hb); replace HO322 := Aside0.mk (Kd.R_below (by (with_reducible repeat (first | apply Kd.R_alloc | apply Kd.R_drewN | apply Kd.R_drew)); exact (Kd.R_mono (Kd.R_far (p := ⟨gb330, 3, none⟩) (Kd.R_far (p := ⟨gb330, 2, none⟩) (Kd.R_far (p := ⟨gb330, 1, none⟩) (Kd.R_far (p := ⟨gb330, 0, none⟩) (Kd.R_types HO322.out BK330.out (by decide)) (fun _ hk => hk.2) (.bool t319)) (fun _ hk => hk.2) (.slice Ao63 t320.length co63)) (fun _ hk => hk.2) (.slice Ao64 t323.length co64)) (fun _ hk => hk.2) (.slice Ao65 t326.length co65)) (fun _ h_ => h_.1))) hb); replace HO325 := Aside0.mk (Kd.R_below (by (with_reducible repeat (first | apply Kd.R_alloc | apply Kd.R_drewN | apply Kd.R_drew)); exact (Kd.R_mono (Kd.R_far (p := ⟨gb330, 3, none⟩) (Kd.R_far (p := ⟨gb330, 2, none⟩) (Kd.R_far (p := ⟨gb330, 1, none⟩) (Kd.R_far (p := ⟨gb330, 0, none⟩) (Kd.R_types HO325.out BK330.out (by decide)) (fun _ hk => hk.2) (.bool t319)) (fun _ hk => hk.2) (.slice Ao63 t320.length co63)) (fun _ hk => hk.2) (.slice Ao64 t323.length co64)) (fun _ hk => hk.2) (.slice Ao65 t326.length co65)) (fun _ h_ => h_.1))) hb); replace HO328 := Aside0.mk (Kd.R_below (by (with_reducible repeat (first | apply Kd.R_alloc | apply Kd.R_drewN | apply Kd.R_drew)); exact (Kd.R_mono (Kd.R_far (p := ⟨gb330, 3, none⟩) (Kd.R_far (p := ⟨gb330, 2, none⟩) (Kd.R_far (p := ⟨gb330, 1, none⟩) (Kd.R_far (p := ⟨gb330, 0, none⟩) (Kd.R_types HO328.out BK330.out (by decide)) (fun _ hk => hk.2) (.bool t319)) (fun _ hk => hk.2) (.slice Ao63 t320.length co63)) (fun _ hk => hk.2) (.slice Ao64 t323.length co64)) (fun _ hk => hk.2) (.slice Ao65 t326.length co65)) (fun _ h_ => h_.1))) hb); replace BK288 := bB BK288 hb; replace BK295 := bB BK295 hb; replace BK315 := bB BK315 hb; replace BK330 := Aside0.mk (blk_below (g := gb330) (o := .cells #[.bool t319, .slice Ao63 t320.length co63, .slice Ao64 t323.length co64, .slice Ao65 t326.length co65] 36 (0, 0)) (bR BK330) hb); replace HB := bW HB hb; (try clear hb); (try clear hb2); (try clear hk); (try clear hi); obtain ⟨hcz68_0, hcz68_1, hcz68_2, hcz68_3, hfz68_0, hfz68_1, hfz68_2, hfz68_3⟩ := bf4 (w := w67) BK295) | (go_at_call 16; refine calls_of_args (args' := #[.agg #[.bool false, .slice none ([] : List (S62)).length 0, .slice Ao37 y289.length co37, .slice Ao36 y292.length co36]]) (by first | rfl | ((try simp only [List.map_toArray, List.map_cons, List.map_nil]); rfl)) ?_; (with_reducible refine (node_May.calls k false _ _ ([] : List (S62)) _ _ y289 _ _ y292 true _ ?side1 ?side2 ?side3 ?side4 ?side5 ?side6 A8.out).mono ?_); (case side1 => exact Kd.C_nil _ _); (case side2 => exact Nat.le_refl _); (case side3 => repeat (first | exact (Kd.R_reads' HO291.out).2.2 | (with_reducible refine Kd.C_alloc ?_ _) | (with_reducible refine Kd.C_drewN ?_ _) | (with_reducible refine Kd.C_drew ?_))); (case side4 => exact (Kd.R_reads' HO291.out).2.1); (case side5 => repeat (first | exact (Kd.R_reads' HO294.out).2.2 | (with_reducible refine Kd.C_alloc ?_ _) | (with_reducible refine Kd.C_drewN ?_ _) | (with_reducible refine Kd.C_drew ?_))); (case side6 => exact (Kd.R_reads' HO294.out).2.1); rintro e w69 ⟨rfl, hb⟩; replace HO287 := rB HO287 hb; replace HO291 := rB HO291 hb; replace HO294 := rB HO294 hb; replace HO298 := rB HO298 hb; replace HO302 := rB HO302 hb; replace HO307 := rB HO307 hb; replace HO310 := rB HO310 hb; replace HO313 := rB HO313 hb; replace HO318 := rB HO318 hb; replace HO322 := rB HO322 hb; replace HO325 := rB HO325 hb; replace HO328 := rB HO328 hb; replace BK288 := bB BK288 hb; replace BK295 := bB BK295 hb; replace BK315 := bB BK315 hb; replace BK330 := bB BK330 hb; replace HB := bW HB hb; (try clear hb); (try clear hb2); (try clear hk); (try clear hi)) | (go_at_call 16; refine calls_of_args (args' := #[.agg #[.bool false, .slice none ([] : List (S62)).length 0, .slice none ([] : List ByteArray).length 0, .slice none ([] : List Int).length 0]]) (by first | rfl | ((try simp only [List.map_toArray, List.map_cons, List.map_nil]); rfl)) ?_; (with_reducible refine (node_May.calls k false _ _ ([] : List (S62)) _ _ ([] : List ByteArray) _ _ ([] : List Int) false _ ?side1 ?side2 ?side3 ?side4 ?side5 ?side6 A10.out).mono ?_); (case side1 => exact Kd.C_nil _ _); (case side2 => exact Nat.le_refl _); (case side3 => exact Kd.C_nil _ _); (case side4 => exact Nat.le_refl _); (case side5 => exact Kd.C_nil _ _); (case side6 => exact Nat.le_refl _); rintro e w70 ⟨rfl, hb⟩; replace HO287 := rB HO287 hb; replace HO291 := rB HO291 hb; replace HO294 := rB HO294 hb; replace HO298 := rB HO298 hb; replace HO302 := rB HO302 hb; replace HO307 := rB HO307 hb; replace HO310 := rB HO310 hb; replace HO313 := rB HO313 hb; replace HO318 := rB HO318 hb; replace HO322 := rB HO322 hb; replace HO325 := rB HO325 hb; replace HO328 := rB HO328 hb; replace BK288 := bB BK288 hb; replace BK295 := bB BK295 hb; replace BK315 := bB BK315 hb; replace BK330 := bB BK330 hb; replace HB := bW HB hb; (try clear hb); (try clear hb2); (try clear hk); (try clear hi); obtain ⟨Ao71, co71, eo71⟩ := Kd.R_slice HO298.out; subst eo71; have p334 : 0 ≤ (0 : Int) := (by omega); have q334 : 0 < (t296.length : Int) := of_decide_eq_true (by first | (with_reducible assumption) | assumption); obtain ⟨ad334, e334, hx334_0⟩ := Kd.at_int (Kd.R_reads' HO298.out).2.2 0 p334 q334; cases e334; have qi334 : (0 < t296.length) = True := eq_true (by omega); (try rw [show ((0 : Int)).toNat = 0 from rfl] at hx334_0); (try rw [Addr.add_zero'] at hx334_0); replace p334 := eq_true p334; replace q334 := eq_true q334; obtain ⟨hcz72_0, hcz72_1, hcz72_2, hcz72_3, hfz72_0, hfz72_1, hfz72_2, hfz72_3⟩ := bf4 (w := w70) BK315; obtain ⟨hcz73_0, hcz73_1, hcz73_2, hcz73_3, hfz73_0, hfz73_1, hfz73_2, hfz73_3⟩ := bf4 (w := w70) BK295) | (go_at_call 20; refine calls_of_args (args' := #[.agg #[.bool false, .slice none ([] : List (S62)).length 0, .slice Ao37 y289.length co37, .slice Ao36 y292.length co36], .string (⟨#[107]⟩ : ByteArray)]) (by first | rfl | ((try simp only [List.map_toArray, List.map_cons, List.map_nil]); rfl)) ?_; (with_reducible refine (node_Kid.calls k false _ _ ([] : List (S62)) _ _ y289 _ _ y292 (⟨#[107]⟩ : ByteArray) t335 _ ?side1 ?side2 ?side3 ?side4 ?side5 ?side6 A20.out).mono ?_); (case side1 => exact Kd.C_nil _ _); (case side2 => exact Nat.le_refl _); (case side3 => repeat (first | exact (Kd.R_reads' HO291.out).2.2 | (with_reducible refine Kd.C_alloc ?_ _) | (with_reducible refine Kd.C_drewN ?_ _) | (with_reducible refine Kd.C_drew ?_))); (case side4 => exact (Kd.R_reads' HO291.out).2.1); (case side5 => repeat (first | exact (Kd.R_reads' HO294.out).2.2 | (with_reducible refine Kd.C_alloc ?_ _) | (with_reducible refine Kd.C_drewN ?_ _) | (with_reducible refine Kd.C_drew ?_))); (case side6 => exact (Kd.R_reads' HO294.out).2.1); rintro e w74 ⟨rfl, hb⟩; replace HO287 := rB HO287 hb; replace HO291 := rB HO291 hb; replace HO294 := rB HO294 hb; replace HO298 := rB HO298 hb; replace HO302 := rB HO302 hb; replace HO307 := rB HO307 hb; replace HO310 := rB HO310 hb; replace HO313 := rB HO313 hb; replace HO318 := rB HO318 hb; replace HO322 := rB HO322 hb; replace HO325 := rB HO325 hb; replace HO328 := rB HO328 hb; replace BK288 := bB BK288 hb; replace BK295 := bB BK295 hb; replace BK315 := bB BK315 hb; replace BK330 := bB BK330 hb; replace HB := bW HB hb; (try clear hb); (try clear hb2); (try clear hk); (try clear hi); obtain ⟨hcz75_0, hcz75_1, hcz75_2, hcz75_3, hfz75_0, hfz75_1, hfz75_2, hfz75_3⟩ := bf4 (w := w74) BK295) | (go_at_call 20; refine calls_of_args (args' := #[.agg #[.bool false, .slice none ([] : List (S62)).length 0, .slice Ao37 y289.length co37, .slice Ao36 y292.length co36], .string (⟨#[106]⟩ : ByteArray)]) (by first | rfl | ((try simp only [List.map_toArray, List.map_cons, List.map_nil]); rfl)) ?_; (with_reducible refine (node_Kid.calls k false _ _ ([] : List (S62)) _ _ y289 _ _ y292 (⟨#[106]⟩ : ByteArray) t336 _ ?side1 ?side2 ?side3 ?side4 ?side5 ?side6 A22.out).mono ?_); (case side1 => exact Kd.C_nil _ _); (case side2 => exact Nat.le_refl _); (case side3 => repeat (first | exact (Kd.R_reads' HO291.out).2.2 | (with_reducible refine Kd.C_alloc ?_ _) | (with_reducible refine Kd.C_drewN ?_ _) | (with_reducible refine Kd.C_drew ?_))); (case side4 => exact (Kd.R_reads' HO291.out).2.1); (case side5 => repeat (first | exact (Kd.R_reads' HO294.out).2.2 | (with_reducible refine Kd.C_alloc ?_ _) | (with_reducible refine Kd.C_drewN ?_ _) | (with_reducible refine Kd.C_drew ?_))); (case side6 => exact (Kd.R_reads' HO294.out).2.1); rintro e w76 ⟨rfl, hb⟩; replace HO287 := rB HO287 hb; replace HO291 := rB HO291 hb; replace HO294 := rB HO294 hb; replace HO298 := rB HO298 hb; replace HO302 := rB HO302 hb; replace HO307 := rB HO307 hb; replace HO310 := rB HO310 hb; replace HO313 := rB HO313 hb; replace HO318 := rB HO318 hb; replace HO322 := rB HO322 hb; replace HO325 := rB HO325 hb; replace HO328 := rB HO328 hb; replace BK288 := bB BK288 hb; replace BK295 := bB BK295 hb; replace BK315 := bB BK315 hb; replace BK330 := bB BK330 hb; replace HB := bW HB hb; (try clear hb); (try clear hb2); (try clear hk); (try clear hi); obtain ⟨hcz77_0, hcz77_1, hcz77_2, hcz77_3, hfz77_0, hfz77_1, hfz77_2, hfz77_3⟩ := bf4 (w := w76) BK288) | (go_at_call 20; refine calls_of_args (args' := #[.agg #[.bool true, .slice Ao29 y285.length co29, .slice none ([] : List ByteArray).length 0, .slice none ([] : List Int).length 0], .string (⟨#[106]⟩ : ByteArray)]) (by first | rfl | ((try simp only [List.map_toArray, List.map_cons, List.map_nil]); rfl)) ?_; (with_reducible refine (node_Kid.calls k true _ _ y285 _ _ ([] : List ByteArray) _ _ ([] : List Int) (⟨#[106]⟩ : ByteArray) t337 _ ?side1 ?side2 ?side3 ?side4 ?side5 ?side6 A24.out).mono ?_); (case side1 => repeat (first | exact (Kd.R_reads' HO287.out).2.2 | (with_reducible refine Kd.C_alloc ?_ _) | (with_reducible refine Kd.C_drewN ?_ _) | (with_reducible refine Kd.C_drew ?_))); (case side2 => exact (Kd.R_reads' HO287.out).2.1); (case side3 => exact Kd.C_nil _ _); (case side4 => exact Nat.le_refl _); (case side5 => exact Kd.C_nil _ _); (case side6 => exact Nat.le_refl _); rintro e w78 ⟨rfl, hb⟩; replace HO287 := rB HO287 hb; replace HO291 := rB HO291 hb; replace HO294 := rB HO294 hb; replace HO298 := rB HO298 hb; replace HO302 := rB HO302 hb; replace HO307 := rB HO307 hb; replace HO310 := rB HO310 hb; replace HO313 := rB HO313 hb; replace HO318 := rB HO318 hb; replace HO322 := rB HO322 hb; replace HO325 := rB HO325 hb; replace HO328 := rB HO328 hb; replace BK288 := bB BK288 hb; replace BK295 := bB BK295 hb; replace BK315 := bB BK315 hb; replace BK330 := bB BK330 hb; replace HB := bW HB hb; (try clear hb); (try clear hb2); (try clear hk); (try clear hi); obtain ⟨hcz79_0, hcz79_1, hcz79_2, hcz79_3, hfz79_0, hfz79_1, hfz79_2, hfz79_3⟩ := bf4 (w := w78) BK288) | (go_at_call 18; refine calls_of_args (args' := #[.agg #[.bool true, .slice Ao29 y285.length co29, .slice none ([] : List ByteArray).length 0, .slice none ([] : List Int).length 0]]) (by first | rfl | ((try simp only [List.map_toArray, List.map_cons, List.map_nil]); rfl)) ?_; (with_reducible refine (node_Size.calls k true _ _ y285 _ _ ([] : List ByteArray) _ _ ([] : List Int) t338 _ ?side1 ?side2 ?side3 ?side4 ?side5 ?side6 A26.out).mono ?_); (case side1 => repeat (first | exact (Kd.R_reads' HO287.out).2.2 | (with_reducible refine Kd.C_alloc ?_ _) | (with_reducible refine Kd.C_drewN ?_ _) | (with_reducible refine Kd.C_drew ?_))); (case side2 => exact (Kd.R_reads' HO287.out).2.1); (case side3 => exact Kd.C_nil _ _); (case side4 => exact Nat.le_refl _); (case side5 => exact Kd.C_nil _ _); (case side6 => exact Nat.le_refl _); rintro e w80 ⟨rfl, hb⟩; replace HO287 := rB HO287 hb; replace HO291 := rB HO291 hb; replace HO294 := rB HO294 hb; replace HO298 := rB HO298 hb; replace HO302 := rB HO302 hb; replace HO307 := rB HO307 hb; replace HO310 := rB HO310 hb; replace HO313 := rB HO313 hb; replace HO318 := rB HO318 hb; replace HO322 := rB HO322 hb; replace HO325 := rB HO325 hb; replace HO328 := rB HO328 hb; replace BK288 := bB BK288 hb; replace BK295 := bB BK295 hb; replace BK315 := bB BK315 hb; replace BK330 := bB BK330 hb; replace HB := bW HB hb; (try clear hb); (try clear hb2); (try clear hk); (try clear hi)))
 go_ret
 exact xB HB
def engrosslaw1_Cut.f (a0 : ByteArray) (a1 : Int) : Option (ByteArray) := if (a0.size : Int) > a1 then (if 0 ≤ a1 then (if a1 ≤ (a0.size : Int) then (some (a0.extract 0 (a1 : Int).toNat)) else (none)) else (none)) else (some a0)
set_option maxHeartbeats 8000000 in
set_option maxRecDepth 100000 in
theorem engrosslaw1_Cut.calls (a0 : ByteArray) (a1 : Int) (r : ByteArray) (w : World) (h : engrosslaw1_Cut.f a0 a1 = some r) :
  Calls Try.prog 13 #[.string a0, .int .i64 a1] w fun e w' => e = .returned (.string r) ∧ Drawn0 w w' := by
 have H : (if (a0.size : Int) > a1 then (if 0 ≤ a1 then (if a1 ≤ (a0.size : Int) then (some (a0.extract 0 (a1 : Int).toNat)) else (none)) else (none)) else (some a0)) = some r := h
 clear h
 by_cases c3 : (a0.size : Int) > a1
 rotate_left
 ·rw [if_neg c3] at H
  have c3b0 : decide (a1 < (a0.size : Int)) = false := decide_eq_false c3
  clear c3
  obtain rfl := Option.some.inj H
  go_enter Try.func13, Try.ntmps13
  go_wp2
  go_ret
  exact ⟨by first | rfl | (simp; done) | (simp [*]; done), by repeat (first | exact Drawn0.refl _ | apply Drawn0.step)⟩
 rw [if_pos c3] at H
 have c3b0 : decide (a1 < (a0.size : Int)) = true := decide_eq_true c3
 clear c3
 by_cases c4 : 0 ≤ a1
 rotate_left
 ·rw [if_neg c4] at H
  exact absurd H (by simp)
 rw [if_pos c4] at H
 have c4b0 := eq_true c4
 have c4b1 : decide (0 ≤ a1) = true := decide_eq_true c4
 clear c4
 by_cases c5 : a1 ≤ (a0.size : Int)
 rotate_left
 ·rw [if_neg c5] at H
  exact absurd H (by simp)
 rw [if_pos c5] at H
 have c5b0 := eq_true c5
 have c5b1 : decide (a1 ≤ (a0.size : Int)) = true := decide_eq_true c5
 clear c5
 obtain rfl := Option.some.inj H
 go_enter Try.func13, Try.ntmps13
 go_wp2
 go_ret
 exact ⟨by first | rfl | (simp; done) | (simp [*]; done), by repeat (first | exact Drawn0.refl _ | apply Drawn0.step)⟩
def engrosslaw10_Val.f (a0_0 : Int) (a0_1 : Nat) (a0_2 : ByteArray) : Option (Int × Nat × ByteArray) := (engrosslaw1_Cut.f a0_2 25).bind fun t341 => (some (a0_0, a0_1, t341))
set_option maxHeartbeats 8000000 in
set_option maxRecDepth 100000 in
theorem engrosslaw10_Val.calls (a0_0 : Int) (a0_1 : Nat) (a0_2 : ByteArray) (r1 : Int) (r2 : Nat) (r3 : ByteArray) (w : World) (h : engrosslaw10_Val.f a0_0 a0_1 a0_2 = some (r1, r2, r3)) :
  Calls Try.prog 45 #[.agg #[.int .i64 a0_0, .float .f64 a0_1, .string a0_2]] w fun e w' => e = .returned (.agg #[.int .i64 r1, .float .f64 r2, .string r3]) ∧ Below w.heap.size w w' := by
 have hu54 := Try.underlying54
 have HB := Aside0.mk (Below.refl w.heap.size w)
 have H : ((engrosslaw1_Cut.f a0_2 25).bind fun t341 => (some (a0_0, a0_1, t341))) = some (r1, r2, r3) := h
 clear h
 replace H := Option.bind_eq_some_iff.mp H
 obtain ⟨t341, A20, H⟩ := H
 replace H : (some (a0_0, a0_1, t341)) = some (r1, r2, r3) := H
 have A2 := Aside0.mk A20
 clear A20
 simp only [Option.some.injEq, Prod.mk.injEq] at H
 obtain ⟨rfl, rfl, rfl⟩ := H
 go_enter Try.func45, Try.ntmps45
 go_wp2_with (first | ((with_reducible refine gate_dst (N := 1) rfl ?_); refine box_event ?hg (N := 1) ?hd (cs := #[.int .i64 a0_0, .float .f64 a0_1, .string a0_2]) (t := 54) ?hr ?_; (case hd => rfl); (case hg => rfl); (case hr => first | (go_simp; done) | (go_simp; rfl)); intro gb339 hg w3 hbox hb; have BK339 := Aside0.mk (hbox); have GW339 := bZ HB hg; have GE339 := bZ HB hg; replace HB := bW HB hb; clear hb hbox hg) | ((with_reducible refine gate_dst (N := 2) rfl ?_); refine box_event ?hg (N := 2) ?hd (cs := #[.int .i64 0, .float .f64 0, .string (⟨#[]⟩ : ByteArray)]) (t := 54) ?hr ?_; (case hd => rfl); (case hg => rfl); (case hr => first | (go_simp; done) | (go_simp; rfl)); intro gb340 hg w4 hbox hb; have BK340 := Aside0.mk (hbox); have GW340 := bZ HB hg; have GE340 := bZ HB hg; have NB339_340 := bL BK339 hg; have NB340_339 := bG BK339 hg; replace BK339 := bB BK339 hb; replace HB := bW HB hb; clear hb hbox hg; have hnb5 := NB339_340.out; have hnc5 := NB340_339.out; obtain ⟨hcz6_0, hcz6_1, hcz6_2, hfz6_0, hfz6_1, hfz6_2⟩ := bf3 (w := w4) BK339) | ((with_reducible refine gate_callee (f := 13) rfl ?_); refine gL (some 5) Try.func13 #[.string a0_2, .int .i64 25] ?_; (with_reducible refine (engrosslaw1_Cut.calls a0_2 25 t341 _ A2.out).mono ?_); rintro e w' ⟨rfl, ⟨nd, rfl⟩⟩; refine ⟨_, rfl, ?_⟩; (try (rw [drewN_self w4]; generalize hq_ : World.drewN w4 _ = w4; have n0_ := bE BK339 hq_.symm; have n1_ := bE BK340 hq_.symm; have n2_ := bH HB hq_.symm; clear BK339 BK340 HB hq_; have BK339 := n0_; have BK340 := n1_; have HB := n2_; clear n0_ n1_ n2_)); obtain ⟨hcz7_0, hcz7_1, hcz7_2, hfz7_0, hfz7_1, hfz7_2⟩ := bf3 (w := w4) BK339; obtain ⟨hcz8_0, hcz8_1, hcz8_2, hfz8_0, hfz8_1, hfz8_2⟩ := bf3 (w := w4) BK340))
 refine bodyPost_ret (results_cell_row rfl _ _ gb340 54 #[.int .i64 a0_0, .float .f64 a0_1, .string t341] (0, 0) _ rfl (bR BK340) Try.underlying54 rfl (by kernel_rfl)) rfl ?_
 exact xB HB
def engrosslaw10_Cut.f (a0_0 : ByteArray) (a0_1 : Int) (a0_2 : Nat) (a0_3 : ByteArray) (a0_4 : Int) (a0_5 : Int) (a0_6 : Nat) (a0_7 : ByteArray) : Option (ByteArray × Int × Nat × ByteArray × Int × Int × Nat × ByteArray) := (engrosslaw1_Cut.f a0_0 20).bind fun t344 => ((engrosslaw10_Val.f a0_1 a0_2 a0_3).bind fun bt345 => ((engrosslaw10_Val.f a0_5 a0_6 a0_7).bind fun bt348 => (some (t344, bt345.1, bt345.2.1, bt345.2.2, a0_4, bt348.1, bt348.2.1, bt348.2.2))))
def engrosslaw10_Cut.T1 : Bool × List (List Nat × List Nat) := (true, [([], []), ([0], [0]), ([1], [1]), ([], []), ([3], [3]), ([4, 2], [4]), ([], []), ([6], [6]), ([7, 5], [7]), ([0, 1, 2, 3, 4, 6, 7], []), ([9, 2, 8, 0, 1, 2, 3, 4, 6, 7], [2, 9]), ([0, 1, 2, 3, 4, 5, 6, 7, 9, 10], []), ([11, 5, 10, 0, 1, 2, 3, 4, 5, 6, 7, 9, 10], [5, 11]), ([0, 1, 2, 3, 4, 5, 6, 7, 8, 9, 10, 11, 12], []), ([13, 8, 12, 0, 1, 2, 3, 4, 5, 6, 7, 8, 9, 10, 11, 12], [8, 13])])
def engrosslaw10_Cut.B1 : List Nat := [0, 1, 3, 0, 8, 31, 0, 64, 255, 223, 1023, 2047, 4095, 8191, 16383]
theorem engrosslaw10_Cut.tab1 : rtab .any (opsOf Try.f27 1) = engrosslaw10_Cut.T1 := by kernel_rfl
theorem engrosslaw10_Cut.bits1 : waitsOk engrosslaw10_Cut.T1.2 engrosslaw10_Cut.B1 = true := by kernel_rfl
set_option maxHeartbeats 8000000 in
set_option maxRecDepth 100000 in
theorem engrosslaw10_Cut.calls (a0_0 : ByteArray) (a0_1 : Int) (a0_2 : Nat) (a0_3 : ByteArray) (a0_4 : Int) (a0_5 : Int) (a0_6 : Nat) (a0_7 : ByteArray) (r1 : ByteArray) (r2 : Int) (r3 : Nat) (r4 : ByteArray) (r5 : Int) (r6 : Int) (r7 : Nat) (r8 : ByteArray) (w : World) (h : engrosslaw10_Cut.f a0_0 a0_1 a0_2 a0_3 a0_4 a0_5 a0_6 a0_7 = some (r1, r2, r3, r4, r5, r6, r7, r8)) :
  Calls Try.prog 27 #[.agg #[.string a0_0, .int .i64 a0_1, .float .f64 a0_2, .string a0_3, .int .i64 a0_4, .int .i64 a0_5, .float .f64 a0_6, .string a0_7]] w fun e w' => e = .returned (.agg #[.string r1, .int .i64 r2, .float .f64 r3, .string r4, .int .i64 r5, .int .i64 r6, .float .f64 r7, .string r8]) ∧ Below w.heap.size w w' := by
 have hu56 := Try.underlying56
 have hu54 := Try.underlying54
 have HB := Aside0.mk (Below.refl w.heap.size w)
 have H : ((engrosslaw1_Cut.f a0_0 20).bind fun t344 => ((engrosslaw10_Val.f a0_1 a0_2 a0_3).bind fun bt345 => ((engrosslaw10_Val.f a0_5 a0_6 a0_7).bind fun bt348 => (some (t344, bt345.1, bt345.2.1, bt345.2.2, a0_4, bt348.1, bt348.2.1, bt348.2.2))))) = some (r1, r2, r3, r4, r5, r6, r7, r8) := h
 clear h
 replace H := Option.bind_eq_some_iff.mp H
 obtain ⟨t344, A20, H⟩ := H
 replace H : ((engrosslaw10_Val.f a0_1 a0_2 a0_3).bind fun bt345 => ((engrosslaw10_Val.f a0_5 a0_6 a0_7).bind fun bt348 => (some (t344, bt345.1, bt345.2.1, bt345.2.2, a0_4, bt348.1, bt348.2.1, bt348.2.2)))) = some (r1, r2, r3, r4, r5, r6, r7, r8) := H
 have A2 := Aside0.mk A20
 clear A20
 replace H := Option.bind_eq_some_iff.mp H
 obtain ⟨⟨t345, t346, t347⟩, A30, H⟩ := H
 replace H : ((engrosslaw10_Val.f a0_5 a0_6 a0_7).bind fun bt348 => (some (t344, t345, t346, t347, a0_4, bt348.1, bt348.2.1, bt348.2.2))) = some (r1, r2, r3, r4, r5, r6, r7, r8) := H
 have A3 := Aside0.mk A30
 clear A30
 replace H := Option.bind_eq_some_iff.mp H
 obtain ⟨⟨t348, t349, t350⟩, A40, H⟩ := H
 replace H : (some (t344, t345, t346, t347, a0_4, t348, t349, t350)) = some (r1, r2, r3, r4, r5, r6, r7, r8) := H
 have A4 := Aside0.mk A40
 clear A40
 simp only [Option.some.injEq, Prod.mk.injEq] at H
 obtain ⟨rfl, rfl, rfl, rfl, rfl, rfl, rfl, rfl⟩ := H
 go_enter Try.func27, Try.ntmps27
 try go_wp2_with (first | ((with_reducible refine gate_dst (N := 1) rfl ?_); refine box_event ?hg (N := 1) ?hd (cs := #[.string a0_0, .int .i64 a0_1, .float .f64 a0_2, .string a0_3, .int .i64 a0_4, .int .i64 a0_5, .float .f64 a0_6, .string a0_7]) (t := 56) ?hr ?_; (case hd => rfl); (case hg => rfl); (case hr => first | (go_simp; done) | (go_simp; rfl)); intro gb342 hg w5 hbox hb; have BK342 := Aside0.mk (hbox); have GW342 := bZ HB hg; have GE342 := bZ HB hg; replace HB := bW HB hb; clear hb hbox hg) | ((with_reducible refine gate_dst (N := 2) rfl ?_); refine box_event ?hg (N := 2) ?hd (cs := #[.string (⟨#[]⟩ : ByteArray), .int .i64 0, .float .f64 0, .string (⟨#[]⟩ : ByteArray), .int .i64 0, .int .i64 0, .float .f64 0, .string (⟨#[]⟩ : ByteArray)]) (t := 56) ?hr ?_; (case hd => rfl); (case hg => rfl); (case hr => first | (go_simp; done) | (go_simp; rfl)); intro gb343 hg w6 hbox hb; have BK343 := Aside0.mk (hbox); have GW343 := bZ HB hg; have GE343 := bZ HB hg; have NB342_343 := bL BK342 hg; have NB343_342 := bG BK342 hg; replace BK342 := bB BK342 hb; replace HB := bW HB hb; clear hb hbox hg))
 replace BK342 := Aside0.mk (blk_drew BK342.out)
 replace BK343 := Aside0.mk (blk_drew BK343.out)
 replace HB := Aside0.mk (below_drew1 HB.out)
 refine start_ (n := 15) (S := fun w' => w'.cell? ⟨gb342, 0, none⟩ = some (.string a0_0) ∧ w'.cell? ⟨gb342, 1, none⟩ = some (.int .i64 a0_1) ∧ w'.cell? ⟨gb342, 2, none⟩ = some (.float .f64 a0_2) ∧ w'.cell? ⟨gb342, 3, none⟩ = some (.string a0_3) ∧ w'.cell? ⟨gb342, 4, none⟩ = some (.int .i64 a0_4) ∧ w'.cell? ⟨gb342, 5, none⟩ = some (.int .i64 a0_5) ∧ w'.cell? ⟨gb342, 6, none⟩ = some (.float .f64 a0_6) ∧ w'.cell? ⟨gb342, 7, none⟩ = some (.string a0_7)) (ds := [10, 12, 14]) #[false,false,false,false,false,false,false,false,false,false,false,false,false,false,false] (by kernel_rfl) rfl rfl (be8 BK342) (fun hHeld => ?_); refine with_tabW engrosslaw10_Cut.tab1 engrosslaw10_Cut.bits1 (fun HT_ HW_ => ?_)
 generalize w6.drew = w7 at BK342 BK343 HB hHeld ⊢
 refine pA 0 3 HT_ ?_
 refine pA 3 6 HT_ ?_
 refine pA 6 9 HT_ ?_
 refine tA 1 4 HT_ HW_ hHeld ?_ (hy := by rintro w' ⟨s0, s1, s2, s3, s4, s5, s6, s7⟩; go_simp; with_reducible rfl)
 refine tA 4 7 HT_ HW_ hHeld ?_ (hy := by rintro w' ⟨s0, s1, s2, s3, s4, s5, s6, s7⟩; go_simp; with_reducible rfl)
 refine tA 7 10 HT_ HW_ hHeld ?_ (hy := by rintro w' ⟨s0, s1, s2, s3, s4, s5, s6, s7⟩; go_simp; with_reducible rfl)
 refine oA 2 (some 5) HT_ (fun K hK => ?_)
 refine goes_ Try.func13 (by kernel_rfl) rfl #[.string a0_0, .int .i64 20] (by rfl) rfl rfl (by (try simp only [List.map_toArray, List.map_cons, List.map_nil]); first | done | rfl | (simp only [List.length_drop, List.length_take]; rfl)) ?_
 with_reducible refine (engrosslaw1_Cut.calls a0_0 20 t344 _ A2.out).mono ?_
 rintro e w' ⟨rfl, ⟨nd, rfl⟩⟩
 refine ⟨_, rfl, ?_⟩
 refine hK.out _ _ (be8 BK342) (fun hHeld => ?_)
 clear hK K
 refine norm_ (a' := ?_) ?_ ?_
 rotate_left
 ·show Act.put _ (some 5) _ = _
  simp only [Act.put, List.setIfInBounds_toArray, List.set_cons_zero, List.set_cons_succ, i64_w, i32_w]
  rfl
 refine pA 9 12 HT_ ?_
 refine oA 5 (some 8) HT_ (fun K hK => ?_)
 refine goes_ Try.func45 (by kernel_rfl) rfl #[.agg #[.int .i64 a0_1, .float .f64 a0_2, .string a0_3]] (by rfl) rfl rfl (by (try simp only [List.map_toArray, List.map_cons, List.map_nil]); first | done | rfl | (simp only [List.length_drop, List.length_take]; rfl)) ?_
 with_reducible refine (engrosslaw10_Val.calls a0_1 a0_2 a0_3 t345 t346 t347 _ A3.out).mono ?_
 rintro e w8 ⟨rfl, hb⟩
 refine ⟨_, rfl, ?_⟩
 replace BK342 := bB BK342 hb
 replace BK343 := bB BK343 hb
 replace HB := bW HB hb
 (try clear hb)
 (try clear hb2)
 (try clear hk)
 (try clear hi)
 refine hK.out _ _ (be8 BK342) (fun hHeld => ?_)
 clear hK K
 refine norm_ (a' := ?_) ?_ ?_
 rotate_left
 ·show Act.put _ (some 8) _ = _
  simp only [Act.put, List.setIfInBounds_toArray, List.set_cons_zero, List.set_cons_succ, i64_w, i32_w]
  rfl
 refine oA 8 (some 11) HT_ (fun K hK => ?_)
 refine goes_ Try.func45 (by kernel_rfl) rfl #[.agg #[.int .i64 a0_5, .float .f64 a0_6, .string a0_7]] (by rfl) rfl rfl (by (try simp only [List.map_toArray, List.map_cons, List.map_nil]); first | done | rfl | (simp only [List.length_drop, List.length_take]; rfl)) ?_
 with_reducible refine (engrosslaw10_Val.calls a0_5 a0_6 a0_7 t348 t349 t350 _ A4.out).mono ?_
 rintro e w9 ⟨rfl, hb⟩
 refine ⟨_, rfl, ?_⟩
 replace BK342 := bB BK342 hb
 replace BK343 := bB BK343 hb
 replace HB := bW HB hb
 (try clear hb)
 (try clear hb2)
 (try clear hk)
 (try clear hi)
 refine hK.out _ _ (be8 BK342) (fun hHeld => ?_)
 clear hK K
 refine norm_ (a' := ?_) ?_ ?_
 rotate_left
 ·show Act.put _ (some 11) _ = _
  simp only [Act.put, List.setIfInBounds_toArray, List.set_cons_zero, List.set_cons_succ, i64_w, i32_w]
  rfl
 refine last_ (i := 10) (N := none) #[true,true,true,true,true,true,true,true,true,true,true,false,false,false,false] rfl rfl (one_of HT_.out (by kernel_rfl)) (by decide) (fun K hK => ?_)
 have hs10 : w9.cell? ⟨gb342, 0, none⟩ = some (.string a0_0) := (blk_cell BK342.out 0).trans rfl
 have hfs10 := blk_frozen BK342.out 0
 have hns10_1 := NB343_342.out
 have hms10_1 := NB342_343.out
 with_reducible refine skip_ (w1 := ?_) (by with_unfolding_all rfl) (by with_unfolding_all rfl) ?_ ?_
 rotate_left
 ·go_simp
  rfl
 refine hK.out _ _ ?_
 clear hK K
 refine pA 11 13 HT_ ?_
 refine last_ (i := 12) (N := none) #[true,true,true,true,true,true,true,true,true,true,true,true,true,false,false] rfl rfl (one_of HT_.out (by kernel_rfl)) (by decide) (fun K hK => ?_)
 have hs11 : w9.cell? ⟨gb342, 1, none⟩ = some (.int .i64 a0_1) := (blk_cell BK342.out 1).trans rfl
 have hfs11 := blk_frozen BK342.out 1
 have hns11_1 := NB343_342.out
 have hms11_1 := NB342_343.out
 have hs12 : w9.cell? ⟨gb342, 2, none⟩ = some (.float .f64 a0_2) := (blk_cell BK342.out 2).trans rfl
 have hfs12 := blk_frozen BK342.out 2
 have hns12_1 := NB343_342.out
 have hms12_1 := NB342_343.out
 have hs13 : w9.cell? ⟨gb342, 3, none⟩ = some (.string a0_3) := (blk_cell BK342.out 3).trans rfl
 have hfs13 := blk_frozen BK342.out 3
 have hns13_1 := NB343_342.out
 have hms13_1 := NB342_343.out
 with_reducible refine skip_ (w1 := ?_) (by with_unfolding_all rfl) (by with_unfolding_all rfl) ?_ ?_
 rotate_left
 ·go_simp
  rfl
 refine hK.out _ _ ?_
 clear hK K
 refine pA 13 14 HT_ ?_
 refine last_ (i := 14) (N := none) #[true,true,true,true,true,true,true,true,true,true,true,true,true,true,true] rfl rfl (one_of HT_.out (by kernel_rfl)) (by decide) (fun K hK => ?_)
 have hs14 : w9.cell? ⟨gb342, 5, none⟩ = some (.int .i64 a0_5) := (blk_cell BK342.out 5).trans rfl
 have hfs14 := blk_frozen BK342.out 5
 have hns14_1 := NB343_342.out
 have hms14_1 := NB342_343.out
 have hs15 : w9.cell? ⟨gb342, 6, none⟩ = some (.float .f64 a0_6) := (blk_cell BK342.out 6).trans rfl
 have hfs15 := blk_frozen BK342.out 6
 have hns15_1 := NB343_342.out
 have hms15_1 := NB342_343.out
 have hs16 : w9.cell? ⟨gb342, 7, none⟩ = some (.string a0_7) := (blk_cell BK342.out 7).trans rfl
 have hfs16 := blk_frozen BK342.out 7
 have hns16_1 := NB343_342.out
 have hms16_1 := NB342_343.out
 with_reducible refine skip_ (w1 := ?_) (by with_unfolding_all rfl) (by with_unfolding_all rfl) ?_ ?_
 rotate_left
 ·go_simp
  rfl
 refine hK.out _ _ ?_
 clear hK K
 refine done_ (done_of HT_.out (by kernel_rfl)) ?_
 have hnb17 := NB342_343.out
 have hnc17 := NB343_342.out
 obtain ⟨hcz18_0, hcz18_1, hcz18_2, hcz18_3, hcz18_4, hcz18_5, hcz18_6, hcz18_7, hfz18_0, hfz18_1, hfz18_2, hfz18_3, hfz18_4, hfz18_5, hfz18_6, hfz18_7⟩ := bf8 (w := w9) BK342
 obtain ⟨hcz19_0, hcz19_1, hcz19_2, hcz19_3, hcz19_4, hcz19_5, hcz19_6, hcz19_7, hfz19_0, hfz19_1, hfz19_2, hfz19_3, hfz19_4, hfz19_5, hfz19_6, hfz19_7⟩ := bf8 (w := w9) BK343
 try go_wp2
 refine bodyPost_ret (results_cell_row rfl _ _ gb343 56 #[.string t344, .int .i64 t345, .float .f64 t346, .string t347, .int .i64 a0_4, .int .i64 t348, .float .f64 t349, .string t350] (0, 0) _ rfl (bR BK343) Try.underlying56 rfl (by kernel_rfl)) rfl ?_
 exact xB HB
end Go.Proofs.Ytmmjpieafbjggaa.P
end
section
namespace Go.Proofs.Ytmmjpieafbjggaa.P
open Go.RowKit Go.Proofs.YtmmjpieafbjggaaW.PrintWords Go.Proofs.YtmmjpieafbjggaaW.PrintLast Go.Proofs.YtmmjpieafbjggaaW.PrintMore
attribute [local go_sem] max2_int min2_int max_two min_two max_three min_three max_four min_four   -- for this text's walks alone
attribute [local go_sem] x_str_gtr x_str_leq x_str_geq ext_bits ext_frombits ext_neg x_store_float Instr.field asAgg
set_option linter.unusedVariables false
set_option linter.unusedSimpArgs false
mutual
def engrosslaw11_Cut.j1 : Nat → Bool → List (S56) → List ByteArray → List Int → Bool → List (S56) → Option (Bool × (List (S56)) × List ByteArray × List Int)
 | 0, _, _, _, _, _, _ => none
 | k + 1, x352000, x352001, x352002, x352003, x354000, x354001 => engrosslaw11_Cut.l1 k 0 x352000 x352001 x352002 x352003 x354000 x354001 ([] : List ByteArray)
def engrosslaw11_Cut.j3 : Nat → Bool → List (S56) → List ByteArray → List Int → Bool → List (S56) → List ByteArray → Option (Bool × (List (S56)) × List ByteArray × List Int)
 | 0, _, _, _, _, _, _, _ => none
 | k + 1, x352000, x352001, x352002, x352003, x354000, x354001, x354002 => engrosslaw11_Cut.l2 k 0 x352000 x352001 x352002 x352003 x354000 x354001 x354002 ([] : List Int)
def engrosslaw11_Cut.l2 : Nat → Int → Bool → List (S56) → List ByteArray → List Int → Bool → List (S56) → List ByteArray → List Int → Option (Bool × (List (S56)) × List ByteArray × List Int)
 | 0, _, _, _, _, _, _, _, _, _ => none
 | k + 1, x6, x352000, x352001, x352002, x352003, x354000, x354001, x354002, x354003 => if x6 < (x352003.length : Int) then (if x6 < 40 then (if 0 ≤ x6 then (if x354003.length < 17592186044416 then (engrosslaw11_Cut.l2 k (wrap64 (x6 + 1)) x352000 x352001 x352002 x352003 x354000 x354001 x354002 (x354003 ++ [rd x352003 x6])) else (none)) else (none)) else (some (x354000, x354001, x354002, x354003))) else (some (x354000, x354001, x354002, x354003))
def engrosslaw11_Cut.l1 : Nat → Int → Bool → List (S56) → List ByteArray → List Int → Bool → List (S56) → List ByteArray → Option (Bool × (List (S56)) × List ByteArray × List Int)
 | 0, _, _, _, _, _, _, _, _ => none
 | k + 1, x5, x352000, x352001, x352002, x352003, x354000, x354001, x354002 => if x5 < (x352002.length : Int) then (if x5 < 40 then (if 0 ≤ x5 then ((engrosslaw1_Cut.f (rdOf ByteArray.empty x352002 x5) 20).bind fun t367 => (if x354002.length < 8796093022208 then (engrosslaw11_Cut.l1 k (wrap64 (x5 + 1)) x352000 x352001 x352002 x352003 x354000 x354001 (x354002 ++ [t367])) else (none))) else (none)) else (engrosslaw11_Cut.j3 k x352000 x352001 x352002 x352003 x354000 x354001 x354002)) else (engrosslaw11_Cut.j3 k x352000 x352001 x352002 x352003 x354000 x354001 x354002)
def engrosslaw11_Cut.l0 : Nat → Int → Bool → List (S56) → List ByteArray → List Int → Bool → List (S56) → Option (Bool × (List (S56)) × List ByteArray × List Int)
 | 0, _, _, _, _, _, _, _ => none
 | k + 1, x4, x352000, x352001, x352002, x352003, x354000, x354001 => if x4 < (x352001.length : Int) then (if x4 < 40 then (if 0 ≤ x4 then ((engrosslaw10_Cut.f ((rd_T56 x352001 x4).f0) ((rd_T56 x352001 x4).f1.f0) ((rd_T56 x352001 x4).f1.f1) ((rd_T56 x352001 x4).f1.f2) ((rd_T56 x352001 x4).f2) ((rd_T56 x352001 x4).f3.f0) ((rd_T56 x352001 x4).f3.f1) ((rd_T56 x352001 x4).f3.f2)).bind fun bt355 => (if x354001.length < 1599289640401 then (engrosslaw11_Cut.l0 k (wrap64 (x4 + 1)) x352000 x352001 x352002 x352003 x354000 (x354001 ++ [(⟨bt355.1, (⟨bt355.2.1, bt355.2.2.1, bt355.2.2.2.1⟩ : S54), bt355.2.2.2.2.1, (⟨bt355.2.2.2.2.2.1, bt355.2.2.2.2.2.2.1, bt355.2.2.2.2.2.2.2⟩ : S54)⟩ : S56)])) else (none))) else (none)) else (engrosslaw11_Cut.j1 k x352000 x352001 x352002 x352003 x354000 x354001)) else (engrosslaw11_Cut.j1 k x352000 x352001 x352002 x352003 x354000 x354001)
end
def engrosslaw11_Cut.f (k : Nat) (a0_0 : Bool) (l0_1 : List (S56)) (l0_2 : List ByteArray) (l0_3 : List Int) : Option (Bool × (List (S56)) × List ByteArray × List Int) := engrosslaw11_Cut.l0 k 0 a0_0 l0_1 l0_2 l0_3 a0_0 ([] : List (S56))
def engrosslaw11_Cut.T5 : Bool × List (List Nat × List Nat) := (true, [([], []), ([0], [0]), ([], []), ([2], [2]), ([], []), ([3, 4], [3, 4]), ([5], [5]), ([6], [6]), ([7], [7]), ([1, 8, 7], [1, 8]), ([0, 1, 2, 3, 4, 5, 6, 7, 8, 9], []), ([10, 9, 9, 0, 1, 2, 3, 4, 5, 6, 7, 8, 9], [9, 10])])
def engrosslaw11_Cut.B5 : List Nat := [0, 1, 0, 4, 0, 28, 60, 124, 252, 511, 1023, 2047]
theorem engrosslaw11_Cut.tab5 : rtab .any (opsOf Try.f12 5) = engrosslaw11_Cut.T5 := by kernel_rfl
theorem engrosslaw11_Cut.bits5 : waitsOk engrosslaw11_Cut.T5.2 engrosslaw11_Cut.B5 = true := by kernel_rfl
def engrosslaw11_Cut.T9 : Bool × List (List Nat × List Nat) := (true, [([], []), ([0], [0]), ([], []), ([2], [2]), ([], []), ([3, 4], [3, 4]), ([5], [5]), ([6], [6]), ([7], [7]), ([1, 8, 7], [1, 8]), ([0, 1, 2, 3, 4, 5, 6, 7, 8, 9], []), ([10, 9, 9, 0, 1, 2, 3, 4, 5, 6, 7, 8, 9], [9, 10])])
def engrosslaw11_Cut.B9 : List Nat := [0, 1, 0, 4, 0, 28, 60, 124, 252, 511, 1023, 2047]
theorem engrosslaw11_Cut.tab9 : rtab .any (opsOf Try.f12 9) = engrosslaw11_Cut.T9 := by kernel_rfl
theorem engrosslaw11_Cut.bits9 : waitsOk engrosslaw11_Cut.T9.2 engrosslaw11_Cut.B9 = true := by kernel_rfl
def engrosslaw11_Cut.T13 : Bool × List (List Nat × List Nat) := (true, [([], []), ([0], [0]), ([], []), ([2], [2]), ([], []), ([3, 4], [3, 4]), ([5], [5]), ([6], [6]), ([1, 7], [1, 7]), ([0, 1, 2, 3, 4, 5, 6, 7, 8], []), ([9, 8, 8, 0, 1, 2, 3, 4, 5, 6, 7, 8], [8, 9])])
def engrosslaw11_Cut.B13 : List Nat := [0, 1, 0, 4, 0, 28, 60, 124, 255, 511, 1023]
theorem engrosslaw11_Cut.tab13 : rtab .any (opsOf Try.f12 13) = engrosslaw11_Cut.T13 := by kernel_rfl
theorem engrosslaw11_Cut.bits13 : waitsOk engrosslaw11_Cut.T13.2 engrosslaw11_Cut.B13 = true := by kernel_rfl
set_option maxHeartbeats 8000000 in
set_option maxRecDepth 100000 in
theorem engrosslaw11_Cut.calls (k : Nat) (a0_0 : Bool) (A0_1 : Option Addr) (c0_1 : Nat) (l0_1 : List (S56)) (A0_2 : Option Addr) (c0_2 : Nat) (l0_2 : List ByteArray) (A0_3 : Option Addr) (c0_3 : Nat) (l0_3 : List Int) (r1 : Bool) (r2 : List (S56)) (r3 : List ByteArray) (r4 : List Int) (w : World) (hr0_1 : Kd.C k56 w A0_1 l0_1.length l0_1) (hc0_1 : l0_1.length ≤ c0_1) (hr0_2 : Kd.C Kd.string w A0_2 l0_2.length l0_2) (hc0_2 : l0_2.length ≤ c0_2) (hr0_3 : Kd.C (Kd.int .i64) w A0_3 l0_3.length l0_3) (hc0_3 : l0_3.length ≤ c0_3) (h : engrosslaw11_Cut.f k a0_0 l0_1 l0_2 l0_3 = some (r1, r2, r3, r4)) :
  Calls Try.prog 12 #[.agg #[.bool a0_0, .slice A0_1 l0_1.length c0_1, .slice A0_2 l0_2.length c0_2, .slice A0_3 l0_3.length c0_3]] w fun e w' => ∃ v1_ v2_ v3_ : Value, e = .returned (.agg #[.bool r1, v1_, v2_, v3_]) ∧ Kd.R k56 56 w' w.heap.size (fun _ => True) v1_ r2 ∧ Kd.R Kd.string 9 w' w.heap.size (fun _ => True) v2_ r3 ∧ Kd.R (Kd.int .i64) 3 w' w.heap.size (fun _ => True) v3_ r4 ∧ Below w.heap.size w w' := by
 have hu26 := Try.underlying26
 have hu56 := Try.underlying56
 have HR0_1 := Aside0.mk hr0_1
 have HC0_1 := Aside0.mk hc0_1
 clear hr0_1 hc0_1
 have HR0_2 := Aside0.mk hr0_2
 have HC0_2 := Aside0.mk hc0_2
 clear hr0_2 hc0_2
 have HR0_3 := Aside0.mk hr0_3
 have HC0_3 := Aside0.mk hc0_3
 clear hr0_3 hc0_3
 have HB := Aside0.mk (Below.refl w.heap.size w)
 have H : (engrosslaw11_Cut.l0 k 0 a0_0 l0_1 l0_2 l0_3 a0_0 ([] : List (S56))) = some (r1, r2, r3, r4) := h
 clear h
 have HC2 := Aside0.mk H
 clear H
 go_enter Try.func12, Try.ntmps12
 go_upto_block 0 with (first | ((with_reducible refine gate_dst (N := 1) rfl ?_); refine box_event ?hg (N := 1) ?hd (cs := #[.bool a0_0, .slice A0_1 l0_1.length c0_1, .slice A0_2 l0_2.length c0_2, .slice A0_3 l0_3.length c0_3]) (t := 26) ?hr ?_; (case hd => rfl); (case hg => rfl); (case hr => first | (go_simp; done) | (go_simp; rfl)); intro gb351 hg w3 hbox hb; have BK351 := Aside0.mk (hbox); have GW351 := bZ HB hg; have GE351 := bZ HB hg; replace HB := bW HB hb; clear hb hbox hg) | ((with_reducible refine gate_dst (N := 2) rfl ?_); refine box_event ?hg (N := 2) ?hd (cs := #[.bool false, .slice none 0 0, .slice none 0 0, .slice none 0 0]) (t := 26) ?hr ?_; (case hd => rfl); (case hg => rfl); (case hr => first | (go_simp; done) | (go_simp; rfl)); intro gb352 hg w4 hbox hb; have BK352 := Aside0.mk (hbox); have GW352 := bZ HB hg; have GE352 := bZ HB hg; have NB351_352 := bL BK351 hg; have NB352_351 := bG BK351 hg; replace BK351 := bB BK351 hb; replace HB := bW HB hb; clear hb hbox hg; have hnb5 := NB351_352.out; have hnc5 := NB352_351.out; obtain ⟨hcz6_0, hcz6_1, hcz6_2, hcz6_3, hfz6_0, hfz6_1, hfz6_2, hfz6_3⟩ := bf4 (w := w4) BK351) | ((with_reducible refine gate_dst (N := 3) rfl ?_); refine box_event ?hg (N := 3) ?hd (cs := #[.bool false, .slice none 0 0, .slice none 0 0, .slice none 0 0]) (t := 26) ?hr ?_; (case hd => rfl); (case hg => rfl); (case hr => first | (go_simp; done) | (go_simp; rfl)); intro gb353 hg w7 hbox hb; have BK353 := Aside0.mk (hbox); have GW353 := bZ HB hg; have GE353 := bZ HB hg; have NB351_353 := bL BK351 hg; have NB353_351 := bG BK351 hg; have NB352_353 := bL BK352 hg; have NB353_352 := bG BK352 hg; replace BK351 := bB BK351 hb; replace BK352 := bB BK352 hb; replace HB := bW HB hb; clear hb hbox hg; have hnb8 := NB353_351.out; have hnc8 := NB351_353.out; have hnb9 := NB353_352.out; have hnc9 := NB352_353.out; obtain ⟨hcz10_0, hcz10_1, hcz10_2, hcz10_3, hfz10_0, hfz10_1, hfz10_2, hfz10_3⟩ := bf4 (w := w7) BK353))
 (try simp only [Act.put, List.setIfInBounds_toArray, List.set_cons_zero, List.set_cons_succ])
 go_cut [] (fun wc => ∃ (kq : Nat) (x354001_1 : List (S56)) (u354001 : Value), Aside0 (engrosslaw11_Cut.j1 kq a0_0 l0_1 l0_2 l0_3 a0_0 x354001_1 = some (r1, r2, r3, r4)) ∧ Aside0 (kq ≤ k) ∧ Aside0 (Kd.R k56 56 wc w.heap.size (fun _ => True) u354001 x354001_1) ∧ Aside0 (wc.heap[gb351]? = some (.cells #[.bool a0_0, (.slice A0_1 l0_1.length c0_1), (.slice A0_2 l0_2.length c0_2), (.slice A0_3 l0_3.length c0_3)] 26 (0, 0))) ∧ Aside0 (wc.heap[gb352]? = some (.cells #[.bool false, (.slice none 0 0), (.slice none 0 0), (.slice none 0 0)] 26 (0, 0))) ∧ Aside0 (wc.heap[gb353]? = some (.cells #[.bool a0_0, u354001, (.slice none 0 0), (.slice none 0 0)] 26 (0, 0))) ∧ Aside0 (Below w.heap.size w wc))
 case first =>
  have H := HC2.out
  clear HC2
  have H' := Aside0.mk H
  clear H
  go_wp2
  go_loopg [4] k (fun kq v4 w' => ∃ (x4_1 : Int) (x354001_1 : List (S56)) (u354001 : Value), v4 = .int .i64 x4_1 ∧ Aside0 (engrosslaw11_Cut.l0 kq x4_1 a0_0 l0_1 l0_2 l0_3 a0_0 x354001_1 = some (r1, r2, r3, r4)) ∧ Aside0 (kq ≤ k) ∧ Aside0 (Kd.R k56 56 w' w.heap.size (fun _ => True) u354001 x354001_1) ∧ Aside0 (w'.heap[gb351]? = some (.cells #[.bool a0_0, (.slice A0_1 l0_1.length c0_1), (.slice A0_2 l0_2.length c0_2), (.slice A0_3 l0_3.length c0_3)] 26 (0, 0))) ∧ Aside0 (w'.heap[gb352]? = some (.cells #[.bool false, (.slice none 0 0), (.slice none 0 0), (.slice none 0 0)] 26 (0, 0))) ∧ Aside0 (w'.heap[gb353]? = some (.cells #[.bool a0_0, u354001, (.slice none 0 0), (.slice none 0 0)] 26 (0, 0))) ∧ Aside0 (Below w.heap.size w w'))
  case atStart => exact ⟨(0), (([] : List (S56))), (.slice none 0 0), (by first | rfl | (simp; done) | (simp [*]; done)), H', ⟨Nat.le_refl _⟩, ⟨by first | exact Kd.R_nil _ _ _ _ _ | exact Kd.N_nil _ _ _ _ _ | exact Kd.V_nil _ _ _ _ _ | exact Kd.Q_nil _ _ _ _ _ | exact Kd.S_nil _ _ _ _ _⟩, ⟨by (with_reducible repeat (first | refine blk_drewN ?_ _ | refine blk_drew ?_ | refine blk_alloc ?_ _)); refine blk_far ?_ NB351_353.out _; (with_reducible repeat (first | refine blk_drewN ?_ _ | refine blk_drew ?_ | refine blk_alloc ?_ _)); refine blk_far ?_ NB351_353.out _; (with_reducible repeat (first | refine blk_drewN ?_ _ | refine blk_drew ?_ | refine blk_alloc ?_ _)); refine blk_far ?_ NB351_353.out _; (with_reducible repeat (first | refine blk_drewN ?_ _ | refine blk_drew ?_ | refine blk_alloc ?_ _)); refine blk_far ?_ NB351_353.out _; (with_reducible repeat (first | refine blk_drewN ?_ _ | refine blk_drew ?_ | refine blk_alloc ?_ _)); exact BK351.out⟩, ⟨by (with_reducible repeat (first | refine blk_drewN ?_ _ | refine blk_drew ?_ | refine blk_alloc ?_ _)); refine blk_far ?_ NB352_353.out _; (with_reducible repeat (first | refine blk_drewN ?_ _ | refine blk_drew ?_ | refine blk_alloc ?_ _)); refine blk_far ?_ NB352_353.out _; (with_reducible repeat (first | refine blk_drewN ?_ _ | refine blk_drew ?_ | refine blk_alloc ?_ _)); refine blk_far ?_ NB352_353.out _; (with_reducible repeat (first | refine blk_drewN ?_ _ | refine blk_drew ?_ | refine blk_alloc ?_ _)); refine blk_far ?_ NB352_353.out _; (with_reducible repeat (first | refine blk_drewN ?_ _ | refine blk_drew ?_ | refine blk_alloc ?_ _)); exact BK352.out⟩, ⟨by (with_reducible repeat (first | refine blk_drewN ?_ _ | refine blk_drew ?_ | refine blk_alloc ?_ _)); refine blk_put (cs := #[.bool a0_0, .slice none 0 0, .slice none 0 0, .slice none 0 0]) ?_ 3 _ rfl; (with_reducible repeat (first | refine blk_drewN ?_ _ | refine blk_drew ?_ | refine blk_alloc ?_ _)); refine blk_put (cs := #[.bool a0_0, .slice none 0 0, .slice none 0 0, .slice none 0 0]) ?_ 2 _ rfl; (with_reducible repeat (first | refine blk_drewN ?_ _ | refine blk_drew ?_ | refine blk_alloc ?_ _)); refine blk_put (cs := #[.bool a0_0, .slice none 0 0, .slice none 0 0, .slice none 0 0]) ?_ 1 _ rfl; (with_reducible repeat (first | refine blk_drewN ?_ _ | refine blk_drew ?_ | refine blk_alloc ?_ _)); refine blk_put (cs := #[.bool false, .slice none 0 0, .slice none 0 0, .slice none 0 0]) ?_ 0 _ rfl; (with_reducible repeat (first | refine blk_drewN ?_ _ | refine blk_drew ?_ | refine blk_alloc ?_ _)); exact BK353.out⟩, ⟨by repeat (first | (with_reducible first | exact HB.out | apply below_alloc | apply pw_below_drewN | apply below_drew1 | refine below_set ?_ GE351.out | refine below_set ?_ GE352.out | refine below_set ?_ GE353.out) | exact HB.out)⟩⟩
  case round =>
   clear H'
   try clear c1
   try clear p2
   try clear c5
   try clear c8
   try clear c9
   try clear hcz10_0
   try clear hcz10_1
   try clear hcz10_2
   try clear hcz10_3
   try clear hcz6_0
   try clear hcz6_1
   try clear hcz6_2
   try clear hcz6_3
   try clear hfz10_0
   try clear hfz10_1
   try clear hfz10_2
   try clear hfz10_3
   try clear hfz6_0
   try clear hfz6_1
   try clear hfz6_2
   try clear hfz6_3
   obtain ⟨x4_1, x354001_1, u354001, rfl, HA, HK1, HO_354001, BK351, BK352, BK353, HB⟩ := hrel
   cases gk with
   | zero => exact absurd HA.out (by simp [engrosslaw11_Cut.l0])
   | succ k1 =>
    have H := HA.out
    clear HA
    simp only [engrosslaw11_Cut.l0] at H
    by_cases c11 : x4_1 < (l0_1.length : Int)
    rotate_left
    ·rw [if_neg c11] at H
     have c11b0 : decide (x4_1 < (l0_1.length : Int)) = false := decide_eq_false c11
     clear c11
     (first | rw [c11b0] | (simp only [i64_w, i32_w]; rw [c11b0]) | skip)
     have H' := Aside0.mk H
     clear H
     have hnb27 := NB351_352.out
     have hnc27 := NB352_351.out
     have hnb28 := NB351_353.out
     have hnc28 := NB353_351.out
     obtain ⟨hcz29_0, hcz29_1, hcz29_2, hcz29_3, hfz29_0, hfz29_1, hfz29_2, hfz29_3⟩ := bf4 (w := wr) BK351
     go_wp2
     go_meet
     case rel => exact ⟨_, (x354001_1), (u354001), H', ⟨by have := HK1.out; first | omega | exact Nat.le_refl _⟩, ⟨by (with_reducible repeat (first | apply Kd.R_alloc | apply Kd.R_drewN | apply Kd.R_drew)); exact HO_354001.out⟩, ⟨by (with_reducible repeat (first | refine blk_drewN ?_ _ | refine blk_drew ?_ | refine blk_alloc ?_ _)); exact BK351.out⟩, ⟨by (with_reducible repeat (first | refine blk_drewN ?_ _ | refine blk_drew ?_ | refine blk_alloc ?_ _)); exact BK352.out⟩, ⟨by (with_reducible repeat (first | refine blk_drewN ?_ _ | refine blk_drew ?_ | refine blk_alloc ?_ _)); exact BK353.out⟩, ⟨by repeat (first | (with_reducible first | exact HB.out | apply below_alloc | apply pw_below_drewN | apply below_drew1 | refine below_set ?_ GE351.out | refine below_set ?_ GE352.out | refine below_set ?_ GE353.out) | exact HB.out)⟩⟩
    rw [if_pos c11] at H
    have c11b0 : decide (x4_1 < (l0_1.length : Int)) = true := decide_eq_true c11
    clear c11
    (first | rw [c11b0] | (simp only [i64_w, i32_w]; rw [c11b0]) | skip)
    by_cases c12 : x4_1 < 40
    rotate_left
    ·rw [if_neg c12] at H
     have c12b0 : decide (x4_1 < 40) = false := decide_eq_false c12
     clear c12
     have H' := Aside0.mk H
     clear H
     have hnb24 := NB351_352.out
     have hnc24 := NB352_351.out
     have hnb25 := NB351_353.out
     have hnc25 := NB353_351.out
     obtain ⟨hcz26_0, hcz26_1, hcz26_2, hcz26_3, hfz26_0, hfz26_1, hfz26_2, hfz26_3⟩ := bf4 (w := wr) BK351
     go_wp2
     go_meet
     case rel => exact ⟨_, (x354001_1), (u354001), H', ⟨by have := HK1.out; first | omega | exact Nat.le_refl _⟩, ⟨by (with_reducible repeat (first | apply Kd.R_alloc | apply Kd.R_drewN | apply Kd.R_drew)); exact HO_354001.out⟩, ⟨by (with_reducible repeat (first | refine blk_drewN ?_ _ | refine blk_drew ?_ | refine blk_alloc ?_ _)); exact BK351.out⟩, ⟨by (with_reducible repeat (first | refine blk_drewN ?_ _ | refine blk_drew ?_ | refine blk_alloc ?_ _)); exact BK352.out⟩, ⟨by (with_reducible repeat (first | refine blk_drewN ?_ _ | refine blk_drew ?_ | refine blk_alloc ?_ _)); exact BK353.out⟩, ⟨by repeat (first | (with_reducible first | exact HB.out | apply below_alloc | apply pw_below_drewN | apply below_drew1 | refine below_set ?_ GE351.out | refine below_set ?_ GE352.out | refine below_set ?_ GE353.out) | exact HB.out)⟩⟩
    rw [if_pos c12] at H
    have c12b0 : decide (x4_1 < 40) = true := decide_eq_true c12
    clear c12
    by_cases c13 : 0 ≤ x4_1
    rotate_left
    ·rw [if_neg c13] at H
     exact absurd H (by simp)
    rw [if_pos c13] at H
    have c13b0 : decide (0 ≤ x4_1) = true := decide_eq_true c13
    clear c13
    replace H := Option.bind_eq_some_iff.mp H
    obtain ⟨⟨t355, t356, t357, t358, t359, t360, t361, t362⟩, A140, H⟩ := H
    replace H : (if x354001_1.length < 1599289640401 then (engrosslaw11_Cut.l0 k1 (wrap64 (x4_1 + 1)) a0_0 l0_1 l0_2 l0_3 a0_0 (x354001_1 ++ [(⟨t355, (⟨t356, t357, t358⟩ : S54), t359, (⟨t360, t361, t362⟩ : S54)⟩ : S56)])) else (none)) = some (r1, r2, r3, r4) := H
    have A14 := Aside0.mk A140
    clear A140
    by_cases c15 : x354001_1.length < 1599289640401
    rotate_left
    ·rw [if_neg c15] at H
     exact absurd H (by simp)
    rw [if_pos c15] at H
    have LMc15 := Aside0.mk c15
    clear c15
    obtain ⟨y363, hy363⟩ : ∃ y_ : List (S56), y_ = (x354001_1 ++ [(⟨t355, (⟨t356, t357, t358⟩ : S54), t359, (⟨t360, t361, t362⟩ : S54)⟩ : S56)]) := ⟨_, rfl⟩
    replace H : (engrosslaw11_Cut.l0 k1 (wrap64 (x4_1 + 1)) a0_0 l0_1 l0_2 l0_3 a0_0 y363) = some (r1, r2, r3, r4) := by first | (rw [hy363]; with_reducible exact H) | (have H2_ := (Option.bind_some _ _).symm.trans H; rw [hy363]; with_reducible exact H2_) | (have H2_ := (Option.bind_some _ _).symm.trans H; with_reducible exact H2_) | with_reducible exact H | (rw [hy363]; exact H) | exact H
    have Ny363 := Aside0.mk hy363
    clear hy363
    have H' := Aside0.mk H
    clear H
    have hnb16 := NB351_352.out
    have hnc16 := NB352_351.out
    have hnb17 := NB351_353.out
    have hnc17 := NB353_351.out
    obtain ⟨hcz18_0, hcz18_1, hcz18_2, hcz18_3, hfz18_0, hfz18_1, hfz18_2, hfz18_3⟩ := bf4 (w := wr) BK351
    try go_wp2
    replace HO_354001 := Aside0.mk (Kd.R_drew HO_354001.out)
    replace BK351 := Aside0.mk (blk_drew BK351.out)
    replace BK352 := Aside0.mk (blk_drew BK352.out)
    replace BK353 := Aside0.mk (blk_drew BK353.out)
    replace HB := Aside0.mk (below_drew1 HB.out)
    have p354 : 0 ≤ (x4_1 : Int) := of_decide_eq_true (by first | (with_reducible assumption) | assumption)
    have q354 : x4_1 < (l0_1.length : Int) := of_decide_eq_true (by first | (with_reducible assumption) | assumption)
    obtain ⟨ad354, e354, hx354_0, hx354_1, hx354_2, hx354_3, hx354_4, hx354_5, hx354_6, hx354_7⟩ := at_T56 HR0_1.out x4_1 p354 q354
    have hw354_7 := hx354_7
    have hw354_6 := hx354_6
    have hw354_5 := hx354_5
    have hw354_4 := hx354_4
    have hw354_3 := hx354_3
    have hw354_2 := hx354_2
    have hw354_1 := hx354_1
    have hw354_0 := hx354_0
    cases e354
    replace hx354_0 := (HB.out.cell (World.block_lt_of_cell? w _ hx354_0)).trans hx354_0
    replace hx354_1 := (HB.out.cell (World.block_lt_of_cell? w _ hx354_1)).trans hx354_1
    replace hx354_2 := (HB.out.cell (World.block_lt_of_cell? w _ hx354_2)).trans hx354_2
    replace hx354_3 := (HB.out.cell (World.block_lt_of_cell? w _ hx354_3)).trans hx354_3
    replace hx354_4 := (HB.out.cell (World.block_lt_of_cell? w _ hx354_4)).trans hx354_4
    replace hx354_5 := (HB.out.cell (World.block_lt_of_cell? w _ hx354_5)).trans hx354_5
    replace hx354_6 := (HB.out.cell (World.block_lt_of_cell? w _ hx354_6)).trans hx354_6
    replace hx354_7 := (HB.out.cell (World.block_lt_of_cell? w _ hx354_7)).trans hx354_7
    replace p354 := eq_true p354
    replace q354 := eq_true q354
    refine start_ (n := 12) (S := fun w' => w'.cell? ⟨gb353, 0, none⟩ = some (.bool a0_0) ∧ w'.cell? ⟨gb353, 1, none⟩ = some (u354001) ∧ w'.cell? ⟨gb353, 2, none⟩ = some (.slice none 0 0) ∧ w'.cell? ⟨gb353, 3, none⟩ = some (.slice none 0 0) ∧ w'.cell? ⟨gb351, 0, none⟩ = some (.bool a0_0) ∧ w'.cell? ⟨gb351, 1, none⟩ = some (.slice (some ad354) l0_1.length c0_1) ∧ w'.cell? ⟨gb351, 2, none⟩ = some (.slice A0_2 l0_2.length c0_2) ∧ w'.cell? ⟨gb351, 3, none⟩ = some (.slice A0_3 l0_3.length c0_3) ∧ w'.cell? (ad354.add ((x4_1).toNat * 8)) = some (.string ((rd_T56 l0_1 x4_1).f0)) ∧ w'.cell? ⟨(ad354.add ((x4_1).toNat * 8)).block, (ad354.add ((x4_1).toNat * 8)).off + 1, none⟩ = some (.int .i64 ((rd_T56 l0_1 x4_1).f1.f0)) ∧ w'.cell? ⟨(ad354.add ((x4_1).toNat * 8)).block, (ad354.add ((x4_1).toNat * 8)).off + 2, none⟩ = some (.float .f64 ((rd_T56 l0_1 x4_1).f1.f1)) ∧ w'.cell? ⟨(ad354.add ((x4_1).toNat * 8)).block, (ad354.add ((x4_1).toNat * 8)).off + 3, none⟩ = some (.string ((rd_T56 l0_1 x4_1).f1.f2)) ∧ w'.cell? ⟨(ad354.add ((x4_1).toNat * 8)).block, (ad354.add ((x4_1).toNat * 8)).off + 4, none⟩ = some (.int .i64 ((rd_T56 l0_1 x4_1).f2)) ∧ w'.cell? ⟨(ad354.add ((x4_1).toNat * 8)).block, (ad354.add ((x4_1).toNat * 8)).off + 5, none⟩ = some (.int .i64 ((rd_T56 l0_1 x4_1).f3.f0)) ∧ w'.cell? ⟨(ad354.add ((x4_1).toNat * 8)).block, (ad354.add ((x4_1).toNat * 8)).off + 6, none⟩ = some (.float .f64 ((rd_T56 l0_1 x4_1).f3.f1)) ∧ w'.cell? ⟨(ad354.add ((x4_1).toNat * 8)).block, (ad354.add ((x4_1).toNat * 8)).off + 7, none⟩ = some (.string ((rd_T56 l0_1 x4_1).f3.f2))) (ds := [11]) #[false,false,false,false,false,false,false,false,false,false,false,false] (by kernel_rfl) rfl rfl (bn4 BK353 (bn4 BK351 ⟨((HB.out.cell (World.block_lt_of_cell? w _ hw354_0)).trans hw354_0), ((HB.out.cell (World.block_lt_of_cell? w _ hw354_1)).trans hw354_1), ((HB.out.cell (World.block_lt_of_cell? w _ hw354_2)).trans hw354_2), ((HB.out.cell (World.block_lt_of_cell? w _ hw354_3)).trans hw354_3), ((HB.out.cell (World.block_lt_of_cell? w _ hw354_4)).trans hw354_4), ((HB.out.cell (World.block_lt_of_cell? w _ hw354_5)).trans hw354_5), ((HB.out.cell (World.block_lt_of_cell? w _ hw354_6)).trans hw354_6), ((HB.out.cell (World.block_lt_of_cell? w _ hw354_7)).trans hw354_7)⟩)) (fun hHeld => ?_); refine with_tabW engrosslaw11_Cut.tab5 engrosslaw11_Cut.bits5 (fun HT_ HW_ => ?_)
    generalize wr.drew = w19 at HO_354001 BK351 BK352 BK353 HB hx354_0 hx354_1 hx354_2 hx354_3 hx354_4 hx354_5 hx354_6 hx354_7 hHeld ⊢
    refine pA 0 21 HT_ ?_
    refine pA 2 23 HT_ ?_
    refine pA 4 25 HT_ ?_
    refine tA 1 22 HT_ HW_ hHeld ?_ (hy := by rintro w' ⟨s0, s1, s2, s3, s4, s5, s6, s7, s8, s9, s10, s11, s12, s13, s14, s15⟩; go_simp; with_reducible rfl)
    refine tA 3 24 HT_ HW_ hHeld ?_ (hy := by rintro w' ⟨s0, s1, s2, s3, s4, s5, s6, s7, s8, s9, s10, s11, s12, s13, s14, s15⟩; go_simp; with_reducible rfl)
    refine pA 5 26 HT_ ?_
    refine tA 6 27 HT_ HW_ hHeld ?_ (hy := by rintro w' ⟨s0, s1, s2, s3, s4, s5, s6, s7, s8, s9, s10, s11, s12, s13, s14, s15⟩; go_simp; with_reducible rfl)
    refine oA 7 (some 28) HT_ (fun K hK => ?_)
    refine goes_ Try.func27 (by kernel_rfl) rfl #[.agg #[.string ((rd_T56 l0_1 x4_1).f0), .int .i64 ((rd_T56 l0_1 x4_1).f1.f0), .float .f64 ((rd_T56 l0_1 x4_1).f1.f1), .string ((rd_T56 l0_1 x4_1).f1.f2), .int .i64 ((rd_T56 l0_1 x4_1).f2), .int .i64 ((rd_T56 l0_1 x4_1).f3.f0), .float .f64 ((rd_T56 l0_1 x4_1).f3.f1), .string ((rd_T56 l0_1 x4_1).f3.f2)]] (by rfl) rfl rfl (by (try simp only [List.map_toArray, List.map_cons, List.map_nil]); first | done | rfl | (simp only [List.length_drop, List.length_take]; rfl)) ?_
    with_reducible refine (engrosslaw10_Cut.calls ((rd_T56 l0_1 x4_1).f0) ((rd_T56 l0_1 x4_1).f1.f0) ((rd_T56 l0_1 x4_1).f1.f1) ((rd_T56 l0_1 x4_1).f1.f2) ((rd_T56 l0_1 x4_1).f2) ((rd_T56 l0_1 x4_1).f3.f0) ((rd_T56 l0_1 x4_1).f3.f1) ((rd_T56 l0_1 x4_1).f3.f2) t355 t356 t357 t358 t359 t360 t361 t362 _ A14.out).mono ?_
    rintro e w20 ⟨rfl, hb⟩
    refine ⟨_, rfl, ?_⟩
    replace HO_354001 := rB HO_354001 hb
    replace BK351 := bB BK351 hb
    replace BK352 := bB BK352 hb
    replace BK353 := bB BK353 hb
    replace HB := bW HB hb
    (try clear hb)
    (try clear hb2)
    (try clear hk)
    (try clear hi)
    refine hK.out _ _ (bn4 BK353 (bn4 BK351 ⟨((HB.out.cell (World.block_lt_of_cell? w _ hw354_0)).trans hw354_0), ((HB.out.cell (World.block_lt_of_cell? w _ hw354_1)).trans hw354_1), ((HB.out.cell (World.block_lt_of_cell? w _ hw354_2)).trans hw354_2), ((HB.out.cell (World.block_lt_of_cell? w _ hw354_3)).trans hw354_3), ((HB.out.cell (World.block_lt_of_cell? w _ hw354_4)).trans hw354_4), ((HB.out.cell (World.block_lt_of_cell? w _ hw354_5)).trans hw354_5), ((HB.out.cell (World.block_lt_of_cell? w _ hw354_6)).trans hw354_6), ((HB.out.cell (World.block_lt_of_cell? w _ hw354_7)).trans hw354_7)⟩)) (fun hHeld => ?_)
    clear hK K
    refine norm_ (a' := ?_) ?_ ?_
    rotate_left
    ·show Act.put _ (some 28) _ = _
     simp only [Act.put, List.setIfInBounds_toArray, List.set_cons_zero, List.set_cons_succ, i64_w, i32_w]
     rfl
    refine oA 8 (some 29) HT_ (fun K hK => ?_)
    refine value_ (w1 := ?_) (v := ?_) (by rfl) rfl ?_ ?_
    rotate_left 2
    ·go_simp
     constructor
     ·rfl
     ·rfl
    refine hK.out _ _ ⟨(blk_cell (blk_alloc BK353.out _) 0).trans rfl, (blk_cell (blk_alloc BK353.out _) 1).trans rfl, (blk_cell (blk_alloc BK353.out _) 2).trans rfl, (blk_cell (blk_alloc BK353.out _) 3).trans rfl, (blk_cell (blk_alloc BK351.out _) 0).trans rfl, (blk_cell (blk_alloc BK351.out _) 1).trans rfl, (blk_cell (blk_alloc BK351.out _) 2).trans rfl, (blk_cell (blk_alloc BK351.out _) 3).trans rfl, (World.cell?_alloc_lt _ _ _ (World.block_lt_of_cell? _ _ (((HB.out.cell (World.block_lt_of_cell? w _ hw354_0)).trans hw354_0)))).trans (((HB.out.cell (World.block_lt_of_cell? w _ hw354_0)).trans hw354_0)), (World.cell?_alloc_lt _ _ _ (World.block_lt_of_cell? _ _ (((HB.out.cell (World.block_lt_of_cell? w _ hw354_1)).trans hw354_1)))).trans (((HB.out.cell (World.block_lt_of_cell? w _ hw354_1)).trans hw354_1)), (World.cell?_alloc_lt _ _ _ (World.block_lt_of_cell? _ _ (((HB.out.cell (World.block_lt_of_cell? w _ hw354_2)).trans hw354_2)))).trans (((HB.out.cell (World.block_lt_of_cell? w _ hw354_2)).trans hw354_2)), (World.cell?_alloc_lt _ _ _ (World.block_lt_of_cell? _ _ (((HB.out.cell (World.block_lt_of_cell? w _ hw354_3)).trans hw354_3)))).trans (((HB.out.cell (World.block_lt_of_cell? w _ hw354_3)).trans hw354_3)), (World.cell?_alloc_lt _ _ _ (World.block_lt_of_cell? _ _ (((HB.out.cell (World.block_lt_of_cell? w _ hw354_4)).trans hw354_4)))).trans (((HB.out.cell (World.block_lt_of_cell? w _ hw354_4)).trans hw354_4)), (World.cell?_alloc_lt _ _ _ (World.block_lt_of_cell? _ _ (((HB.out.cell (World.block_lt_of_cell? w _ hw354_5)).trans hw354_5)))).trans (((HB.out.cell (World.block_lt_of_cell? w _ hw354_5)).trans hw354_5)), (World.cell?_alloc_lt _ _ _ (World.block_lt_of_cell? _ _ (((HB.out.cell (World.block_lt_of_cell? w _ hw354_6)).trans hw354_6)))).trans (((HB.out.cell (World.block_lt_of_cell? w _ hw354_6)).trans hw354_6)), (World.cell?_alloc_lt _ _ _ (World.block_lt_of_cell? _ _ (((HB.out.cell (World.block_lt_of_cell? w _ hw354_7)).trans hw354_7)))).trans (((HB.out.cell (World.block_lt_of_cell? w _ hw354_7)).trans hw354_7))⟩ (fun hHeld => ?_)
    clear hK K
    refine norm_ (a' := ?_) ?_ ?_
    rotate_left
    ·show Act.put _ (some 29) _ = _
     simp only [Act.put, List.setIfInBounds_toArray, List.set_cons_zero, List.set_cons_succ, i64_w, i32_w]
     rfl
    refine oA 9 (some 30) HT_ (fun K hK => ?_)
    refine Kd.R_append_step k56 (w0 := w) w.heap.size (by rfl) (.tmp 22) (.tmp 29) 22 56 (.agg #[(.string ⟨#[]⟩), (.int .i64 0), (.float .f64 0), (.string ⟨#[]⟩), (.int .i64 0), (.int .i64 0), (.float .f64 0), (.string ⟨#[]⟩)]) 88 rfl Try.underlying22 info56 rfl (by decide) (by omega) u354001 x354001_1 (⟨t355, (⟨t356, t357, t358⟩ : S54), t359, (⟨t360, t361, t362⟩ : S54)⟩ : S56) [.string t355, .int .i64 t356, .float .f64 t357, .string t358, .int .i64 t359, .int .i64 t360, .float .f64 t361, .string t362] (fun _ => True) (fun _ => False) rfl rfl ?aP (fun _ hk => hk.elim) ?aF ?aO ?aB ?aS ?aL ?_
    (case aP => exact k56_mkM _ _ _ (⟨t355, (⟨t356, t357, t358⟩ : S54), t359, (⟨t360, t361, t362⟩ : S54)⟩ : S56))
    (case aB => exact (bC HB))
    (case aF => exact (fun _ _ => trivial))
    (case aO => exact (by (with_reducible repeat (first | apply Kd.R_alloc | apply Kd.R_drewN | apply Kd.R_drew)); exact HO_354001.out))
    (case aS => exact (below_size (bC HB)))
    (case aL => have := LMc15.out; omega)
    intro v364 w21 ho hb hg hat
    rw [← Ny363.out] at ho
    have HO365 := Aside0.mk (ho)
    replace BK351 := Aside0.mk (blk_grown (bQ BK351) hg (Kd.R_ne HO_354001.out BK351.out (by decide)))
    replace BK352 := Aside0.mk (blk_grown (bQ BK352) hg (Kd.R_ne HO_354001.out BK352.out (by decide)))
    replace BK353 := Aside0.mk (blk_grown (bQ BK353) hg (Kd.R_ne HO_354001.out BK353.out (by decide)))
    replace HB := Aside0.mk (hb)
    clear HO_354001
    clear ho hb hg hat
    obtain ⟨Ao22, co22, eo22⟩ := Kd.R_slice HO365.out
    (first | subst eo22 | (injection eo22 with f1_ f2_ f3_; have f4_ := f1_.symm; have f5_ := f3_.symm; clear f1_ f2_ f3_; subst f4_; subst f5_))
    refine hK.out _ _ (bn4 BK353 (bn4 BK351 ⟨((HB.out.cell (World.block_lt_of_cell? w _ hw354_0)).trans hw354_0), ((HB.out.cell (World.block_lt_of_cell? w _ hw354_1)).trans hw354_1), ((HB.out.cell (World.block_lt_of_cell? w _ hw354_2)).trans hw354_2), ((HB.out.cell (World.block_lt_of_cell? w _ hw354_3)).trans hw354_3), ((HB.out.cell (World.block_lt_of_cell? w _ hw354_4)).trans hw354_4), ((HB.out.cell (World.block_lt_of_cell? w _ hw354_5)).trans hw354_5), ((HB.out.cell (World.block_lt_of_cell? w _ hw354_6)).trans hw354_6), ((HB.out.cell (World.block_lt_of_cell? w _ hw354_7)).trans hw354_7)⟩)) (fun hHeld => ?_)
    clear hK K
    refine norm_ (a' := ?_) ?_ ?_
    rotate_left
    ·show Act.put _ (some 30) _ = _
     simp only [Act.put, List.setIfInBounds_toArray, List.set_cons_zero, List.set_cons_succ, i64_w, i32_w]
     rfl
    refine pA 10 31 HT_ ?_
    refine last_ (i := 11) (N := none) #[true,true,true,true,true,true,true,true,true,true,true,true] rfl rfl (one_of HT_.out (by kernel_rfl)) (by decide) (fun K hK => ?_)
    have hs23 : w21.cell? ⟨gb353, 1, none⟩ = some (u354001) := (blk_cell BK353.out 1).trans rfl
    have hfs23 := blk_frozen BK353.out 1
    have hns23_0 := NB351_353.out
    have hns23_1 := NB352_353.out
    have hms23_0 := NB353_351.out
    have hms23_1 := NB353_352.out
    with_reducible refine skip_ (w1 := ?_) (by with_unfolding_all rfl) (by with_unfolding_all rfl) ?_ ?_
    rotate_left
    ·go_simp
     rfl
    refine hK.out _ _ ?_
    clear hK K
    refine done_ (done_of HT_.out (by kernel_rfl)) ?_
    try go_wp2
    go_roundg k1
    case measure => have := HK1.out; omega
    case rel => exact ⟨(wrap64 (x4_1 + 1)), (y363), (.slice Ao22 y363.length co22), (by first | rfl | (simp; done) | (simp [*]; done)), H', ⟨by have := HK1.out; omega⟩, ⟨by (with_reducible repeat (first | apply Kd.R_alloc | apply Kd.R_drewN | apply Kd.R_drew)); exact Kd.R_mono (Kd.R_far (p := ⟨gb353, 1, none⟩) (Kd.R_types HO365.out BK353.out (by decide)) (fun _ hk => hk.2) (.slice Ao22 y363.length co22)) (fun _ hk => trivial)⟩, ⟨by (with_reducible repeat (first | refine blk_drewN ?_ _ | refine blk_drew ?_ | refine blk_alloc ?_ _)); refine blk_far ?_ NB351_353.out _; (with_reducible repeat (first | refine blk_drewN ?_ _ | refine blk_drew ?_ | refine blk_alloc ?_ _)); exact BK351.out⟩, ⟨by (with_reducible repeat (first | refine blk_drewN ?_ _ | refine blk_drew ?_ | refine blk_alloc ?_ _)); refine blk_far ?_ NB352_353.out _; (with_reducible repeat (first | refine blk_drewN ?_ _ | refine blk_drew ?_ | refine blk_alloc ?_ _)); exact BK352.out⟩, ⟨by (with_reducible repeat (first | refine blk_drewN ?_ _ | refine blk_drew ?_ | refine blk_alloc ?_ _)); refine blk_put (cs := #[.bool a0_0, u354001, .slice none 0 0, .slice none 0 0]) ?_ 1 _ rfl; (with_reducible repeat (first | refine blk_drewN ?_ _ | refine blk_drew ?_ | refine blk_alloc ?_ _)); exact BK353.out⟩, ⟨by repeat (first | (with_reducible first | exact HB.out | apply below_alloc | apply pw_below_drewN | apply below_drew1 | refine below_set ?_ GE351.out | refine below_set ?_ GE352.out | refine below_set ?_ GE353.out) | exact HB.out)⟩⟩
 case rest =>
  clear HC2
  try clear c1
  try clear c2
  try clear p2
  try clear p3
  try clear q3
  try clear hx3
  try clear c5
  try clear p6
  try clear c8
  try clear c9
  try clear c11
  try clear c11b0
  try clear c12
  try clear c12b0
  try clear c13
  try clear c13b0
  try clear c15
  try clear c16
  try clear c17
  try clear c24
  try clear c25
  try clear c27
  try clear c28
  try clear hcz10_0
  try clear hcz10_1
  try clear hcz10_2
  try clear hcz10_3
  try clear hcz18_0
  try clear hcz18_1
  try clear hcz18_2
  try clear hcz18_3
  try clear hcz26_0
  try clear hcz26_1
  try clear hcz26_2
  try clear hcz26_3
  try clear hcz29_0
  try clear hcz29_1
  try clear hcz29_2
  try clear hcz29_3
  try clear hcz6_0
  try clear hcz6_1
  try clear hcz6_2
  try clear hcz6_3
  try clear hfz10_0
  try clear hfz10_1
  try clear hfz10_2
  try clear hfz10_3
  try clear hfz18_0
  try clear hfz18_1
  try clear hfz18_2
  try clear hfz18_3
  try clear hfz26_0
  try clear hfz26_1
  try clear hfz26_2
  try clear hfz26_3
  try clear hfz29_0
  try clear hfz29_1
  try clear hfz29_2
  try clear hfz29_3
  try clear hfz6_0
  try clear hfz6_1
  try clear hfz6_2
  try clear hfz6_3
  try clear hx354_0
  try clear hx354_1
  try clear hx354_2
  try clear hx354_3
  try clear hx354_4
  try clear hx354_5
  try clear hx354_6
  try clear hx354_7
  try clear p2
  try clear p354
  try clear q354
  obtain ⟨kq, x354001_1, u354001, HA, HJ1, HO_354001, BK351, BK352, BK353, HB⟩ := hcut
  cases kq with
  | zero => exact absurd HA.out (by simp [engrosslaw11_Cut.j1])
  | succ kj1 =>
   have H := HA.out
   clear HA
   simp only [engrosslaw11_Cut.j1] at H
   have HC30 := Aside0.mk H
   clear H
   go_upto_block 2 with (fail)
   go_cut [] (fun wc => ∃ (kq : Nat) (x354002_29 : List ByteArray) (u354002 : Value), Aside0 (engrosslaw11_Cut.j3 kq a0_0 l0_1 l0_2 l0_3 a0_0 x354001_1 x354002_29 = some (r1, r2, r3, r4)) ∧ Aside0 (kq ≤ kj1) ∧ Aside0 (Kd.R k56 56 wc w.heap.size (fun _ => True) u354001 x354001_1) ∧ Aside0 (Kd.R Kd.string 9 wc w.heap.size (fun _ => True) u354002 x354002_29) ∧ Aside0 (wc.heap[gb351]? = some (.cells #[.bool a0_0, (.slice A0_1 l0_1.length c0_1), (.slice A0_2 l0_2.length c0_2), (.slice A0_3 l0_3.length c0_3)] 26 (0, 0))) ∧ Aside0 (wc.heap[gb352]? = some (.cells #[.bool false, (.slice none 0 0), (.slice none 0 0), (.slice none 0 0)] 26 (0, 0))) ∧ Aside0 (wc.heap[gb353]? = some (.cells #[.bool a0_0, u354001, u354002, (.slice none 0 0)] 26 (0, 0))) ∧ Aside0 (Below w.heap.size w wc))
   case first =>
    have H := HC30.out
    clear HC30
    have H' := Aside0.mk H
    clear H
    go_wp2
    go_loopg [5] kj1 (fun kq v5 w' => ∃ (x5_2 : Int) (x354002_2 : List ByteArray) (u354002 : Value), v5 = .int .i64 x5_2 ∧ Aside0 (engrosslaw11_Cut.l1 kq x5_2 a0_0 l0_1 l0_2 l0_3 a0_0 x354001_1 x354002_2 = some (r1, r2, r3, r4)) ∧ Aside0 (kq ≤ kj1) ∧ Aside0 (Kd.R k56 56 w' w.heap.size (fun _ => True) u354001 x354001_1) ∧ Aside0 (Kd.R Kd.string 9 w' w.heap.size (fun _ => True) u354002 x354002_2) ∧ Aside0 (w'.heap[gb351]? = some (.cells #[.bool a0_0, (.slice A0_1 l0_1.length c0_1), (.slice A0_2 l0_2.length c0_2), (.slice A0_3 l0_3.length c0_3)] 26 (0, 0))) ∧ Aside0 (w'.heap[gb352]? = some (.cells #[.bool false, (.slice none 0 0), (.slice none 0 0), (.slice none 0 0)] 26 (0, 0))) ∧ Aside0 (w'.heap[gb353]? = some (.cells #[.bool a0_0, u354001, u354002, (.slice none 0 0)] 26 (0, 0))) ∧ Aside0 (Below w.heap.size w w'))
    case atStart => exact ⟨(0), (([] : List ByteArray)), (.slice none 0 0), (by first | rfl | (simp; done) | (simp [*]; done)), H', ⟨Nat.le_refl _⟩, ⟨by (with_reducible repeat (first | apply Kd.R_alloc | apply Kd.R_drewN | apply Kd.R_drew)); exact HO_354001.out⟩, ⟨by first | exact Kd.R_nil _ _ _ _ _ | exact Kd.N_nil _ _ _ _ _ | exact Kd.V_nil _ _ _ _ _ | exact Kd.Q_nil _ _ _ _ _ | exact Kd.S_nil _ _ _ _ _⟩, ⟨by (with_reducible repeat (first | refine blk_drewN ?_ _ | refine blk_drew ?_ | refine blk_alloc ?_ _)); exact BK351.out⟩, ⟨by (with_reducible repeat (first | refine blk_drewN ?_ _ | refine blk_drew ?_ | refine blk_alloc ?_ _)); exact BK352.out⟩, ⟨by (with_reducible repeat (first | refine blk_drewN ?_ _ | refine blk_drew ?_ | refine blk_alloc ?_ _)); exact BK353.out⟩, ⟨by repeat (first | (with_reducible first | exact HB.out | apply below_alloc | apply pw_below_drewN | apply below_drew1 | refine below_set ?_ GE351.out | refine below_set ?_ GE352.out | refine below_set ?_ GE353.out) | exact HB.out)⟩⟩
    case round =>
     clear H'
     try clear c1
     try clear c2
     try clear p2
     try clear p3
     try clear q3
     try clear hx3
     try clear c5
     try clear p6
     try clear c8
     try clear c9
     try clear c11
     try clear c11b0
     try clear c12
     try clear c12b0
     try clear c13
     try clear c13b0
     try clear c15
     try clear c16
     try clear c17
     try clear c24
     try clear c25
     try clear c27
     try clear c28
     try clear hcz10_0
     try clear hcz10_1
     try clear hcz10_2
     try clear hcz10_3
     try clear hcz18_0
     try clear hcz18_1
     try clear hcz18_2
     try clear hcz18_3
     try clear hcz26_0
     try clear hcz26_1
     try clear hcz26_2
     try clear hcz26_3
     try clear hcz29_0
     try clear hcz29_1
     try clear hcz29_2
     try clear hcz29_3
     try clear hcz6_0
     try clear hcz6_1
     try clear hcz6_2
     try clear hcz6_3
     try clear hfz10_0
     try clear hfz10_1
     try clear hfz10_2
     try clear hfz10_3
     try clear hfz18_0
     try clear hfz18_1
     try clear hfz18_2
     try clear hfz18_3
     try clear hfz26_0
     try clear hfz26_1
     try clear hfz26_2
     try clear hfz26_3
     try clear hfz29_0
     try clear hfz29_1
     try clear hfz29_2
     try clear hfz29_3
     try clear hfz6_0
     try clear hfz6_1
     try clear hfz6_2
     try clear hfz6_3
     try clear hx354_0
     try clear hx354_1
     try clear hx354_2
     try clear hx354_3
     try clear hx354_4
     try clear hx354_5
     try clear hx354_6
     try clear hx354_7
     try clear p2
     try clear p3
     try clear p354
     try clear p6
     try clear q3
     try clear q354
     obtain ⟨x5_2, x354002_2, u354002, rfl, HA, HK2, HO_354001, HO_354002, BK351, BK352, BK353, HB⟩ := hrel
     cases gk with
     | zero => exact absurd HA.out (by simp [engrosslaw11_Cut.l1])
     | succ k2 =>
      have H := HA.out
      clear HA
      simp only [engrosslaw11_Cut.l1] at H
      by_cases c31 : x5_2 < (l0_2.length : Int)
      rotate_left
      ·rw [if_neg c31] at H
       have c31b0 : decide (x5_2 < (l0_2.length : Int)) = false := decide_eq_false c31
       clear c31
       (first | rw [c31b0] | (simp only [i64_w, i32_w]; rw [c31b0]) | skip)
       have H' := Aside0.mk H
       clear H
       have hnb46 := NB351_352.out
       have hnc46 := NB352_351.out
       have hnb47 := NB351_353.out
       have hnc47 := NB353_351.out
       obtain ⟨hcz48_0, hcz48_1, hcz48_2, hcz48_3, hfz48_0, hfz48_1, hfz48_2, hfz48_3⟩ := bf4 (w := wr) BK351
       go_wp2
       go_meet
       case rel => exact ⟨_, (x354002_2), (u354002), H', ⟨by have := HJ1.out; have := HK2.out; first | omega | exact Nat.le_refl _⟩, ⟨by (with_reducible repeat (first | apply Kd.R_alloc | apply Kd.R_drewN | apply Kd.R_drew)); exact HO_354001.out⟩, ⟨by (with_reducible repeat (first | apply Kd.R_alloc | apply Kd.R_drewN | apply Kd.R_drew)); exact HO_354002.out⟩, ⟨by (with_reducible repeat (first | refine blk_drewN ?_ _ | refine blk_drew ?_ | refine blk_alloc ?_ _)); exact BK351.out⟩, ⟨by (with_reducible repeat (first | refine blk_drewN ?_ _ | refine blk_drew ?_ | refine blk_alloc ?_ _)); exact BK352.out⟩, ⟨by (with_reducible repeat (first | refine blk_drewN ?_ _ | refine blk_drew ?_ | refine blk_alloc ?_ _)); exact BK353.out⟩, ⟨by repeat (first | (with_reducible first | exact HB.out | apply below_alloc | apply pw_below_drewN | apply below_drew1 | refine below_set ?_ GE351.out | refine below_set ?_ GE352.out | refine below_set ?_ GE353.out) | exact HB.out)⟩⟩
      rw [if_pos c31] at H
      have c31b0 : decide (x5_2 < (l0_2.length : Int)) = true := decide_eq_true c31
      clear c31
      (first | rw [c31b0] | (simp only [i64_w, i32_w]; rw [c31b0]) | skip)
      by_cases c32 : x5_2 < 40
      rotate_left
      ·rw [if_neg c32] at H
       have c32b0 : decide (x5_2 < 40) = false := decide_eq_false c32
       clear c32
       have H' := Aside0.mk H
       clear H
       have hnb43 := NB351_352.out
       have hnc43 := NB352_351.out
       have hnb44 := NB351_353.out
       have hnc44 := NB353_351.out
       obtain ⟨hcz45_0, hcz45_1, hcz45_2, hcz45_3, hfz45_0, hfz45_1, hfz45_2, hfz45_3⟩ := bf4 (w := wr) BK351
       go_wp2
       go_meet
       case rel => exact ⟨_, (x354002_2), (u354002), H', ⟨by have := HJ1.out; have := HK2.out; first | omega | exact Nat.le_refl _⟩, ⟨by (with_reducible repeat (first | apply Kd.R_alloc | apply Kd.R_drewN | apply Kd.R_drew)); exact HO_354001.out⟩, ⟨by (with_reducible repeat (first | apply Kd.R_alloc | apply Kd.R_drewN | apply Kd.R_drew)); exact HO_354002.out⟩, ⟨by (with_reducible repeat (first | refine blk_drewN ?_ _ | refine blk_drew ?_ | refine blk_alloc ?_ _)); exact BK351.out⟩, ⟨by (with_reducible repeat (first | refine blk_drewN ?_ _ | refine blk_drew ?_ | refine blk_alloc ?_ _)); exact BK352.out⟩, ⟨by (with_reducible repeat (first | refine blk_drewN ?_ _ | refine blk_drew ?_ | refine blk_alloc ?_ _)); exact BK353.out⟩, ⟨by repeat (first | (with_reducible first | exact HB.out | apply below_alloc | apply pw_below_drewN | apply below_drew1 | refine below_set ?_ GE351.out | refine below_set ?_ GE352.out | refine below_set ?_ GE353.out) | exact HB.out)⟩⟩
      rw [if_pos c32] at H
      have c32b0 : decide (x5_2 < 40) = true := decide_eq_true c32
      clear c32
      by_cases c33 : 0 ≤ x5_2
      rotate_left
      ·rw [if_neg c33] at H
       exact absurd H (by simp)
      rw [if_pos c33] at H
      have c33b0 : decide (0 ≤ x5_2) = true := decide_eq_true c33
      clear c33
      replace H := Option.bind_eq_some_iff.mp H
      obtain ⟨t367, A340, H⟩ := H
      replace H : (if x354002_2.length < 8796093022208 then (engrosslaw11_Cut.l1 k2 (wrap64 (x5_2 + 1)) a0_0 l0_1 l0_2 l0_3 a0_0 x354001_1 (x354002_2 ++ [t367])) else (none)) = some (r1, r2, r3, r4) := H
      have A34 := Aside0.mk A340
      clear A340
      by_cases c35 : x354002_2.length < 8796093022208
      rotate_left
      ·rw [if_neg c35] at H
       exact absurd H (by simp)
      rw [if_pos c35] at H
      have LMc35 := Aside0.mk c35
      clear c35
      obtain ⟨y368, hy368⟩ : ∃ y_ : List ByteArray, y_ = (x354002_2 ++ [t367]) := ⟨_, rfl⟩
      replace H : (engrosslaw11_Cut.l1 k2 (wrap64 (x5_2 + 1)) a0_0 l0_1 l0_2 l0_3 a0_0 x354001_1 y368) = some (r1, r2, r3, r4) := by first | (rw [hy368]; with_reducible exact H) | (have H2_ := (Option.bind_some _ _).symm.trans H; rw [hy368]; with_reducible exact H2_) | (have H2_ := (Option.bind_some _ _).symm.trans H; with_reducible exact H2_) | with_reducible exact H | (rw [hy368]; exact H) | exact H
      have Ny368 := Aside0.mk hy368
      clear hy368
      have H' := Aside0.mk H
      clear H
      have hnb36 := NB351_352.out
      have hnc36 := NB352_351.out
      have hnb37 := NB351_353.out
      have hnc37 := NB353_351.out
      obtain ⟨hcz38_0, hcz38_1, hcz38_2, hcz38_3, hfz38_0, hfz38_1, hfz38_2, hfz38_3⟩ := bf4 (w := wr) BK351
      try go_wp2
      replace HO_354001 := Aside0.mk (Kd.R_drew HO_354001.out)
      replace HO_354002 := Aside0.mk (Kd.R_drew HO_354002.out)
      replace BK351 := Aside0.mk (blk_drew BK351.out)
      replace BK352 := Aside0.mk (blk_drew BK352.out)
      replace BK353 := Aside0.mk (blk_drew BK353.out)
      replace HB := Aside0.mk (below_drew1 HB.out)
      have p366 : 0 ≤ (x5_2 : Int) := of_decide_eq_true (by first | (with_reducible assumption) | assumption)
      have q366 : x5_2 < (l0_2.length : Int) := of_decide_eq_true (by first | (with_reducible assumption) | assumption)
      obtain ⟨ad366, e366, hx366_0⟩ := Kd.at_string HR0_2.out x5_2 p366 q366
      have hw366_0 := hx366_0
      cases e366
      replace hx366_0 := (HB.out.cell (World.block_lt_of_cell? w _ hx366_0)).trans hx366_0
      replace p366 := eq_true p366
      replace q366 := eq_true q366
      refine start_ (n := 12) (S := fun w' => w'.cell? ⟨gb353, 0, none⟩ = some (.bool a0_0) ∧ w'.cell? ⟨gb353, 1, none⟩ = some (u354001) ∧ w'.cell? ⟨gb353, 2, none⟩ = some (u354002) ∧ w'.cell? ⟨gb353, 3, none⟩ = some (.slice none 0 0) ∧ w'.cell? ⟨gb351, 0, none⟩ = some (.bool a0_0) ∧ w'.cell? ⟨gb351, 1, none⟩ = some (.slice A0_1 l0_1.length c0_1) ∧ w'.cell? ⟨gb351, 2, none⟩ = some (.slice (some ad366) l0_2.length c0_2) ∧ w'.cell? ⟨gb351, 3, none⟩ = some (.slice A0_3 l0_3.length c0_3) ∧ w'.cell? (ad366.add (x5_2).toNat) = some (.string (rdOf ByteArray.empty l0_2 x5_2))) (ds := [11]) #[false,false,false,false,false,false,false,false,false,false,false,false] (by kernel_rfl) rfl rfl (bn4 BK353 (bn4 BK351 (((HB.out.cell (World.block_lt_of_cell? w _ hw366_0)).trans hw366_0)))) (fun hHeld => ?_); refine with_tabW engrosslaw11_Cut.tab9 engrosslaw11_Cut.bits9 (fun HT_ HW_ => ?_)
      generalize wr.drew = w39 at HO_354001 HO_354002 BK351 BK352 BK353 HB hx366_0 hHeld ⊢
      refine pA 0 43 HT_ ?_
      refine pA 2 45 HT_ ?_
      refine pA 4 47 HT_ ?_
      refine tA 1 44 HT_ HW_ hHeld ?_ (hy := by rintro w' ⟨s0, s1, s2, s3, s4, s5, s6, s7, s8⟩; go_simp; with_reducible rfl)
      refine tA 3 46 HT_ HW_ hHeld ?_ (hy := by rintro w' ⟨s0, s1, s2, s3, s4, s5, s6, s7, s8⟩; go_simp; with_reducible rfl)
      refine pA 5 48 HT_ ?_
      refine tA 6 49 HT_ HW_ hHeld ?_ (hy := by rintro w' ⟨s0, s1, s2, s3, s4, s5, s6, s7, s8⟩; go_simp; with_reducible rfl)
      refine oA 7 (some 50) HT_ (fun K hK => ?_)
      refine goes_ Try.func13 (by kernel_rfl) rfl #[.string (rdOf ByteArray.empty l0_2 x5_2), .int .i64 20] (by rfl) rfl rfl (by (try simp only [List.map_toArray, List.map_cons, List.map_nil]); first | done | rfl | (simp only [List.length_drop, List.length_take]; rfl)) ?_
      with_reducible refine (engrosslaw1_Cut.calls (rdOf ByteArray.empty l0_2 x5_2) 20 t367 _ A34.out).mono ?_
      rintro e w' ⟨rfl, ⟨nd, rfl⟩⟩
      refine ⟨_, rfl, ?_⟩
      refine hK.out _ _ (bn4 BK353 (bn4 BK351 (((HB.out.cell (World.block_lt_of_cell? w _ hw366_0)).trans hw366_0)))) (fun hHeld => ?_)
      clear hK K
      refine norm_ (a' := ?_) ?_ ?_
      rotate_left
      ·show Act.put _ (some 50) _ = _
       simp only [Act.put, List.setIfInBounds_toArray, List.set_cons_zero, List.set_cons_succ, i64_w, i32_w]
       rfl
      refine oA 8 (some 51) HT_ (fun K hK => ?_)
      refine value_ (w1 := ?_) (v := ?_) (by rfl) rfl ?_ ?_
      rotate_left 2
      ·go_simp
       constructor
       ·rfl
       ·rfl
      refine hK.out _ _ ⟨(blk_cell (blk_alloc BK353.out _) 0).trans rfl, (blk_cell (blk_alloc BK353.out _) 1).trans rfl, (blk_cell (blk_alloc BK353.out _) 2).trans rfl, (blk_cell (blk_alloc BK353.out _) 3).trans rfl, (blk_cell (blk_alloc BK351.out _) 0).trans rfl, (blk_cell (blk_alloc BK351.out _) 1).trans rfl, (blk_cell (blk_alloc BK351.out _) 2).trans rfl, (blk_cell (blk_alloc BK351.out _) 3).trans rfl, (World.cell?_alloc_lt _ _ _ (World.block_lt_of_cell? _ _ (((HB.out.cell (World.block_lt_of_cell? w _ hw366_0)).trans hw366_0)))).trans (((HB.out.cell (World.block_lt_of_cell? w _ hw366_0)).trans hw366_0))⟩ (fun hHeld => ?_)
      clear hK K
      refine norm_ (a' := ?_) ?_ ?_
      rotate_left
      ·show Act.put _ (some 51) _ = _
       simp only [Act.put, List.setIfInBounds_toArray, List.set_cons_zero, List.set_cons_succ, i64_w, i32_w]
       rfl
      refine oA 9 (some 52) HT_ (fun K hK => ?_)
      refine Kd.R_append_step Kd.string (w0 := w) w.heap.size (by rfl) (.tmp 44) (.tmp 51) 23 9 (.string ⟨#[]⟩) 16 rfl Try.underlying23 info9 rfl (by decide) (by omega) u354002 x354002_2 t367 [.string t367] (fun _ => True) (fun _ => False) rfl rfl ?aP (fun _ hk => hk.elim) ?aF ?aO ?aB ?aS ?aL ?_
      (case aP => exact rfl)
      (case aB => exact (bC HB))
      (case aF => exact (fun _ _ => trivial))
      (case aO => exact (by (with_reducible repeat (first | apply Kd.R_alloc | apply Kd.R_drewN | apply Kd.R_drew)); exact HO_354002.out))
      (case aS => exact (below_size (bC HB)))
      (case aL => have := LMc35.out; omega)
      intro v369 w40 ho hb hg hat
      rw [← Ny368.out] at ho
      have HO370 := Aside0.mk (ho)
      replace HO_354001 := Aside0.mk (Kd.R_over' (by (with_reducible repeat (first | apply Kd.R_alloc | apply Kd.R_drewN | apply Kd.R_drew)); exact HO_354001.out) (Kd.R_typed (by (with_reducible repeat (first | apply Kd.R_alloc | apply Kd.R_drewN | apply Kd.R_drew)); exact HO_354002.out)) (by decide) hg)
      replace BK351 := Aside0.mk (blk_grown (bQ BK351) hg (Kd.R_ne HO_354002.out BK351.out (by decide)))
      replace BK352 := Aside0.mk (blk_grown (bQ BK352) hg (Kd.R_ne HO_354002.out BK352.out (by decide)))
      replace BK353 := Aside0.mk (blk_grown (bQ BK353) hg (Kd.R_ne HO_354002.out BK353.out (by decide)))
      replace HB := Aside0.mk (hb)
      clear HO_354002
      clear ho hb hg hat
      obtain ⟨Ao41, co41, eo41⟩ := Kd.R_slice HO370.out
      (first | subst eo41 | (injection eo41 with f1_ f2_ f3_; have f4_ := f1_.symm; have f5_ := f3_.symm; clear f1_ f2_ f3_; subst f4_; subst f5_))
      refine hK.out _ _ (bn4 BK353 (bn4 BK351 (((HB.out.cell (World.block_lt_of_cell? w _ hw366_0)).trans hw366_0)))) (fun hHeld => ?_)
      clear hK K
      refine norm_ (a' := ?_) ?_ ?_
      rotate_left
      ·show Act.put _ (some 52) _ = _
       simp only [Act.put, List.setIfInBounds_toArray, List.set_cons_zero, List.set_cons_succ, i64_w, i32_w]
       rfl
      refine pA 10 53 HT_ ?_
      refine last_ (i := 11) (N := none) #[true,true,true,true,true,true,true,true,true,true,true,true] rfl rfl (one_of HT_.out (by kernel_rfl)) (by decide) (fun K hK => ?_)
      have hs42 : w40.cell? ⟨gb353, 2, none⟩ = some (u354002) := (blk_cell BK353.out 2).trans rfl
      have hfs42 := blk_frozen BK353.out 2
      have hns42_0 := NB351_353.out
      have hns42_1 := NB352_353.out
      have hms42_0 := NB353_351.out
      have hms42_1 := NB353_352.out
      with_reducible refine skip_ (w1 := ?_) (by with_unfolding_all rfl) (by with_unfolding_all rfl) ?_ ?_
      rotate_left
      ·go_simp
       rfl
      refine hK.out _ _ ?_
      clear hK K
      refine done_ (done_of HT_.out (by kernel_rfl)) ?_
      try go_wp2
      go_roundg k2
      case measure => have := HJ1.out; have := HK2.out; omega
      case rel => exact ⟨(wrap64 (x5_2 + 1)), (y368), (.slice Ao41 y368.length co41), (by first | rfl | (simp; done) | (simp [*]; done)), H', ⟨by have := HJ1.out; have := HK2.out; omega⟩, ⟨by (with_reducible repeat (first | apply Kd.R_alloc | apply Kd.R_drewN | apply Kd.R_drew)); exact Kd.R_mono (Kd.R_far (p := ⟨gb353, 2, none⟩) (Kd.R_types HO_354001.out BK353.out (by decide)) (fun _ hk => hk.2) (.slice Ao41 y368.length co41)) (fun _ hk => trivial)⟩, ⟨by (with_reducible repeat (first | apply Kd.R_alloc | apply Kd.R_drewN | apply Kd.R_drew)); exact Kd.R_mono (Kd.R_far (p := ⟨gb353, 2, none⟩) (Kd.R_types HO370.out BK353.out (by decide)) (fun _ hk => hk.2) (.slice Ao41 y368.length co41)) (fun _ hk => trivial)⟩, ⟨by (with_reducible repeat (first | refine blk_drewN ?_ _ | refine blk_drew ?_ | refine blk_alloc ?_ _)); refine blk_far ?_ NB351_353.out _; (with_reducible repeat (first | refine blk_drewN ?_ _ | refine blk_drew ?_ | refine blk_alloc ?_ _)); exact BK351.out⟩, ⟨by (with_reducible repeat (first | refine blk_drewN ?_ _ | refine blk_drew ?_ | refine blk_alloc ?_ _)); refine blk_far ?_ NB352_353.out _; (with_reducible repeat (first | refine blk_drewN ?_ _ | refine blk_drew ?_ | refine blk_alloc ?_ _)); exact BK352.out⟩, ⟨by (with_reducible repeat (first | refine blk_drewN ?_ _ | refine blk_drew ?_ | refine blk_alloc ?_ _)); refine blk_put (cs := #[.bool a0_0, u354001, u354002, .slice none 0 0]) ?_ 2 _ rfl; (with_reducible repeat (first | refine blk_drewN ?_ _ | refine blk_drew ?_ | refine blk_alloc ?_ _)); exact BK353.out⟩, ⟨by repeat (first | (with_reducible first | exact HB.out | apply below_alloc | apply pw_below_drewN | apply below_drew1 | refine below_set ?_ GE351.out | refine below_set ?_ GE352.out | refine below_set ?_ GE353.out) | exact HB.out)⟩⟩
   case rest =>
    clear HC30
    try clear c1
    try clear c2
    try clear p2
    try clear c3
    try clear p3
    try clear q3
    try clear hx3
    try clear c4
    try clear c5
    try clear p6
    try clear c8
    try clear c9
    try clear c11
    try clear c11b0
    try clear c12
    try clear c12b0
    try clear c13
    try clear c13b0
    try clear c15
    try clear c16
    try clear c17
    try clear c24
    try clear c25
    try clear c27
    try clear c28
    try clear c31
    try clear c31b0
    try clear c32
    try clear c32b0
    try clear c33
    try clear c33b0
    try clear c35
    try clear p35
    try clear q35
    try clear hx35
    try clear c36
    try clear p36
    try clear q36
    try clear hx36
    try clear c37
    try clear c43
    try clear c44
    try clear c46
    try clear c47
    try clear hcz10_0
    try clear hcz10_1
    try clear hcz10_2
    try clear hcz10_3
    try clear hcz18_0
    try clear hcz18_1
    try clear hcz18_2
    try clear hcz18_3
    try clear hcz26_0
    try clear hcz26_1
    try clear hcz26_2
    try clear hcz26_3
    try clear hcz29_0
    try clear hcz29_1
    try clear hcz29_2
    try clear hcz29_3
    try clear hcz38_0
    try clear hcz38_1
    try clear hcz38_2
    try clear hcz38_3
    try clear hcz45_0
    try clear hcz45_1
    try clear hcz45_2
    try clear hcz45_3
    try clear hcz48_0
    try clear hcz48_1
    try clear hcz48_2
    try clear hcz48_3
    try clear hcz6_0
    try clear hcz6_1
    try clear hcz6_2
    try clear hcz6_3
    try clear hfz10_0
    try clear hfz10_1
    try clear hfz10_2
    try clear hfz10_3
    try clear hfz18_0
    try clear hfz18_1
    try clear hfz18_2
    try clear hfz18_3
    try clear hfz26_0
    try clear hfz26_1
    try clear hfz26_2
    try clear hfz26_3
    try clear hfz29_0
    try clear hfz29_1
    try clear hfz29_2
    try clear hfz29_3
    try clear hfz38_0
    try clear hfz38_1
    try clear hfz38_2
    try clear hfz38_3
    try clear hfz45_0
    try clear hfz45_1
    try clear hfz45_2
    try clear hfz45_3
    try clear hfz48_0
    try clear hfz48_1
    try clear hfz48_2
    try clear hfz48_3
    try clear hfz6_0
    try clear hfz6_1
    try clear hfz6_2
    try clear hfz6_3
    try clear hx354_0
    try clear hx354_1
    try clear hx354_2
    try clear hx354_3
    try clear hx354_4
    try clear hx354_5
    try clear hx354_6
    try clear hx354_7
    try clear hx366_0
    try clear p2
    try clear p3
    try clear p354
    try clear p366
    try clear p6
    try clear q3
    try clear q354
    try clear q366
    obtain ⟨kq, x354002_29, u354002, HA, HJ29, HO_354001, HO_354002, BK351, BK352, BK353, HB⟩ := hcut
    cases kq with
    | zero => exact absurd HA.out (by simp [engrosslaw11_Cut.j3])
    | succ kj29 =>
     have H := HA.out
     clear HA
     simp only [engrosslaw11_Cut.j3] at H
     have H' := Aside0.mk H
     clear H
     go_wp2
     go_loopg [6] kj29 (fun kq v6 w' => ∃ (x6_3 : Int) (x354003_3 : List Int) (u354003 : Value), v6 = .int .i64 x6_3 ∧ Aside0 (engrosslaw11_Cut.l2 kq x6_3 a0_0 l0_1 l0_2 l0_3 a0_0 x354001_1 x354002_29 x354003_3 = some (r1, r2, r3, r4)) ∧ Aside0 (kq ≤ kj29) ∧ Aside0 (Kd.R k56 56 w' w.heap.size (fun _ => True) u354001 x354001_1) ∧ Aside0 (Kd.R Kd.string 9 w' w.heap.size (fun _ => True) u354002 x354002_29) ∧ Aside0 (Kd.R (Kd.int .i64) 3 w' w.heap.size (fun _ => True) u354003 x354003_3) ∧ Aside0 (w'.heap[gb351]? = some (.cells #[.bool a0_0, (.slice A0_1 l0_1.length c0_1), (.slice A0_2 l0_2.length c0_2), (.slice A0_3 l0_3.length c0_3)] 26 (0, 0))) ∧ Aside0 (w'.heap[gb352]? = some (.cells #[.bool false, (.slice none 0 0), (.slice none 0 0), (.slice none 0 0)] 26 (0, 0))) ∧ Aside0 (w'.heap[gb353]? = some (.cells #[.bool a0_0, u354001, u354002, u354003] 26 (0, 0))) ∧ Aside0 (Below w.heap.size w w'))
     case atStart => exact ⟨(0), (([] : List Int)), (.slice none 0 0), (by first | rfl | (simp; done) | (simp [*]; done)), H', ⟨Nat.le_refl _⟩, ⟨by (with_reducible repeat (first | apply Kd.R_alloc | apply Kd.R_drewN | apply Kd.R_drew)); exact HO_354001.out⟩, ⟨by (with_reducible repeat (first | apply Kd.R_alloc | apply Kd.R_drewN | apply Kd.R_drew)); exact HO_354002.out⟩, ⟨by first | exact Kd.R_nil _ _ _ _ _ | exact Kd.N_nil _ _ _ _ _ | exact Kd.V_nil _ _ _ _ _ | exact Kd.Q_nil _ _ _ _ _ | exact Kd.S_nil _ _ _ _ _⟩, ⟨by (with_reducible repeat (first | refine blk_drewN ?_ _ | refine blk_drew ?_ | refine blk_alloc ?_ _)); exact BK351.out⟩, ⟨by (with_reducible repeat (first | refine blk_drewN ?_ _ | refine blk_drew ?_ | refine blk_alloc ?_ _)); exact BK352.out⟩, ⟨by (with_reducible repeat (first | refine blk_drewN ?_ _ | refine blk_drew ?_ | refine blk_alloc ?_ _)); exact BK353.out⟩, ⟨by repeat (first | (with_reducible first | exact HB.out | apply below_alloc | apply pw_below_drewN | apply below_drew1 | refine below_set ?_ GE351.out | refine below_set ?_ GE352.out | refine below_set ?_ GE353.out) | exact HB.out)⟩⟩
     case round =>
      clear H'
      try clear c1
      try clear c2
      try clear p2
      try clear c3
      try clear p3
      try clear q3
      try clear hx3
      try clear c4
      try clear c5
      try clear p6
      try clear c8
      try clear c9
      try clear c11
      try clear c11b0
      try clear c12
      try clear c12b0
      try clear c13
      try clear c13b0
      try clear c15
      try clear c16
      try clear c17
      try clear c24
      try clear c25
      try clear c27
      try clear c28
      try clear c31
      try clear c31b0
      try clear c32
      try clear c32b0
      try clear c33
      try clear c33b0
      try clear c35
      try clear p35
      try clear q35
      try clear hx35
      try clear c36
      try clear p36
      try clear q36
      try clear hx36
      try clear c37
      try clear c43
      try clear c44
      try clear c46
      try clear c47
      try clear hcz10_0
      try clear hcz10_1
      try clear hcz10_2
      try clear hcz10_3
      try clear hcz18_0
      try clear hcz18_1
      try clear hcz18_2
      try clear hcz18_3
      try clear hcz26_0
      try clear hcz26_1
      try clear hcz26_2
      try clear hcz26_3
      try clear hcz29_0
      try clear hcz29_1
      try clear hcz29_2
      try clear hcz29_3
      try clear hcz38_0
      try clear hcz38_1
      try clear hcz38_2
      try clear hcz38_3
      try clear hcz45_0
      try clear hcz45_1
      try clear hcz45_2
      try clear hcz45_3
      try clear hcz48_0
      try clear hcz48_1
      try clear hcz48_2
      try clear hcz48_3
      try clear hcz6_0
      try clear hcz6_1
      try clear hcz6_2
      try clear hcz6_3
      try clear hfz10_0
      try clear hfz10_1
      try clear hfz10_2
      try clear hfz10_3
      try clear hfz18_0
      try clear hfz18_1
      try clear hfz18_2
      try clear hfz18_3
      try clear hfz26_0
      try clear hfz26_1
      try clear hfz26_2
      try clear hfz26_3
      try clear hfz29_0
      try clear hfz29_1
      try clear hfz29_2
      try clear hfz29_3
      try clear hfz38_0
      try clear hfz38_1
      try clear hfz38_2
      try clear hfz38_3
      try clear hfz45_0
      try clear hfz45_1
      try clear hfz45_2
      try clear hfz45_3
      try clear hfz48_0
      try clear hfz48_1
      try clear hfz48_2
      try clear hfz48_3
      try clear hfz6_0
      try clear hfz6_1
      try clear hfz6_2
      try clear hfz6_3
      try clear hx354_0
      try clear hx354_1
      try clear hx354_2
      try clear hx354_3
      try clear hx354_4
      try clear hx354_5
      try clear hx354_6
      try clear hx354_7
      try clear hx366_0
      try clear p2
      try clear p3
      try clear p35
      try clear p354
      try clear p36
      try clear p366
      try clear p6
      try clear q3
      try clear q35
      try clear q354
      try clear q36
      try clear q366
      obtain ⟨x6_3, x354003_3, u354003, rfl, HA, HK3, HO_354001, HO_354002, HO_354003, BK351, BK352, BK353, HB⟩ := hrel
      cases gk with
      | zero => exact absurd HA.out (by simp [engrosslaw11_Cut.l2])
      | succ k3 =>
       have H := HA.out
       clear HA
       simp only [engrosslaw11_Cut.l2] at H
       by_cases c49 : x6_3 < (l0_3.length : Int)
       rotate_left
       ·rw [if_neg c49] at H
        have c49b0 : decide (x6_3 < (l0_3.length : Int)) = false := decide_eq_false c49
        clear c49
        simp only [Option.some.injEq, Prod.mk.injEq] at H
        obtain ⟨rfl, rfl, rfl, rfl⟩ := H
        have hnb69 := NB351_352.out
        have hnc69 := NB352_351.out
        have hnb70 := NB351_353.out
        have hnc70 := NB353_351.out
        obtain ⟨hcz71_0, hcz71_1, hcz71_2, hcz71_3, hfz71_0, hfz71_1, hfz71_2, hfz71_3⟩ := bf4 (w := wr) BK351
        have hnb72 := NB353_352.out
        have hnc72 := NB352_353.out
        obtain ⟨hcz73_0, hcz73_1, hcz73_2, hcz73_3, hfz73_0, hfz73_1, hfz73_2, hfz73_3⟩ := bf4 (w := wr) BK353
        obtain ⟨hcz74_0, hcz74_1, hcz74_2, hcz74_3, hfz74_0, hfz74_1, hfz74_2, hfz74_3⟩ := bf4 (w := wr) BK352
        obtain ⟨Ao75, co75, eo75⟩ := Kd.R_slice HO_354001.out
        subst eo75
        obtain ⟨Ao76, co76, eo76⟩ := Kd.R_slice HO_354002.out
        subst eo76
        obtain ⟨Ao77, co77, eo77⟩ := Kd.R_slice HO_354003.out
        subst eo77
        go_wp2
        refine bodyPost_ret (results_cell_row rfl _ _ gb352 26 #[.bool a0_0, .slice Ao75 x354001_1.length co75, .slice Ao76 x354002_29.length co76, .slice Ao77 x354003_3.length co77] (0, 0) _ rfl (bR BK352) Try.underlying26 rfl (by kernel_rfl)) rfl ?_
        exact ⟨_, _, _, by first | rfl | (simp [errW_none, errW_some] <;> rfl) | (simp [*, errW_none, errW_some] <;> rfl), by (with_reducible repeat (first | apply Kd.R_alloc | apply Kd.R_drewN | apply Kd.R_drew)); exact Kd.R_mono (Kd.R_far (p := ⟨gb352, 3, none⟩) (Kd.R_far (p := ⟨gb352, 2, none⟩) (Kd.R_far (p := ⟨gb352, 1, none⟩) (Kd.R_far (p := ⟨gb352, 0, none⟩) (Kd.R_types HO_354001.out BK352.out (by decide)) (fun _ hk => hk.2) (.bool a0_0)) (fun _ hk => hk.2) (.slice Ao75 x354001_1.length co75)) (fun _ hk => hk.2) (.slice Ao76 x354002_29.length co76)) (fun _ hk => hk.2) (.slice Ao77 x354003_3.length co77)) (fun _ hk => trivial), by (with_reducible repeat (first | apply Kd.R_alloc | apply Kd.R_drewN | apply Kd.R_drew)); exact Kd.R_mono (Kd.R_far (p := ⟨gb352, 3, none⟩) (Kd.R_far (p := ⟨gb352, 2, none⟩) (Kd.R_far (p := ⟨gb352, 1, none⟩) (Kd.R_far (p := ⟨gb352, 0, none⟩) (Kd.R_types HO_354002.out BK352.out (by decide)) (fun _ hk => hk.2) (.bool a0_0)) (fun _ hk => hk.2) (.slice Ao75 x354001_1.length co75)) (fun _ hk => hk.2) (.slice Ao76 x354002_29.length co76)) (fun _ hk => hk.2) (.slice Ao77 x354003_3.length co77)) (fun _ hk => trivial), by (with_reducible repeat (first | apply Kd.R_alloc | apply Kd.R_drewN | apply Kd.R_drew)); exact Kd.R_mono (Kd.R_far (p := ⟨gb352, 3, none⟩) (Kd.R_far (p := ⟨gb352, 2, none⟩) (Kd.R_far (p := ⟨gb352, 1, none⟩) (Kd.R_far (p := ⟨gb352, 0, none⟩) (Kd.R_types HO_354003.out BK352.out (by decide)) (fun _ hk => hk.2) (.bool a0_0)) (fun _ hk => hk.2) (.slice Ao75 x354001_1.length co75)) (fun _ hk => hk.2) (.slice Ao76 x354002_29.length co76)) (fun _ hk => hk.2) (.slice Ao77 x354003_3.length co77)) (fun _ hk => trivial), by repeat (first | (with_reducible first | exact HB.out | apply below_alloc | apply pw_below_drewN | apply below_drew1 | refine below_set ?_ GE351.out | refine below_set ?_ GE352.out | refine below_set ?_ GE353.out) | exact HB.out)⟩
       rw [if_pos c49] at H
       have c49b0 : decide (x6_3 < (l0_3.length : Int)) = true := decide_eq_true c49
       clear c49
       by_cases c50 : x6_3 < 40
       rotate_left
       ·rw [if_neg c50] at H
        have c50b0 : decide (x6_3 < 40) = false := decide_eq_false c50
        clear c50
        simp only [Option.some.injEq, Prod.mk.injEq] at H
        obtain ⟨rfl, rfl, rfl, rfl⟩ := H
        have hnb60 := NB351_352.out
        have hnc60 := NB352_351.out
        have hnb61 := NB351_353.out
        have hnc61 := NB353_351.out
        obtain ⟨hcz62_0, hcz62_1, hcz62_2, hcz62_3, hfz62_0, hfz62_1, hfz62_2, hfz62_3⟩ := bf4 (w := wr) BK351
        have hnb63 := NB353_352.out
        have hnc63 := NB352_353.out
        obtain ⟨hcz64_0, hcz64_1, hcz64_2, hcz64_3, hfz64_0, hfz64_1, hfz64_2, hfz64_3⟩ := bf4 (w := wr) BK353
        obtain ⟨hcz65_0, hcz65_1, hcz65_2, hcz65_3, hfz65_0, hfz65_1, hfz65_2, hfz65_3⟩ := bf4 (w := wr) BK352
        obtain ⟨Ao66, co66, eo66⟩ := Kd.R_slice HO_354001.out
        subst eo66
        obtain ⟨Ao67, co67, eo67⟩ := Kd.R_slice HO_354002.out
        subst eo67
        obtain ⟨Ao68, co68, eo68⟩ := Kd.R_slice HO_354003.out
        subst eo68
        go_wp2
        refine bodyPost_ret (results_cell_row rfl _ _ gb352 26 #[.bool a0_0, .slice Ao66 x354001_1.length co66, .slice Ao67 x354002_29.length co67, .slice Ao68 x354003_3.length co68] (0, 0) _ rfl (bR BK352) Try.underlying26 rfl (by kernel_rfl)) rfl ?_
        exact ⟨_, _, _, by first | rfl | (simp [errW_none, errW_some] <;> rfl) | (simp [*, errW_none, errW_some] <;> rfl), by (with_reducible repeat (first | apply Kd.R_alloc | apply Kd.R_drewN | apply Kd.R_drew)); exact Kd.R_mono (Kd.R_far (p := ⟨gb352, 3, none⟩) (Kd.R_far (p := ⟨gb352, 2, none⟩) (Kd.R_far (p := ⟨gb352, 1, none⟩) (Kd.R_far (p := ⟨gb352, 0, none⟩) (Kd.R_types HO_354001.out BK352.out (by decide)) (fun _ hk => hk.2) (.bool a0_0)) (fun _ hk => hk.2) (.slice Ao66 x354001_1.length co66)) (fun _ hk => hk.2) (.slice Ao67 x354002_29.length co67)) (fun _ hk => hk.2) (.slice Ao68 x354003_3.length co68)) (fun _ hk => trivial), by (with_reducible repeat (first | apply Kd.R_alloc | apply Kd.R_drewN | apply Kd.R_drew)); exact Kd.R_mono (Kd.R_far (p := ⟨gb352, 3, none⟩) (Kd.R_far (p := ⟨gb352, 2, none⟩) (Kd.R_far (p := ⟨gb352, 1, none⟩) (Kd.R_far (p := ⟨gb352, 0, none⟩) (Kd.R_types HO_354002.out BK352.out (by decide)) (fun _ hk => hk.2) (.bool a0_0)) (fun _ hk => hk.2) (.slice Ao66 x354001_1.length co66)) (fun _ hk => hk.2) (.slice Ao67 x354002_29.length co67)) (fun _ hk => hk.2) (.slice Ao68 x354003_3.length co68)) (fun _ hk => trivial), by (with_reducible repeat (first | apply Kd.R_alloc | apply Kd.R_drewN | apply Kd.R_drew)); exact Kd.R_mono (Kd.R_far (p := ⟨gb352, 3, none⟩) (Kd.R_far (p := ⟨gb352, 2, none⟩) (Kd.R_far (p := ⟨gb352, 1, none⟩) (Kd.R_far (p := ⟨gb352, 0, none⟩) (Kd.R_types HO_354003.out BK352.out (by decide)) (fun _ hk => hk.2) (.bool a0_0)) (fun _ hk => hk.2) (.slice Ao66 x354001_1.length co66)) (fun _ hk => hk.2) (.slice Ao67 x354002_29.length co67)) (fun _ hk => hk.2) (.slice Ao68 x354003_3.length co68)) (fun _ hk => trivial), by repeat (first | (with_reducible first | exact HB.out | apply below_alloc | apply pw_below_drewN | apply below_drew1 | refine below_set ?_ GE351.out | refine below_set ?_ GE352.out | refine below_set ?_ GE353.out) | exact HB.out)⟩
       rw [if_pos c50] at H
       have c50b0 : decide (x6_3 < 40) = true := decide_eq_true c50
       clear c50
       by_cases c51 : 0 ≤ x6_3
       rotate_left
       ·rw [if_neg c51] at H
        exact absurd H (by simp)
       rw [if_pos c51] at H
       have c51b0 : decide (0 ≤ x6_3) = true := decide_eq_true c51
       clear c51
       by_cases c52 : x354003_3.length < 17592186044416
       rotate_left
       ·rw [if_neg c52] at H
        exact absurd H (by simp)
       rw [if_pos c52] at H
       have LMc52 := Aside0.mk c52
       clear c52
       obtain ⟨y372, hy372⟩ : ∃ y_ : List Int, y_ = (x354003_3 ++ [rd l0_3 x6_3]) := ⟨_, rfl⟩
       replace H : (engrosslaw11_Cut.l2 k3 (wrap64 (x6_3 + 1)) a0_0 l0_1 l0_2 l0_3 a0_0 x354001_1 x354002_29 y372) = some (r1, r2, r3, r4) := by first | (rw [hy372]; with_reducible exact H) | (have H2_ := (Option.bind_some _ _).symm.trans H; rw [hy372]; with_reducible exact H2_) | (have H2_ := (Option.bind_some _ _).symm.trans H; with_reducible exact H2_) | with_reducible exact H | (rw [hy372]; exact H) | exact H
       have Ny372 := Aside0.mk hy372
       clear hy372
       have H' := Aside0.mk H
       clear H
       have hnb53 := NB351_352.out
       have hnc53 := NB352_351.out
       have hnb54 := NB351_353.out
       have hnc54 := NB353_351.out
       obtain ⟨hcz55_0, hcz55_1, hcz55_2, hcz55_3, hfz55_0, hfz55_1, hfz55_2, hfz55_3⟩ := bf4 (w := wr) BK351
       try go_wp2
       replace HO_354001 := Aside0.mk (Kd.R_drew HO_354001.out)
       replace HO_354002 := Aside0.mk (Kd.R_drew HO_354002.out)
       replace HO_354003 := Aside0.mk (Kd.R_drew HO_354003.out)
       replace BK351 := Aside0.mk (blk_drew BK351.out)
       replace BK352 := Aside0.mk (blk_drew BK352.out)
       replace BK353 := Aside0.mk (blk_drew BK353.out)
       replace HB := Aside0.mk (below_drew1 HB.out)
       have p371 : 0 ≤ (x6_3 : Int) := of_decide_eq_true (by first | (with_reducible assumption) | assumption)
       have q371 : x6_3 < (l0_3.length : Int) := of_decide_eq_true (by first | (with_reducible assumption) | assumption)
       obtain ⟨ad371, e371, hx371_0⟩ := Kd.at_int HR0_3.out x6_3 p371 q371
       have hw371_0 := hx371_0
       cases e371
       replace hx371_0 := (HB.out.cell (World.block_lt_of_cell? w _ hx371_0)).trans hx371_0
       replace p371 := eq_true p371
       replace q371 := eq_true q371
       refine start_ (n := 11) (S := fun w' => w'.cell? ⟨gb353, 0, none⟩ = some (.bool a0_0) ∧ w'.cell? ⟨gb353, 1, none⟩ = some (u354001) ∧ w'.cell? ⟨gb353, 2, none⟩ = some (u354002) ∧ w'.cell? ⟨gb353, 3, none⟩ = some (u354003) ∧ w'.cell? ⟨gb351, 0, none⟩ = some (.bool a0_0) ∧ w'.cell? ⟨gb351, 1, none⟩ = some (.slice A0_1 l0_1.length c0_1) ∧ w'.cell? ⟨gb351, 2, none⟩ = some (.slice A0_2 l0_2.length c0_2) ∧ w'.cell? ⟨gb351, 3, none⟩ = some (.slice (some ad371) l0_3.length c0_3) ∧ w'.cell? (ad371.add (x6_3).toNat) = some (.int .i64 (rd l0_3 x6_3))) (ds := [10]) #[false,false,false,false,false,false,false,false,false,false,false] (by kernel_rfl) rfl rfl (bn4 BK353 (bn4 BK351 (((HB.out.cell (World.block_lt_of_cell? w _ hw371_0)).trans hw371_0)))) (fun hHeld => ?_); refine with_tabW engrosslaw11_Cut.tab13 engrosslaw11_Cut.bits13 (fun HT_ HW_ => ?_)
       generalize wr.drew = w56 at HO_354001 HO_354002 HO_354003 BK351 BK352 BK353 HB hx371_0 hHeld ⊢
       refine pA 0 65 HT_ ?_
       refine pA 2 67 HT_ ?_
       refine pA 4 69 HT_ ?_
       refine tA 1 66 HT_ HW_ hHeld ?_ (hy := by rintro w' ⟨s0, s1, s2, s3, s4, s5, s6, s7, s8⟩; go_simp; with_reducible rfl)
       refine tA 3 68 HT_ HW_ hHeld ?_ (hy := by rintro w' ⟨s0, s1, s2, s3, s4, s5, s6, s7, s8⟩; go_simp; with_reducible rfl)
       refine pA 5 70 HT_ ?_
       refine tA 6 71 HT_ HW_ hHeld ?_ (hy := by rintro w' ⟨s0, s1, s2, s3, s4, s5, s6, s7, s8⟩; go_simp; with_reducible rfl)
       refine oA 7 (some 72) HT_ (fun K hK => ?_)
       refine value_ (w1 := ?_) (v := ?_) (by rfl) rfl ?_ ?_
       rotate_left 2
       ·go_simp
        constructor
        ·rfl
        ·rfl
       refine hK.out _ _ ⟨(blk_cell (blk_alloc BK353.out _) 0).trans rfl, (blk_cell (blk_alloc BK353.out _) 1).trans rfl, (blk_cell (blk_alloc BK353.out _) 2).trans rfl, (blk_cell (blk_alloc BK353.out _) 3).trans rfl, (blk_cell (blk_alloc BK351.out _) 0).trans rfl, (blk_cell (blk_alloc BK351.out _) 1).trans rfl, (blk_cell (blk_alloc BK351.out _) 2).trans rfl, (blk_cell (blk_alloc BK351.out _) 3).trans rfl, (World.cell?_alloc_lt _ _ _ (World.block_lt_of_cell? _ _ (((HB.out.cell (World.block_lt_of_cell? w _ hw371_0)).trans hw371_0)))).trans (((HB.out.cell (World.block_lt_of_cell? w _ hw371_0)).trans hw371_0))⟩ (fun hHeld => ?_)
       clear hK K
       refine norm_ (a' := ?_) ?_ ?_
       rotate_left
       ·show Act.put _ (some 72) _ = _
        simp only [Act.put, List.setIfInBounds_toArray, List.set_cons_zero, List.set_cons_succ, i64_w, i32_w]
        rfl
       refine oA 8 (some 73) HT_ (fun K hK => ?_)
       refine Kd.R_append_step (Kd.int .i64) (w0 := w) w.heap.size (by rfl) (.tmp 66) (.tmp 72) 24 3 (.int .i64 0) 8 rfl Try.underlying24 info3 rfl (by decide) (by omega) u354003 x354003_3 (rd l0_3 x6_3) [.int .i64 (rd l0_3 x6_3)] (fun _ => True) (fun _ => False) rfl rfl ?aP (fun _ hk => hk.elim) ?aF ?aO ?aB ?aS ?aL ?_
       (case aP => exact rfl)
       (case aB => exact (bC HB))
       (case aF => exact (fun _ _ => trivial))
       (case aO => exact (by (with_reducible repeat (first | apply Kd.R_alloc | apply Kd.R_drewN | apply Kd.R_drew)); exact HO_354003.out))
       (case aS => exact (below_size (bC HB)))
       (case aL => have := LMc52.out; omega)
       intro v373 w57 ho hb hg hat
       rw [← Ny372.out] at ho
       have HO374 := Aside0.mk (ho)
       replace HO_354001 := Aside0.mk (Kd.R_over' (by (with_reducible repeat (first | apply Kd.R_alloc | apply Kd.R_drewN | apply Kd.R_drew)); exact HO_354001.out) (Kd.R_typed (by (with_reducible repeat (first | apply Kd.R_alloc | apply Kd.R_drewN | apply Kd.R_drew)); exact HO_354003.out)) (by decide) hg)
       replace HO_354002 := Aside0.mk (Kd.R_over' (by (with_reducible repeat (first | apply Kd.R_alloc | apply Kd.R_drewN | apply Kd.R_drew)); exact HO_354002.out) (Kd.R_typed (by (with_reducible repeat (first | apply Kd.R_alloc | apply Kd.R_drewN | apply Kd.R_drew)); exact HO_354003.out)) (by decide) hg)
       replace BK351 := Aside0.mk (blk_grown (bQ BK351) hg (Kd.R_ne HO_354003.out BK351.out (by decide)))
       replace BK352 := Aside0.mk (blk_grown (bQ BK352) hg (Kd.R_ne HO_354003.out BK352.out (by decide)))
       replace BK353 := Aside0.mk (blk_grown (bQ BK353) hg (Kd.R_ne HO_354003.out BK353.out (by decide)))
       replace HB := Aside0.mk (hb)
       clear HO_354003
       clear ho hb hg hat
       obtain ⟨Ao58, co58, eo58⟩ := Kd.R_slice HO374.out
       (first | subst eo58 | (injection eo58 with f1_ f2_ f3_; have f4_ := f1_.symm; have f5_ := f3_.symm; clear f1_ f2_ f3_; subst f4_; subst f5_))
       refine hK.out _ _ (bn4 BK353 (bn4 BK351 (((HB.out.cell (World.block_lt_of_cell? w _ hw371_0)).trans hw371_0)))) (fun hHeld => ?_)
       clear hK K
       refine norm_ (a' := ?_) ?_ ?_
       rotate_left
       ·show Act.put _ (some 73) _ = _
        simp only [Act.put, List.setIfInBounds_toArray, List.set_cons_zero, List.set_cons_succ, i64_w, i32_w]
        rfl
       refine pA 9 74 HT_ ?_
       refine last_ (i := 10) (N := none) #[true,true,true,true,true,true,true,true,true,true,true] rfl rfl (one_of HT_.out (by kernel_rfl)) (by decide) (fun K hK => ?_)
       have hs59 : w57.cell? ⟨gb353, 3, none⟩ = some (u354003) := (blk_cell BK353.out 3).trans rfl
       have hfs59 := blk_frozen BK353.out 3
       have hns59_0 := NB351_353.out
       have hns59_1 := NB352_353.out
       have hms59_0 := NB353_351.out
       have hms59_1 := NB353_352.out
       with_reducible refine skip_ (w1 := ?_) (by with_unfolding_all rfl) (by with_unfolding_all rfl) ?_ ?_
       rotate_left
       ·go_simp
        rfl
       refine hK.out _ _ ?_
       clear hK K
       refine done_ (done_of HT_.out (by kernel_rfl)) ?_
       try go_wp2
       go_roundg k3
       case measure => have := HJ1.out; have := HJ29.out; have := HK3.out; omega
       case rel => exact ⟨(wrap64 (x6_3 + 1)), (y372), (.slice Ao58 y372.length co58), (by first | rfl | (simp; done) | (simp [*]; done)), H', ⟨by have := HJ1.out; have := HJ29.out; have := HK3.out; omega⟩, ⟨by (with_reducible repeat (first | apply Kd.R_alloc | apply Kd.R_drewN | apply Kd.R_drew)); exact Kd.R_mono (Kd.R_far (p := ⟨gb353, 3, none⟩) (Kd.R_types HO_354001.out BK353.out (by decide)) (fun _ hk => hk.2) (.slice Ao58 y372.length co58)) (fun _ hk => trivial)⟩, ⟨by (with_reducible repeat (first | apply Kd.R_alloc | apply Kd.R_drewN | apply Kd.R_drew)); exact Kd.R_mono (Kd.R_far (p := ⟨gb353, 3, none⟩) (Kd.R_types HO_354002.out BK353.out (by decide)) (fun _ hk => hk.2) (.slice Ao58 y372.length co58)) (fun _ hk => trivial)⟩, ⟨by (with_reducible repeat (first | apply Kd.R_alloc | apply Kd.R_drewN | apply Kd.R_drew)); exact Kd.R_mono (Kd.R_far (p := ⟨gb353, 3, none⟩) (Kd.R_types HO374.out BK353.out (by decide)) (fun _ hk => hk.2) (.slice Ao58 y372.length co58)) (fun _ hk => trivial)⟩, ⟨by (with_reducible repeat (first | refine blk_drewN ?_ _ | refine blk_drew ?_ | refine blk_alloc ?_ _)); refine blk_far ?_ NB351_353.out _; (with_reducible repeat (first | refine blk_drewN ?_ _ | refine blk_drew ?_ | refine blk_alloc ?_ _)); exact BK351.out⟩, ⟨by (with_reducible repeat (first | refine blk_drewN ?_ _ | refine blk_drew ?_ | refine blk_alloc ?_ _)); refine blk_far ?_ NB352_353.out _; (with_reducible repeat (first | refine blk_drewN ?_ _ | refine blk_drew ?_ | refine blk_alloc ?_ _)); exact BK352.out⟩, ⟨by (with_reducible repeat (first | refine blk_drewN ?_ _ | refine blk_drew ?_ | refine blk_alloc ?_ _)); refine blk_put (cs := #[.bool a0_0, u354001, u354002, u354003]) ?_ 3 _ rfl; (with_reducible repeat (first | refine blk_drewN ?_ _ | refine blk_drew ?_ | refine blk_alloc ?_ _)); exact BK353.out⟩, ⟨by repeat (first | (with_reducible first | exact HB.out | apply below_alloc | apply pw_below_drewN | apply below_drew1 | refine below_set ?_ GE351.out | refine below_set ?_ GE352.out | refine below_set ?_ GE353.out) | exact HB.out)⟩⟩
end Go.Proofs.Ytmmjpieafbjggaa.P
end
section
namespace Go.Proofs.Ytmmjpieafbjggaa.P
open Go.RowKit Go.Proofs.YtmmjpieafbjggaaW.PrintWords Go.Proofs.YtmmjpieafbjggaaW.PrintLast Go.Proofs.YtmmjpieafbjggaaW.PrintMore
attribute [local go_sem] max2_int min2_int max_two min_two max_three min_three max_four min_four   -- for this text's walks alone
attribute [local go_sem] x_str_gtr x_str_leq x_str_geq ext_bits ext_frombits ext_neg x_store_float Instr.field asAgg
set_option linter.unusedVariables false
set_option linter.unusedSimpArgs false
def engrossref1_NaN.f (a0 : Nat) : Option (Bool) := if (Go.bits .and .u64 ((a0 : Nat) : Int) 9218868437227405312) = 9218868437227405312 then (some ((Go.bits .and .u64 ((a0 : Nat) : Int) 4503599627370495) != 0)) else (some false)
set_option maxHeartbeats 8000000 in
set_option maxRecDepth 100000 in
theorem engrossref1_NaN.calls (a0 : Nat) (r : Bool) (w : World) (h : engrossref1_NaN.f a0 = some r) :
  Calls Try.prog 69 #[.float .f64 a0] w fun e w' => e = .returned (.bool r) ∧ Drawn0 w w' := by
 have H : (if (Go.bits .and .u64 ((a0 : Nat) : Int) 9218868437227405312) = 9218868437227405312 then (some ((Go.bits .and .u64 ((a0 : Nat) : Int) 4503599627370495) != 0)) else (some false)) = some r := h
 clear h
 by_cases c2 : (Go.bits .and .u64 ((a0 : Nat) : Int) 9218868437227405312) = 9218868437227405312
 rotate_left
 ·rw [if_neg c2] at H
  have c2b0 : ((Go.bits .and .u64 ((a0 : Nat) : Int) 9218868437227405312) == 9218868437227405312) = false := beq_eq_false_iff_ne.mpr c2
  have c2b1 : ((Go.bits .and .u64 ((a0 : Nat) : Int) 9218868437227405312) != 9218868437227405312) = true := bne_iff_ne.mpr c2
  obtain rfl := Option.some.inj H
  go_enter Try.func69, Try.ntmps69
  go_wp2
  go_ret
  exact ⟨by first | rfl | (simp; done) | (simp [*]; done), by repeat (first | exact Drawn0.refl _ | apply Drawn0.step)⟩
 rw [if_pos c2] at H
 have c2b0 : ((Go.bits .and .u64 ((a0 : Nat) : Int) 9218868437227405312) == 9218868437227405312) = true := beq_iff_eq.mpr c2
 have c2b1 : ((Go.bits .and .u64 ((a0 : Nat) : Int) 9218868437227405312) != 9218868437227405312) = false := bne_eq_false_iff_eq.mpr c2
 clear c2
 obtain rfl := Option.some.inj H
 go_enter Try.func69, Try.ntmps69
 go_wp2
 go_ret
 exact ⟨by first | rfl | (simp; done) | (simp [*]; done), by repeat (first | exact Drawn0.refl _ | apply Drawn0.step)⟩
end Go.Proofs.Ytmmjpieafbjggaa.P
end
section
namespace Go.Proofs.Ytmmjpieafbjggaa.P
open Go.RowKit Go.Proofs.YtmmjpieafbjggaaW.PrintWords Go.Proofs.YtmmjpieafbjggaaW.PrintLast Go.Proofs.YtmmjpieafbjggaaW.PrintMore
attribute [local go_sem] max2_int min2_int max_two min_two max_three min_three max_four min_four   -- for this text's walks alone
attribute [local go_sem] x_str_gtr x_str_leq x_str_geq ext_bits ext_frombits ext_neg x_store_float Instr.field asAgg
set_option linter.unusedVariables false
set_option linter.unusedSimpArgs false
def engrossref1_Place.f (a0 : Nat) : Option (Int) := (engrossref1_NaN.f a0).bind fun t410 => (if t410 = true then (some (-9223372036854775808)) else (if (((a0 : Nat) : Int) / 9223372036854775808) = 1 then (some (wrap64 ((wrap64 (-(wrap64 (Go.bits .and .u64 ((a0 : Nat) : Int) 9223372036854775807)))) - 1))) else (some (wrap64 (((a0 : Nat) : Int))))))
set_option maxHeartbeats 8000000 in
set_option maxRecDepth 100000 in
theorem engrossref1_Place.calls (a0 : Nat) (r : Int) (w : World) (h : engrossref1_Place.f a0 = some r) :
  Calls Try.prog 68 #[.float .f64 a0] w fun e w' => e = .returned (.int .i64 r) ∧ Drawn0 w w' := by
 have H : ((engrossref1_NaN.f a0).bind fun t410 => (if t410 = true then (some (-9223372036854775808)) else (if (((a0 : Nat) : Int) / 9223372036854775808) = 1 then (some (wrap64 ((wrap64 (-(wrap64 (Go.bits .and .u64 ((a0 : Nat) : Int) 9223372036854775807)))) - 1))) else (some (wrap64 (((a0 : Nat) : Int))))))) = some r := h
 clear h
 replace H := Option.bind_eq_some_iff.mp H
 obtain ⟨t410, A20, H⟩ := H
 replace H : (if t410 = true then (some (-9223372036854775808)) else (if (((a0 : Nat) : Int) / 9223372036854775808) = 1 then (some (wrap64 ((wrap64 (-(wrap64 (Go.bits .and .u64 ((a0 : Nat) : Int) 9223372036854775807)))) - 1))) else (some (wrap64 (((a0 : Nat) : Int)))))) = some r := H
 have A2 := Aside0.mk A20
 clear A20
 by_cases c3 : t410 = true
 ·subst c3
  have H1 : (some (-9223372036854775808)) = some r := by rw [if_pos rfl] at H; exact H
  clear H
  have H := H1
  clear H1
  obtain rfl := Option.some.inj H
  go_enter Try.func68, Try.ntmps68
  go_wp2_with (first | ((with_reducible refine gate_callee (f := 69) rfl ?_); refine gL (some 5) Try.func69 #[.float .f64 a0] ?_; (with_reducible refine (engrossref1_NaN.calls a0 true _ A2.out).mono ?_); rintro e w' ⟨rfl, ⟨nd, rfl⟩⟩; refine ⟨_, rfl, ?_⟩))
  go_ret
  exact ⟨by first | rfl | (simp; done) | (simp [*]; done), by repeat (first | exact Drawn0.refl _ | apply Drawn0.step)⟩
 replace c3 := Bool.eq_false_iff.mpr c3
 subst c3
 have H1 : (if (((a0 : Nat) : Int) / 9223372036854775808) = 1 then (some (wrap64 ((wrap64 (-(wrap64 (Go.bits .and .u64 ((a0 : Nat) : Int) 9223372036854775807)))) - 1))) else (some (wrap64 (((a0 : Nat) : Int))))) = some r := by rw [if_neg (show ¬ (false = true) by decide)] at H; exact H
 clear H
 have H := H1
 clear H1
 by_cases c4 : (((a0 : Nat) : Int) / 9223372036854775808) = 1
 rotate_left
 ·rw [if_neg c4] at H
  have c4b0 : ((((a0 : Nat) : Int) / 9223372036854775808) == 1) = false := beq_eq_false_iff_ne.mpr c4
  have c4b1 : ((((a0 : Nat) : Int) / 9223372036854775808) != 1) = true := bne_iff_ne.mpr c4
  obtain rfl := Option.some.inj H
  go_enter Try.func68, Try.ntmps68
  go_wp2_with (first | ((with_reducible refine gate_callee (f := 69) rfl ?_); refine gL (some 5) Try.func69 #[.float .f64 a0] ?_; (with_reducible refine (engrossref1_NaN.calls a0 false _ A2.out).mono ?_); rintro e w' ⟨rfl, ⟨nd, rfl⟩⟩; refine ⟨_, rfl, ?_⟩))
  go_ret
  exact ⟨by first | rfl | (simp; done) | (simp [*]; done), by repeat (first | exact Drawn0.refl _ | apply Drawn0.step)⟩
 rw [if_pos c4] at H
 have c4b0 : ((((a0 : Nat) : Int) / 9223372036854775808) == 1) = true := beq_iff_eq.mpr c4
 have c4b1 : ((((a0 : Nat) : Int) / 9223372036854775808) != 1) = false := bne_eq_false_iff_eq.mpr c4
 clear c4
 obtain rfl := Option.some.inj H
 go_enter Try.func68, Try.ntmps68
 go_wp2_with (first | ((with_reducible refine gate_callee (f := 69) rfl ?_); refine gL (some 5) Try.func69 #[.float .f64 a0] ?_; (with_reducible refine (engrossref1_NaN.calls a0 false _ A2.out).mono ?_); rintro e w' ⟨rfl, ⟨nd, rfl⟩⟩; refine ⟨_, rfl, ?_⟩))
 go_ret
 exact ⟨by first | rfl | (simp; done) | (simp [*]; done), by repeat (first | exact Drawn0.refl _ | apply Drawn0.step)⟩
end Go.Proofs.Ytmmjpieafbjggaa.P
end
section
namespace Go.Proofs.Ytmmjpieafbjggaa.P
open Go.RowKit Go.Proofs.YtmmjpieafbjggaaW.PrintWords Go.Proofs.YtmmjpieafbjggaaW.PrintLast Go.Proofs.YtmmjpieafbjggaaW.PrintMore
attribute [local go_sem] max2_int min2_int max_two min_two max_three min_three max_four min_four   -- for this text's walks alone
attribute [local go_sem] x_str_gtr x_str_leq x_str_geq ext_bits ext_frombits ext_neg x_store_float Instr.field asAgg
set_option linter.unusedVariables false
set_option linter.unusedSimpArgs false
def engrosslaw10_Of.f (a0_0 : ByteArray) (a0_1 : Int) (a0_2 : Nat) (a0_3 : ByteArray) (a0_4 : Int) (a0_5 : Int) (a0_6 : Nat) (a0_7 : ByteArray) : Option (ByteArray × Int × Nat × ByteArray × Int × Int × Nat × ByteArray) := some (a0_0, a0_1, a0_2, a0_3, a0_4, a0_5, a0_6, a0_7)
set_option maxHeartbeats 8000000 in
set_option maxRecDepth 100000 in
theorem engrosslaw10_Of.calls (a0_0 : ByteArray) (a0_1 : Int) (a0_2 : Nat) (a0_3 : ByteArray) (a0_4 : Int) (a0_5 : Int) (a0_6 : Nat) (a0_7 : ByteArray) (r1 : ByteArray) (r2 : Int) (r3 : Nat) (r4 : ByteArray) (r5 : Int) (r6 : Int) (r7 : Nat) (r8 : ByteArray) (w : World) (h : engrosslaw10_Of.f a0_0 a0_1 a0_2 a0_3 a0_4 a0_5 a0_6 a0_7 = some (r1, r2, r3, r4, r5, r6, r7, r8)) :
  Calls Try.prog 35 #[.agg #[.string a0_0, .int .i64 a0_1, .float .f64 a0_2, .string a0_3, .int .i64 a0_4, .int .i64 a0_5, .float .f64 a0_6, .string a0_7]] w fun e w' => e = .returned (.agg #[.string r1, .int .i64 r2, .float .f64 r3, .string r4, .int .i64 r5, .int .i64 r6, .float .f64 r7, .string r8]) ∧ Below w.heap.size w w' := by
 have hu56 := Try.underlying56
 have hu62 := Try.underlying62
 have hu54 := Try.underlying54
 have HB := Aside0.mk (Below.refl w.heap.size w)
 have H : (some (a0_0, a0_1, a0_2, a0_3, a0_4, a0_5, a0_6, a0_7)) = some (r1, r2, r3, r4, r5, r6, r7, r8) := h
 clear h
 simp only [Option.some.injEq, Prod.mk.injEq] at H
 obtain ⟨rfl, rfl, rfl, rfl, rfl, rfl, rfl, rfl⟩ := H
 go_enter Try.func35, Try.ntmps35
 go_wp2_with (first | ((with_reducible refine gate_dst (N := 1) rfl ?_); refine box_event ?hg (N := 1) ?hd (cs := #[.string a0_0, .int .i64 a0_1, .float .f64 a0_2, .string a0_3, .int .i64 a0_4, .int .i64 a0_5, .float .f64 a0_6, .string a0_7]) (t := 56) ?hr ?_; (case hd => rfl); (case hg => rfl); (case hr => first | (go_simp; done) | (go_simp; rfl)); intro gb495 hg w2 hbox hb; have BK495 := Aside0.mk (hbox); have GW495 := bZ HB hg; have GE495 := bZ HB hg; replace HB := bW HB hb; clear hb hbox hg) | ((with_reducible refine gate_dst (N := 2) rfl ?_); refine box_event ?hg (N := 2) ?hd (cs := #[.string (⟨#[]⟩ : ByteArray), .int .i64 0, .float .f64 0, .string (⟨#[]⟩ : ByteArray), .int .i64 0, .int .i64 0, .float .f64 0, .string (⟨#[]⟩ : ByteArray)]) (t := 62) ?hr ?_; (case hd => rfl); (case hg => rfl); (case hr => first | (go_simp; done) | (go_simp; rfl)); intro gb496 hg w3 hbox hb; have BK496 := Aside0.mk (hbox); have GW496 := bZ HB hg; have GE496 := bZ HB hg; have NB495_496 := bL BK495 hg; have NB496_495 := bG BK495 hg; replace BK495 := bB BK495 hb; replace HB := bW HB hb; clear hb hbox hg; have hnb4 := NB495_496.out; have hnc4 := NB496_495.out; obtain ⟨hcz5_0, hcz5_1, hcz5_2, hcz5_3, hcz5_4, hcz5_5, hcz5_6, hcz5_7, hfz5_0, hfz5_1, hfz5_2, hfz5_3, hfz5_4, hfz5_5, hfz5_6, hfz5_7⟩ := bf8 (w := w3) BK495; obtain ⟨hcz6_0, hcz6_1, hcz6_2, hcz6_3, hcz6_4, hcz6_5, hcz6_6, hcz6_7, hfz6_0, hfz6_1, hfz6_2, hfz6_3, hfz6_4, hfz6_5, hfz6_6, hfz6_7⟩ := bf8 (w := w3) BK496))
 refine bodyPost_ret (results_cell_row rfl _ _ gb496 62 #[.string a0_0, .int .i64 a0_1, .float .f64 a0_2, .string a0_3, .int .i64 a0_4, .int .i64 a0_5, .float .f64 a0_6, .string a0_7] (0, 0) _ rfl (bR BK496) Try.underlying62 rfl (by kernel_rfl)) rfl ?_
 exact xB HB
end Go.Proofs.Ytmmjpieafbjggaa.P
end
section
namespace Go.Proofs.Ytmmjpieafbjggaa.P
open Go.RowKit Go.Proofs.YtmmjpieafbjggaaW.PrintWords Go.Proofs.YtmmjpieafbjggaaW.PrintLast Go.Proofs.YtmmjpieafbjggaaW.PrintMore
attribute [local go_sem] max2_int min2_int max_two min_two max_three min_three max_four min_four   -- for this text's walks alone
attribute [local go_sem] x_str_gtr x_str_leq x_str_geq ext_bits ext_frombits ext_neg x_store_float Instr.field asAgg
set_option linter.unusedVariables false
set_option linter.unusedSimpArgs false
def engrosslaw11_Of.l0 : Nat → Int → Bool → List (S56) → List ByteArray → List Int → Bool → List (S62) → List ByteArray → List Int → Option (Bool × (List (S62)) × List ByteArray × List Int)
 | 0, _, _, _, _, _, _, _, _, _ => none
 | k + 1, x4, x498000, x498001, x498002, x498003, x500000, x500001, x500002, x500003 => if x4 < (x498001.length : Int) then (if 0 ≤ x4 then ((engrosslaw10_Of.f ((rd_T56 x498001 x4).f0) ((rd_T56 x498001 x4).f1.f0) ((rd_T56 x498001 x4).f1.f1) ((rd_T56 x498001 x4).f1.f2) ((rd_T56 x498001 x4).f2) ((rd_T56 x498001 x4).f3.f0) ((rd_T56 x498001 x4).f3.f1) ((rd_T56 x498001 x4).f3.f2)).bind fun bt501 => (if x500001.length < 1599289640401 then (engrosslaw11_Of.l0 k (wrap64 (x4 + 1)) x498000 x498001 x498002 x498003 x500000 (x500001 ++ [(⟨bt501.1, (⟨bt501.2.1, bt501.2.2.1, bt501.2.2.2.1⟩ : S54), bt501.2.2.2.2.1, (⟨bt501.2.2.2.2.2.1, bt501.2.2.2.2.2.2.1, bt501.2.2.2.2.2.2.2⟩ : S54)⟩ : S62)]) x500002 x500003) else (none))) else (none)) else (some (x500000, x500001, x500002, x500003))
def engrosslaw11_Of.f (k : Nat) (a0_0 : Bool) (l0_1 : List (S56)) (l0_2 : List ByteArray) (l0_3 : List Int) : Option (Bool × (List (S62)) × List ByteArray × List Int) := engrosslaw11_Of.l0 k 0 a0_0 l0_1 l0_2 l0_3 a0_0 ([] : List (S62)) l0_2 l0_3
def engrosslaw11_Of.T5 : Bool × List (List Nat × List Nat) := (true, [([], []), ([0], [0]), ([], []), ([2], [2]), ([], []), ([3, 4], [3, 4]), ([5], [5]), ([6], [6]), ([7], [7]), ([1, 8, 7], [1, 8]), ([0, 1, 2, 3, 4, 5, 6, 7, 8, 9], []), ([10, 9, 9, 0, 1, 2, 3, 4, 5, 6, 7, 8, 9], [9, 10])])
def engrosslaw11_Of.B5 : List Nat := [0, 1, 0, 4, 0, 28, 60, 124, 252, 511, 1023, 2047]
theorem engrosslaw11_Of.tab5 : rtab .any (opsOf Try.f17 5) = engrosslaw11_Of.T5 := by kernel_rfl
theorem engrosslaw11_Of.bits5 : waitsOk engrosslaw11_Of.T5.2 engrosslaw11_Of.B5 = true := by kernel_rfl
set_option maxHeartbeats 8000000 in
set_option maxRecDepth 100000 in
theorem engrosslaw11_Of.calls (k : Nat) (a0_0 : Bool) (A0_1 : Option Addr) (c0_1 : Nat) (l0_1 : List (S56)) (P0_2_ : Nat → Prop) (A0_2 : Option Addr) (c0_2 : Nat) (l0_2 : List ByteArray) (P0_3_ : Nat → Prop) (A0_3 : Option Addr) (c0_3 : Nat) (l0_3 : List Int) (r1 : Bool) (r2 : List (S62)) (r3 : List ByteArray) (r4 : List Int) (w : World) (hr0_1 : Kd.C k56 w A0_1 l0_1.length l0_1) (hc0_1 : l0_1.length ≤ c0_1) (hs0_2 : Kd.V Kd.string 9 w w.heap.size (fun k_ => P0_2_ k_) (.slice A0_2 l0_2.length c0_2) l0_2) (hs0_3 : Kd.V (Kd.int .i64) 3 w w.heap.size (fun k_ => P0_3_ k_) (.slice A0_3 l0_3.length c0_3) l0_3) (h : engrosslaw11_Of.f k a0_0 l0_1 l0_2 l0_3 = some (r1, r2, r3, r4)) :
  Calls Try.prog 17 #[.agg #[.bool a0_0, .slice A0_1 l0_1.length c0_1, .slice A0_2 l0_2.length c0_2, .slice A0_3 l0_3.length c0_3]] w fun e w' => ∃ v1_ v2_ v3_ : Value, e = .returned (.agg #[.bool r1, v1_, v2_, v3_]) ∧ Kd.R k62 62 w' w.heap.size (fun k_ => (w.heap.size ≤ k_)) v1_ r2 ∧ Kd.V Kd.string 9 w' w.heap.size (fun k_ => ((P0_2_ k_ ∨ P0_3_ k_) ∨ w.heap.size ≤ k_) ∧ some k_ ≠ (v1_ : Value).ownBlock) v2_ r3 ∧ Kd.V (Kd.int .i64) 3 w' w.heap.size (fun k_ => ((P0_2_ k_ ∨ P0_3_ k_) ∨ w.heap.size ≤ k_) ∧ some k_ ≠ (v1_ : Value).ownBlock) v3_ r4 ∧ Below w.heap.size w w' := by
 have hu26 := Try.underlying26
 have hu36 := Try.underlying36
 have hu56 := Try.underlying56
 have HR0_1 := Aside0.mk hr0_1
 have HC0_1 := Aside0.mk hc0_1
 clear hr0_1 hc0_1
 have HO0_2 := Aside0.mk (show Kd.V Kd.string 9 w w.heap.size (fun k_ => ((P0_2_ k_ ∨ P0_3_ k_) ∨ w.heap.size ≤ k_)) (.slice A0_2 l0_2.length c0_2) l0_2 from Kd.V_mono hs0_2 (fun k_ hk => .inl (.inl hk)))
 have HO0_3 := Aside0.mk (show Kd.V (Kd.int .i64) 3 w w.heap.size (fun k_ => ((P0_2_ k_ ∨ P0_3_ k_) ∨ w.heap.size ≤ k_)) (.slice A0_3 l0_3.length c0_3) l0_3 from Kd.V_mono hs0_3 (fun k_ hk => .inl (.inr hk)))
 have HB := Aside0.mk (Below.refl w.heap.size w)
 have H : (engrosslaw11_Of.l0 k 0 a0_0 l0_1 l0_2 l0_3 a0_0 ([] : List (S62)) l0_2 l0_3) = some (r1, r2, r3, r4) := h
 clear h
 have H' := Aside0.mk H
 clear H
 go_enter Try.func17, Try.ntmps17
 go_wp2_with (first | ((with_reducible refine gate_dst (N := 1) rfl ?_); refine box_event ?hg (N := 1) ?hd (cs := #[.bool a0_0, .slice A0_1 l0_1.length c0_1, .slice A0_2 l0_2.length c0_2, .slice A0_3 l0_3.length c0_3]) (t := 26) ?hr ?_; (case hd => rfl); (case hg => rfl); (case hr => first | (go_simp; done) | (go_simp; rfl)); intro gb497 hg w2 hbox hb; have BK497 := Aside0.mk (hbox); have GW497 := bZ HB hg; have GE497 := bZ HB hg; replace HO0_2 := Aside0.mk (Kd.V_below (Kd.V_elderB (by (with_reducible repeat (first | apply Kd.V_alloc | apply Kd.V_drewN | apply Kd.V_drew)); exact HO0_2.out) gb497 (Nat.le_of_eq hg.symm)) hb); replace HO0_3 := Aside0.mk (Kd.V_below (Kd.V_elderB (by (with_reducible repeat (first | apply Kd.V_alloc | apply Kd.V_drewN | apply Kd.V_drew)); exact HO0_3.out) gb497 (Nat.le_of_eq hg.symm)) hb); replace HB := bW HB hb; clear hb hbox hg) | ((with_reducible refine gate_dst (N := 2) rfl ?_); refine box_event ?hg (N := 2) ?hd (cs := #[.bool false, .slice none 0 0, .slice none 0 0, .slice none 0 0]) (t := 36) ?hr ?_; (case hd => rfl); (case hg => rfl); (case hr => first | (go_simp; done) | (go_simp; rfl)); intro gb498 hg w3 hbox hb; have BK498 := Aside0.mk (hbox); have GW498 := bZ HB hg; have GE498 := bZ HB hg; have NB497_498 := bL BK497 hg; have NB498_497 := bG BK497 hg; replace HO0_2 := Aside0.mk (Kd.V_below (Kd.V_elderB (by (with_reducible repeat (first | apply Kd.V_alloc | apply Kd.V_drewN | apply Kd.V_drew)); exact HO0_2.out) gb498 (Nat.le_of_eq hg.symm)) hb); replace HO0_3 := Aside0.mk (Kd.V_below (Kd.V_elderB (by (with_reducible repeat (first | apply Kd.V_alloc | apply Kd.V_drewN | apply Kd.V_drew)); exact HO0_3.out) gb498 (Nat.le_of_eq hg.symm)) hb); replace BK497 := bB BK497 hb; replace HB := bW HB hb; clear hb hbox hg; have hnb4 := NB497_498.out; have hnc4 := NB498_497.out; obtain ⟨hcz5_0, hcz5_1, hcz5_2, hcz5_3, hfz5_0, hfz5_1, hfz5_2, hfz5_3⟩ := bf4 (w := w3) BK497) | ((with_reducible refine gate_dst (N := 3) rfl ?_); refine box_event ?hg (N := 3) ?hd (cs := #[.bool false, .slice none 0 0, .slice none 0 0, .slice none 0 0]) (t := 36) ?hr ?_; (case hd => rfl); (case hg => rfl); (case hr => first | (go_simp; done) | (go_simp; rfl)); intro gb499 hg w6 hbox hb; have BK499 := Aside0.mk (hbox); have GW499 := bZ HB hg; have GE499 := bZ HB hg; have NB497_499 := bL BK497 hg; have NB499_497 := bG BK497 hg; have NB498_499 := bL BK498 hg; have NB499_498 := bG BK498 hg; replace HO0_2 := Aside0.mk (Kd.V_below (Kd.V_elderB (by (with_reducible repeat (first | apply Kd.V_alloc | apply Kd.V_drewN | apply Kd.V_drew)); exact HO0_2.out) gb499 (Nat.le_of_eq hg.symm)) hb); replace HO0_3 := Aside0.mk (Kd.V_below (Kd.V_elderB (by (with_reducible repeat (first | apply Kd.V_alloc | apply Kd.V_drewN | apply Kd.V_drew)); exact HO0_3.out) gb499 (Nat.le_of_eq hg.symm)) hb); replace BK497 := bB BK497 hb; replace BK498 := bB BK498 hb; replace HB := bW HB hb; clear hb hbox hg; have hnb7 := NB499_497.out; have hnc7 := NB497_499.out; have hnb8 := NB499_498.out; have hnc8 := NB498_499.out; obtain ⟨hcz9_0, hcz9_1, hcz9_2, hcz9_3, hfz9_0, hfz9_1, hfz9_2, hfz9_3⟩ := bf4 (w := w6) BK499))
 go_loopg [4] k (fun kq v4 w' => ∃ (x4_1 : Int) (x500001_1 : List (S62)) (u500001 : Value), v4 = .int .i64 x4_1 ∧ Aside0 (engrosslaw11_Of.l0 kq x4_1 a0_0 l0_1 l0_2 l0_3 a0_0 x500001_1 l0_2 l0_3 = some (r1, r2, r3, r4)) ∧ Aside0 (kq ≤ k) ∧ Aside0 (Kd.V Kd.string 9 w' w.heap.size (fun k_ => ((P0_2_ k_ ∨ P0_3_ k_) ∨ w.heap.size ≤ k_) ∧ some k_ ≠ (u500001 : Value).ownBlock ∧ k_ ≠ gb497 ∧ k_ ≠ gb498 ∧ k_ ≠ gb499) (.slice A0_2 l0_2.length c0_2) l0_2) ∧ Aside0 (Kd.V (Kd.int .i64) 3 w' w.heap.size (fun k_ => ((P0_2_ k_ ∨ P0_3_ k_) ∨ w.heap.size ≤ k_) ∧ some k_ ≠ (u500001 : Value).ownBlock ∧ k_ ≠ gb497 ∧ k_ ≠ gb498 ∧ k_ ≠ gb499) (.slice A0_3 l0_3.length c0_3) l0_3) ∧ Aside0 (Kd.R k62 62 w' w.heap.size (fun k_ => (w.heap.size ≤ k_)) u500001 x500001_1) ∧ Aside0 (Kd.V Kd.string 9 w' w.heap.size (fun k_ => ((P0_2_ k_ ∨ P0_3_ k_) ∨ w.heap.size ≤ k_) ∧ some k_ ≠ (u500001 : Value).ownBlock ∧ k_ ≠ gb497 ∧ k_ ≠ gb498 ∧ k_ ≠ gb499) (.slice A0_2 l0_2.length c0_2) l0_2) ∧ Aside0 (Kd.V (Kd.int .i64) 3 w' w.heap.size (fun k_ => ((P0_2_ k_ ∨ P0_3_ k_) ∨ w.heap.size ≤ k_) ∧ some k_ ≠ (u500001 : Value).ownBlock ∧ k_ ≠ gb497 ∧ k_ ≠ gb498 ∧ k_ ≠ gb499) (.slice A0_3 l0_3.length c0_3) l0_3) ∧ Aside0 (w'.heap[gb497]? = some (.cells #[.bool a0_0, (.slice A0_1 l0_1.length c0_1), (.slice A0_2 l0_2.length c0_2), (.slice A0_3 l0_3.length c0_3)] 26 (0, 0))) ∧ Aside0 (w'.heap[gb498]? = some (.cells #[.bool false, (.slice none 0 0), (.slice none 0 0), (.slice none 0 0)] 36 (0, 0))) ∧ Aside0 (w'.heap[gb499]? = some (.cells #[.bool a0_0, u500001, (.slice A0_2 l0_2.length c0_2), (.slice A0_3 l0_3.length c0_3)] 36 (0, 0))) ∧ Aside0 (Below w.heap.size w w'))
 case atStart => exact ⟨(0), (([] : List (S62))), (.slice none 0 0), (by first | rfl | (simp; done) | (simp [*]; done)), H', ⟨Nat.le_refl _⟩, ⟨by (with_reducible repeat (first | apply Kd.V_alloc | apply Kd.V_drewN | apply Kd.V_drew)); exact Kd.V_mono (Kd.V_far (p := ⟨gb499, 3, none⟩) (Kd.V_far (p := ⟨gb499, 2, none⟩) (Kd.V_far (p := ⟨gb499, 1, none⟩) (Kd.V_far (p := ⟨gb499, 0, none⟩) (Kd.V_mono HO0_2.out (fun k_ hk => (⟨hk, hk.2⟩ : _ ∧ k_ ≠ gb499))) (fun _ hk => hk.2) (.bool a0_0)) (fun _ hk => hk.2) (.slice none 0 0)) (fun _ hk => hk.2) (.slice A0_2 l0_2.length c0_2)) (fun _ hk => hk.2) (.slice A0_3 l0_3.length c0_3)) (fun _ hk => ⟨hk.1.1.1.1, ⟨(by simp [Value.ownBlock]), ⟨hk.1.1.1.2, ⟨hk.1.1.2, hk.1.2⟩⟩⟩⟩)⟩, ⟨by (with_reducible repeat (first | apply Kd.V_alloc | apply Kd.V_drewN | apply Kd.V_drew)); exact Kd.V_mono (Kd.V_far (p := ⟨gb499, 3, none⟩) (Kd.V_far (p := ⟨gb499, 2, none⟩) (Kd.V_far (p := ⟨gb499, 1, none⟩) (Kd.V_far (p := ⟨gb499, 0, none⟩) (Kd.V_mono HO0_3.out (fun k_ hk => (⟨hk, hk.2⟩ : _ ∧ k_ ≠ gb499))) (fun _ hk => hk.2) (.bool a0_0)) (fun _ hk => hk.2) (.slice none 0 0)) (fun _ hk => hk.2) (.slice A0_2 l0_2.length c0_2)) (fun _ hk => hk.2) (.slice A0_3 l0_3.length c0_3)) (fun _ hk => ⟨hk.1.1.1.1, ⟨(by simp [Value.ownBlock]), ⟨hk.1.1.1.2, ⟨hk.1.1.2, hk.1.2⟩⟩⟩⟩)⟩, ⟨by first | exact Kd.R_nil _ _ _ _ _ | exact Kd.N_nil _ _ _ _ _ | exact Kd.V_nil _ _ _ _ _ | exact Kd.Q_nil _ _ _ _ _ | exact Kd.S_nil _ _ _ _ _⟩, ⟨by (with_reducible repeat (first | apply Kd.V_alloc | apply Kd.V_drewN | apply Kd.V_drew)); exact Kd.V_mono (Kd.V_far (p := ⟨gb499, 3, none⟩) (Kd.V_far (p := ⟨gb499, 2, none⟩) (Kd.V_far (p := ⟨gb499, 1, none⟩) (Kd.V_far (p := ⟨gb499, 0, none⟩) (Kd.V_mono HO0_2.out (fun k_ hk => (⟨hk, hk.2⟩ : _ ∧ k_ ≠ gb499))) (fun _ hk => hk.2) (.bool a0_0)) (fun _ hk => hk.2) (.slice none 0 0)) (fun _ hk => hk.2) (.slice A0_2 l0_2.length c0_2)) (fun _ hk => hk.2) (.slice A0_3 l0_3.length c0_3)) (fun _ hk => ⟨hk.1.1.1.1, ⟨(by simp [Value.ownBlock]), ⟨hk.1.1.1.2, ⟨hk.1.1.2, hk.1.2⟩⟩⟩⟩)⟩, ⟨by (with_reducible repeat (first | apply Kd.V_alloc | apply Kd.V_drewN | apply Kd.V_drew)); exact Kd.V_mono (Kd.V_far (p := ⟨gb499, 3, none⟩) (Kd.V_far (p := ⟨gb499, 2, none⟩) (Kd.V_far (p := ⟨gb499, 1, none⟩) (Kd.V_far (p := ⟨gb499, 0, none⟩) (Kd.V_mono HO0_3.out (fun k_ hk => (⟨hk, hk.2⟩ : _ ∧ k_ ≠ gb499))) (fun _ hk => hk.2) (.bool a0_0)) (fun _ hk => hk.2) (.slice none 0 0)) (fun _ hk => hk.2) (.slice A0_2 l0_2.length c0_2)) (fun _ hk => hk.2) (.slice A0_3 l0_3.length c0_3)) (fun _ hk => ⟨hk.1.1.1.1, ⟨(by simp [Value.ownBlock]), ⟨hk.1.1.1.2, ⟨hk.1.1.2, hk.1.2⟩⟩⟩⟩)⟩, ⟨by (with_reducible repeat (first | refine blk_drewN ?_ _ | refine blk_drew ?_ | refine blk_alloc ?_ _)); refine blk_far ?_ NB497_499.out _; (with_reducible repeat (first | refine blk_drewN ?_ _ | refine blk_drew ?_ | refine blk_alloc ?_ _)); refine blk_far ?_ NB497_499.out _; (with_reducible repeat (first | refine blk_drewN ?_ _ | refine blk_drew ?_ | refine blk_alloc ?_ _)); refine blk_far ?_ NB497_499.out _; (with_reducible repeat (first | refine blk_drewN ?_ _ | refine blk_drew ?_ | refine blk_alloc ?_ _)); refine blk_far ?_ NB497_499.out _; (with_reducible repeat (first | refine blk_drewN ?_ _ | refine blk_drew ?_ | refine blk_alloc ?_ _)); exact BK497.out⟩, ⟨by (with_reducible repeat (first | refine blk_drewN ?_ _ | refine blk_drew ?_ | refine blk_alloc ?_ _)); refine blk_far ?_ NB498_499.out _; (with_reducible repeat (first | refine blk_drewN ?_ _ | refine blk_drew ?_ | refine blk_alloc ?_ _)); refine blk_far ?_ NB498_499.out _; (with_reducible repeat (first | refine blk_drewN ?_ _ | refine blk_drew ?_ | refine blk_alloc ?_ _)); refine blk_far ?_ NB498_499.out _; (with_reducible repeat (first | refine blk_drewN ?_ _ | refine blk_drew ?_ | refine blk_alloc ?_ _)); refine blk_far ?_ NB498_499.out _; (with_reducible repeat (first | refine blk_drewN ?_ _ | refine blk_drew ?_ | refine blk_alloc ?_ _)); exact BK498.out⟩, ⟨by (with_reducible repeat (first | refine blk_drewN ?_ _ | refine blk_drew ?_ | refine blk_alloc ?_ _)); refine blk_put (cs := #[.bool a0_0, .slice none 0 0, .slice A0_2 l0_2.length c0_2, .slice none 0 0]) ?_ 3 _ rfl; (with_reducible repeat (first | refine blk_drewN ?_ _ | refine blk_drew ?_ | refine blk_alloc ?_ _)); refine blk_put (cs := #[.bool a0_0, .slice none 0 0, .slice none 0 0, .slice none 0 0]) ?_ 2 _ rfl; (with_reducible repeat (first | refine blk_drewN ?_ _ | refine blk_drew ?_ | refine blk_alloc ?_ _)); refine blk_put (cs := #[.bool a0_0, .slice none 0 0, .slice none 0 0, .slice none 0 0]) ?_ 1 _ rfl; (with_reducible repeat (first | refine blk_drewN ?_ _ | refine blk_drew ?_ | refine blk_alloc ?_ _)); refine blk_put (cs := #[.bool false, .slice none 0 0, .slice none 0 0, .slice none 0 0]) ?_ 0 _ rfl; (with_reducible repeat (first | refine blk_drewN ?_ _ | refine blk_drew ?_ | refine blk_alloc ?_ _)); exact BK499.out⟩, ⟨by repeat (first | (with_reducible first | exact HB.out | apply below_alloc | apply pw_below_drewN | apply below_drew1 | refine below_set ?_ GE497.out | refine below_set ?_ GE498.out | refine below_set ?_ GE499.out) | exact HB.out)⟩⟩
 case round =>
  clear H'
  try clear c1
  try clear p2
  try clear c4
  try clear c7
  try clear c8
  try clear hcz5_0
  try clear hcz5_1
  try clear hcz5_2
  try clear hcz5_3
  try clear hcz9_0
  try clear hcz9_1
  try clear hcz9_2
  try clear hcz9_3
  try clear hfz5_0
  try clear hfz5_1
  try clear hfz5_2
  try clear hfz5_3
  try clear hfz9_0
  try clear hfz9_1
  try clear hfz9_2
  try clear hfz9_3
  obtain ⟨x4_1, x500001_1, u500001, rfl, HA, HK1, HO_498002, HO_498003, HO_500001, HO_500002, HO_500003, BK497, BK498, BK499, HB⟩ := hrel
  cases gk with
  | zero => exact absurd HA.out (by simp [engrosslaw11_Of.l0])
  | succ k1 =>
   have H := HA.out
   clear HA
   simp only [engrosslaw11_Of.l0] at H
   by_cases c10 : x4_1 < (l0_1.length : Int)
   rotate_left
   ·rw [if_neg c10] at H
    have c10b0 : decide (x4_1 < (l0_1.length : Int)) = false := decide_eq_false c10
    clear c10
    simp only [Option.some.injEq, Prod.mk.injEq] at H
    obtain ⟨rfl, rfl, rfl, rfl⟩ := H
    have hnb22 := NB497_498.out
    have hnc22 := NB498_497.out
    have hnb23 := NB497_499.out
    have hnc23 := NB499_497.out
    obtain ⟨hcz24_0, hcz24_1, hcz24_2, hcz24_3, hfz24_0, hfz24_1, hfz24_2, hfz24_3⟩ := bf4 (w := wr) BK497
    have hnb25 := NB499_498.out
    have hnc25 := NB498_499.out
    obtain ⟨hcz26_0, hcz26_1, hcz26_2, hcz26_3, hfz26_0, hfz26_1, hfz26_2, hfz26_3⟩ := bf4 (w := wr) BK499
    obtain ⟨hcz27_0, hcz27_1, hcz27_2, hcz27_3, hfz27_0, hfz27_1, hfz27_2, hfz27_3⟩ := bf4 (w := wr) BK498
    obtain ⟨Ao28, co28, eo28⟩ := Kd.R_slice HO_500001.out
    subst eo28
    go_wp2
    refine bodyPost_ret (results_cell_row rfl _ _ gb498 36 #[.bool a0_0, .slice Ao28 x500001_1.length co28, .slice A0_2 l0_2.length c0_2, .slice A0_3 l0_3.length c0_3] (0, 0) _ rfl (bR BK498) Try.underlying36 rfl (by kernel_rfl)) rfl ?_
    exact ⟨_, _, _, by first | rfl | (simp [errW_none, errW_some] <;> rfl) | (simp [*, errW_none, errW_some] <;> rfl), by (with_reducible repeat (first | apply Kd.R_alloc | apply Kd.R_drewN | apply Kd.R_drew)); exact Kd.R_mono (Kd.R_far (p := ⟨gb498, 3, none⟩) (Kd.R_far (p := ⟨gb498, 2, none⟩) (Kd.R_far (p := ⟨gb498, 1, none⟩) (Kd.R_far (p := ⟨gb498, 0, none⟩) (Kd.R_types HO_500001.out BK498.out (by decide)) (fun _ hk => hk.2) (.bool a0_0)) (fun _ hk => hk.2) (.slice Ao28 x500001_1.length co28)) (fun _ hk => hk.2) (.slice A0_2 l0_2.length c0_2)) (fun _ hk => hk.2) (.slice A0_3 l0_3.length c0_3)) (fun _ hk => hk.1), by (with_reducible repeat (first | apply Kd.V_alloc | apply Kd.V_drewN | apply Kd.V_drew)); exact Kd.V_mono (Kd.V_far (p := ⟨gb498, 3, none⟩) (Kd.V_far (p := ⟨gb498, 2, none⟩) (Kd.V_far (p := ⟨gb498, 1, none⟩) (Kd.V_far (p := ⟨gb498, 0, none⟩) (Kd.V_mono HO_500002.out (fun k_ hk => (⟨hk, hk.2.2.2.1⟩ : _ ∧ k_ ≠ gb498))) (fun _ hk => hk.2) (.bool a0_0)) (fun _ hk => hk.2) (.slice Ao28 x500001_1.length co28)) (fun _ hk => hk.2) (.slice A0_2 l0_2.length c0_2)) (fun _ hk => hk.2) (.slice A0_3 l0_3.length c0_3)) (fun _ hk => ⟨hk.1.1, hk.1.2.1⟩), by (with_reducible repeat (first | apply Kd.V_alloc | apply Kd.V_drewN | apply Kd.V_drew)); exact Kd.V_mono (Kd.V_far (p := ⟨gb498, 3, none⟩) (Kd.V_far (p := ⟨gb498, 2, none⟩) (Kd.V_far (p := ⟨gb498, 1, none⟩) (Kd.V_far (p := ⟨gb498, 0, none⟩) (Kd.V_mono HO_500003.out (fun k_ hk => (⟨hk, hk.2.2.2.1⟩ : _ ∧ k_ ≠ gb498))) (fun _ hk => hk.2) (.bool a0_0)) (fun _ hk => hk.2) (.slice Ao28 x500001_1.length co28)) (fun _ hk => hk.2) (.slice A0_2 l0_2.length c0_2)) (fun _ hk => hk.2) (.slice A0_3 l0_3.length c0_3)) (fun _ hk => ⟨hk.1.1, hk.1.2.1⟩), by repeat (first | (with_reducible first | exact HB.out | apply below_alloc | apply pw_below_drewN | apply below_drew1 | refine below_set ?_ GE497.out | refine below_set ?_ GE498.out | refine below_set ?_ GE499.out) | exact HB.out)⟩
   rw [if_pos c10] at H
   have c10b0 : decide (x4_1 < (l0_1.length : Int)) = true := decide_eq_true c10
   clear c10
   by_cases c11 : 0 ≤ x4_1
   rotate_left
   ·rw [if_neg c11] at H
    exact absurd H (by simp)
   rw [if_pos c11] at H
   have c11b0 : decide (0 ≤ x4_1) = true := decide_eq_true c11
   clear c11
   replace H := Option.bind_eq_some_iff.mp H
   obtain ⟨⟨t501, t502, t503, t504, t505, t506, t507, t508⟩, A120, H⟩ := H
   replace H : (if x500001_1.length < 1599289640401 then (engrosslaw11_Of.l0 k1 (wrap64 (x4_1 + 1)) a0_0 l0_1 l0_2 l0_3 a0_0 (x500001_1 ++ [(⟨t501, (⟨t502, t503, t504⟩ : S54), t505, (⟨t506, t507, t508⟩ : S54)⟩ : S62)]) l0_2 l0_3) else (none)) = some (r1, r2, r3, r4) := H
   have A12 := Aside0.mk A120
   clear A120
   by_cases c13 : x500001_1.length < 1599289640401
   rotate_left
   ·rw [if_neg c13] at H
    exact absurd H (by simp)
   rw [if_pos c13] at H
   have LMc13 := Aside0.mk c13
   clear c13
   obtain ⟨y509, hy509⟩ : ∃ y_ : List (S62), y_ = (x500001_1 ++ [(⟨t501, (⟨t502, t503, t504⟩ : S54), t505, (⟨t506, t507, t508⟩ : S54)⟩ : S62)]) := ⟨_, rfl⟩
   replace H : (engrosslaw11_Of.l0 k1 (wrap64 (x4_1 + 1)) a0_0 l0_1 l0_2 l0_3 a0_0 y509 l0_2 l0_3) = some (r1, r2, r3, r4) := by first | (rw [hy509]; with_reducible exact H) | (have H2_ := (Option.bind_some _ _).symm.trans H; rw [hy509]; with_reducible exact H2_) | (have H2_ := (Option.bind_some _ _).symm.trans H; with_reducible exact H2_) | with_reducible exact H | (rw [hy509]; exact H) | exact H
   have Ny509 := Aside0.mk hy509
   clear hy509
   have H' := Aside0.mk H
   clear H
   have hnb14 := NB497_498.out
   have hnc14 := NB498_497.out
   have hnb15 := NB497_499.out
   have hnc15 := NB499_497.out
   obtain ⟨hcz16_0, hcz16_1, hcz16_2, hcz16_3, hfz16_0, hfz16_1, hfz16_2, hfz16_3⟩ := bf4 (w := wr) BK497
   try go_wp2
   replace HO_498002 := Aside0.mk (Kd.V_drew HO_498002.out)
   replace HO_498003 := Aside0.mk (Kd.V_drew HO_498003.out)
   replace HO_500001 := Aside0.mk (Kd.R_drew HO_500001.out)
   replace HO_500002 := Aside0.mk (Kd.V_drew HO_500002.out)
   replace HO_500003 := Aside0.mk (Kd.V_drew HO_500003.out)
   replace BK497 := Aside0.mk (blk_drew BK497.out)
   replace BK498 := Aside0.mk (blk_drew BK498.out)
   replace BK499 := Aside0.mk (blk_drew BK499.out)
   replace HB := Aside0.mk (below_drew1 HB.out)
   have p500 : 0 ≤ (x4_1 : Int) := of_decide_eq_true (by first | (with_reducible assumption) | assumption)
   have q500 : x4_1 < (l0_1.length : Int) := of_decide_eq_true (by first | (with_reducible assumption) | assumption)
   obtain ⟨ad500, e500, hx500_0, hx500_1, hx500_2, hx500_3, hx500_4, hx500_5, hx500_6, hx500_7⟩ := at_T56 HR0_1.out x4_1 p500 q500
   have hw500_7 := hx500_7
   have hw500_6 := hx500_6
   have hw500_5 := hx500_5
   have hw500_4 := hx500_4
   have hw500_3 := hx500_3
   have hw500_2 := hx500_2
   have hw500_1 := hx500_1
   have hw500_0 := hx500_0
   cases e500
   replace hx500_0 := (HB.out.cell (World.block_lt_of_cell? w _ hx500_0)).trans hx500_0
   replace hx500_1 := (HB.out.cell (World.block_lt_of_cell? w _ hx500_1)).trans hx500_1
   replace hx500_2 := (HB.out.cell (World.block_lt_of_cell? w _ hx500_2)).trans hx500_2
   replace hx500_3 := (HB.out.cell (World.block_lt_of_cell? w _ hx500_3)).trans hx500_3
   replace hx500_4 := (HB.out.cell (World.block_lt_of_cell? w _ hx500_4)).trans hx500_4
   replace hx500_5 := (HB.out.cell (World.block_lt_of_cell? w _ hx500_5)).trans hx500_5
   replace hx500_6 := (HB.out.cell (World.block_lt_of_cell? w _ hx500_6)).trans hx500_6
   replace hx500_7 := (HB.out.cell (World.block_lt_of_cell? w _ hx500_7)).trans hx500_7
   replace p500 := eq_true p500
   replace q500 := eq_true q500
   refine start_ (n := 12) (S := fun w' => w'.cell? ⟨gb499, 0, none⟩ = some (.bool a0_0) ∧ w'.cell? ⟨gb499, 1, none⟩ = some (u500001) ∧ w'.cell? ⟨gb499, 2, none⟩ = some (.slice A0_2 l0_2.length c0_2) ∧ w'.cell? ⟨gb499, 3, none⟩ = some (.slice A0_3 l0_3.length c0_3) ∧ w'.cell? ⟨gb497, 0, none⟩ = some (.bool a0_0) ∧ w'.cell? ⟨gb497, 1, none⟩ = some (.slice (some ad500) l0_1.length c0_1) ∧ w'.cell? ⟨gb497, 2, none⟩ = some (.slice A0_2 l0_2.length c0_2) ∧ w'.cell? ⟨gb497, 3, none⟩ = some (.slice A0_3 l0_3.length c0_3) ∧ w'.cell? (ad500.add ((x4_1).toNat * 8)) = some (.string ((rd_T56 l0_1 x4_1).f0)) ∧ w'.cell? ⟨(ad500.add ((x4_1).toNat * 8)).block, (ad500.add ((x4_1).toNat * 8)).off + 1, none⟩ = some (.int .i64 ((rd_T56 l0_1 x4_1).f1.f0)) ∧ w'.cell? ⟨(ad500.add ((x4_1).toNat * 8)).block, (ad500.add ((x4_1).toNat * 8)).off + 2, none⟩ = some (.float .f64 ((rd_T56 l0_1 x4_1).f1.f1)) ∧ w'.cell? ⟨(ad500.add ((x4_1).toNat * 8)).block, (ad500.add ((x4_1).toNat * 8)).off + 3, none⟩ = some (.string ((rd_T56 l0_1 x4_1).f1.f2)) ∧ w'.cell? ⟨(ad500.add ((x4_1).toNat * 8)).block, (ad500.add ((x4_1).toNat * 8)).off + 4, none⟩ = some (.int .i64 ((rd_T56 l0_1 x4_1).f2)) ∧ w'.cell? ⟨(ad500.add ((x4_1).toNat * 8)).block, (ad500.add ((x4_1).toNat * 8)).off + 5, none⟩ = some (.int .i64 ((rd_T56 l0_1 x4_1).f3.f0)) ∧ w'.cell? ⟨(ad500.add ((x4_1).toNat * 8)).block, (ad500.add ((x4_1).toNat * 8)).off + 6, none⟩ = some (.float .f64 ((rd_T56 l0_1 x4_1).f3.f1)) ∧ w'.cell? ⟨(ad500.add ((x4_1).toNat * 8)).block, (ad500.add ((x4_1).toNat * 8)).off + 7, none⟩ = some (.string ((rd_T56 l0_1 x4_1).f3.f2))) (ds := [11]) #[false,false,false,false,false,false,false,false,false,false,false,false] (by kernel_rfl) rfl rfl (bn4 BK499 (bn4 BK497 ⟨((HB.out.cell (World.block_lt_of_cell? w _ hw500_0)).trans hw500_0), ((HB.out.cell (World.block_lt_of_cell? w _ hw500_1)).trans hw500_1), ((HB.out.cell (World.block_lt_of_cell? w _ hw500_2)).trans hw500_2), ((HB.out.cell (World.block_lt_of_cell? w _ hw500_3)).trans hw500_3), ((HB.out.cell (World.block_lt_of_cell? w _ hw500_4)).trans hw500_4), ((HB.out.cell (World.block_lt_of_cell? w _ hw500_5)).trans hw500_5), ((HB.out.cell (World.block_lt_of_cell? w _ hw500_6)).trans hw500_6), ((HB.out.cell (World.block_lt_of_cell? w _ hw500_7)).trans hw500_7)⟩)) (fun hHeld => ?_); refine with_tabW engrosslaw11_Of.tab5 engrosslaw11_Of.bits5 (fun HT_ HW_ => ?_)
   generalize wr.drew = w17 at HO_498002 HO_498003 HO_500001 HO_500002 HO_500003 BK497 BK498 BK499 HB hx500_0 hx500_1 hx500_2 hx500_3 hx500_4 hx500_5 hx500_6 hx500_7 hHeld ⊢
   refine pA 0 19 HT_ ?_
   refine pA 2 21 HT_ ?_
   refine pA 4 23 HT_ ?_
   refine tA 1 20 HT_ HW_ hHeld ?_ (hy := by rintro w' ⟨s0, s1, s2, s3, s4, s5, s6, s7, s8, s9, s10, s11, s12, s13, s14, s15⟩; go_simp; with_reducible rfl)
   refine tA 3 22 HT_ HW_ hHeld ?_ (hy := by rintro w' ⟨s0, s1, s2, s3, s4, s5, s6, s7, s8, s9, s10, s11, s12, s13, s14, s15⟩; go_simp; with_reducible rfl)
   refine pA 5 24 HT_ ?_
   refine tA 6 25 HT_ HW_ hHeld ?_ (hy := by rintro w' ⟨s0, s1, s2, s3, s4, s5, s6, s7, s8, s9, s10, s11, s12, s13, s14, s15⟩; go_simp; with_reducible rfl)
   refine oA 7 (some 26) HT_ (fun K hK => ?_)
   refine goes_ Try.func35 (by kernel_rfl) rfl #[.agg #[.string ((rd_T56 l0_1 x4_1).f0), .int .i64 ((rd_T56 l0_1 x4_1).f1.f0), .float .f64 ((rd_T56 l0_1 x4_1).f1.f1), .string ((rd_T56 l0_1 x4_1).f1.f2), .int .i64 ((rd_T56 l0_1 x4_1).f2), .int .i64 ((rd_T56 l0_1 x4_1).f3.f0), .float .f64 ((rd_T56 l0_1 x4_1).f3.f1), .string ((rd_T56 l0_1 x4_1).f3.f2)]] (by rfl) rfl rfl (by (try simp only [List.map_toArray, List.map_cons, List.map_nil]); first | done | rfl | (simp only [List.length_drop, List.length_take]; rfl)) ?_
   with_reducible refine (engrosslaw10_Of.calls ((rd_T56 l0_1 x4_1).f0) ((rd_T56 l0_1 x4_1).f1.f0) ((rd_T56 l0_1 x4_1).f1.f1) ((rd_T56 l0_1 x4_1).f1.f2) ((rd_T56 l0_1 x4_1).f2) ((rd_T56 l0_1 x4_1).f3.f0) ((rd_T56 l0_1 x4_1).f3.f1) ((rd_T56 l0_1 x4_1).f3.f2) t501 t502 t503 t504 t505 t506 t507 t508 _ A12.out).mono ?_
   rintro e w18 ⟨rfl, hb⟩
   refine ⟨_, rfl, ?_⟩
   replace HO_498002 := vB HO_498002 hb
   replace HO_498003 := vB HO_498003 hb
   replace HO_500001 := rB HO_500001 hb
   replace HO_500002 := vB HO_500002 hb
   replace HO_500003 := vB HO_500003 hb
   replace BK497 := bB BK497 hb
   replace BK498 := bB BK498 hb
   replace BK499 := bB BK499 hb
   replace HB := bW HB hb
   (try clear hb)
   (try clear hb2)
   (try clear hk)
   (try clear hi)
   refine hK.out _ _ (bn4 BK499 (bn4 BK497 ⟨((HB.out.cell (World.block_lt_of_cell? w _ hw500_0)).trans hw500_0), ((HB.out.cell (World.block_lt_of_cell? w _ hw500_1)).trans hw500_1), ((HB.out.cell (World.block_lt_of_cell? w _ hw500_2)).trans hw500_2), ((HB.out.cell (World.block_lt_of_cell? w _ hw500_3)).trans hw500_3), ((HB.out.cell (World.block_lt_of_cell? w _ hw500_4)).trans hw500_4), ((HB.out.cell (World.block_lt_of_cell? w _ hw500_5)).trans hw500_5), ((HB.out.cell (World.block_lt_of_cell? w _ hw500_6)).trans hw500_6), ((HB.out.cell (World.block_lt_of_cell? w _ hw500_7)).trans hw500_7)⟩)) (fun hHeld => ?_)
   clear hK K
   refine norm_ (a' := ?_) ?_ ?_
   rotate_left
   ·show Act.put _ (some 26) _ = _
    simp only [Act.put, List.setIfInBounds_toArray, List.set_cons_zero, List.set_cons_succ, i64_w, i32_w]
    rfl
   refine oA 8 (some 27) HT_ (fun K hK => ?_)
   refine value_ (w1 := ?_) (v := ?_) (by rfl) rfl ?_ ?_
   rotate_left 2
   ·go_simp
    constructor
    ·rfl
    ·rfl
   refine hK.out _ _ ⟨(blk_cell (blk_alloc BK499.out _) 0).trans rfl, (blk_cell (blk_alloc BK499.out _) 1).trans rfl, (blk_cell (blk_alloc BK499.out _) 2).trans rfl, (blk_cell (blk_alloc BK499.out _) 3).trans rfl, (blk_cell (blk_alloc BK497.out _) 0).trans rfl, (blk_cell (blk_alloc BK497.out _) 1).trans rfl, (blk_cell (blk_alloc BK497.out _) 2).trans rfl, (blk_cell (blk_alloc BK497.out _) 3).trans rfl, (World.cell?_alloc_lt _ _ _ (World.block_lt_of_cell? _ _ (((HB.out.cell (World.block_lt_of_cell? w _ hw500_0)).trans hw500_0)))).trans (((HB.out.cell (World.block_lt_of_cell? w _ hw500_0)).trans hw500_0)), (World.cell?_alloc_lt _ _ _ (World.block_lt_of_cell? _ _ (((HB.out.cell (World.block_lt_of_cell? w _ hw500_1)).trans hw500_1)))).trans (((HB.out.cell (World.block_lt_of_cell? w _ hw500_1)).trans hw500_1)), (World.cell?_alloc_lt _ _ _ (World.block_lt_of_cell? _ _ (((HB.out.cell (World.block_lt_of_cell? w _ hw500_2)).trans hw500_2)))).trans (((HB.out.cell (World.block_lt_of_cell? w _ hw500_2)).trans hw500_2)), (World.cell?_alloc_lt _ _ _ (World.block_lt_of_cell? _ _ (((HB.out.cell (World.block_lt_of_cell? w _ hw500_3)).trans hw500_3)))).trans (((HB.out.cell (World.block_lt_of_cell? w _ hw500_3)).trans hw500_3)), (World.cell?_alloc_lt _ _ _ (World.block_lt_of_cell? _ _ (((HB.out.cell (World.block_lt_of_cell? w _ hw500_4)).trans hw500_4)))).trans (((HB.out.cell (World.block_lt_of_cell? w _ hw500_4)).trans hw500_4)), (World.cell?_alloc_lt _ _ _ (World.block_lt_of_cell? _ _ (((HB.out.cell (World.block_lt_of_cell? w _ hw500_5)).trans hw500_5)))).trans (((HB.out.cell (World.block_lt_of_cell? w _ hw500_5)).trans hw500_5)), (World.cell?_alloc_lt _ _ _ (World.block_lt_of_cell? _ _ (((HB.out.cell (World.block_lt_of_cell? w _ hw500_6)).trans hw500_6)))).trans (((HB.out.cell (World.block_lt_of_cell? w _ hw500_6)).trans hw500_6)), (World.cell?_alloc_lt _ _ _ (World.block_lt_of_cell? _ _ (((HB.out.cell (World.block_lt_of_cell? w _ hw500_7)).trans hw500_7)))).trans (((HB.out.cell (World.block_lt_of_cell? w _ hw500_7)).trans hw500_7))⟩ (fun hHeld => ?_)
   clear hK K
   refine norm_ (a' := ?_) ?_ ?_
   rotate_left
   ·show Act.put _ (some 27) _ = _
    simp only [Act.put, List.setIfInBounds_toArray, List.set_cons_zero, List.set_cons_succ, i64_w, i32_w]
    rfl
   refine oA 9 (some 28) HT_ (fun K hK => ?_)
   refine Kd.R_append_step k62 (w0 := w) w.heap.size (by rfl) (.tmp 20) (.tmp 27) 34 62 (.agg #[(.string ⟨#[]⟩), (.int .i64 0), (.float .f64 0), (.string ⟨#[]⟩), (.int .i64 0), (.int .i64 0), (.float .f64 0), (.string ⟨#[]⟩)]) 88 rfl Try.underlying34 info62 rfl (by decide) (by omega) u500001 x500001_1 (⟨t501, (⟨t502, t503, t504⟩ : S54), t505, (⟨t506, t507, t508⟩ : S54)⟩ : S62) [.string t501, .int .i64 t502, .float .f64 t503, .string t504, .int .i64 t505, .int .i64 t506, .float .f64 t507, .string t508] (fun k_ => (w.heap.size ≤ k_)) (fun _ => False) rfl rfl ?aP (fun _ hk => hk.elim) ?aF ?aO ?aB ?aS ?aL ?_
   (case aP => exact k62_mkM _ _ _ (⟨t501, (⟨t502, t503, t504⟩ : S54), t505, (⟨t506, t507, t508⟩ : S54)⟩ : S62))
   (case aB => exact (bC HB))
   (case aF => exact (fun k_ hk => (Nat.le_trans (below_size (bC HB)) hk)))
   (case aO => exact (by (with_reducible repeat (first | apply Kd.R_alloc | apply Kd.R_drewN | apply Kd.R_drew)); exact HO_500001.out))
   (case aS => exact (below_size (bC HB)))
   (case aL => have := LMc13.out; omega)
   intro v510 w19 ho hb hg hat
   rw [← Ny509.out] at ho
   have HO511 := Aside0.mk (ho)
   replace HO_498002 := Aside0.mk (Kd.V_afterv (ok := (fun k_ => ((P0_2_ k_ ∨ P0_3_ k_) ∨ w.heap.size ≤ k_) ∧ k_ ≠ gb497 ∧ k_ ≠ gb498 ∧ k_ ≠ gb499)) (by (with_reducible repeat (first | apply Kd.V_alloc | apply Kd.V_drewN | apply Kd.V_drew)); exact Kd.V_mono HO_498002.out (fun _ hk => ⟨⟨hk.1, ⟨hk.2.2.1, ⟨hk.2.2.2.1, hk.2.2.2.2⟩⟩⟩, hk.2.1⟩)) hg hat)
   replace HO_498003 := Aside0.mk (Kd.V_afterv (ok := (fun k_ => ((P0_2_ k_ ∨ P0_3_ k_) ∨ w.heap.size ≤ k_) ∧ k_ ≠ gb497 ∧ k_ ≠ gb498 ∧ k_ ≠ gb499)) (by (with_reducible repeat (first | apply Kd.V_alloc | apply Kd.V_drewN | apply Kd.V_drew)); exact Kd.V_mono HO_498003.out (fun _ hk => ⟨⟨hk.1, ⟨hk.2.2.1, ⟨hk.2.2.2.1, hk.2.2.2.2⟩⟩⟩, hk.2.1⟩)) hg hat)
   replace HO_500002 := Aside0.mk (Kd.V_afterv (ok := (fun k_ => ((P0_2_ k_ ∨ P0_3_ k_) ∨ w.heap.size ≤ k_) ∧ k_ ≠ gb497 ∧ k_ ≠ gb498 ∧ k_ ≠ gb499)) (by (with_reducible repeat (first | apply Kd.V_alloc | apply Kd.V_drewN | apply Kd.V_drew)); exact Kd.V_mono HO_500002.out (fun _ hk => ⟨⟨hk.1, ⟨hk.2.2.1, ⟨hk.2.2.2.1, hk.2.2.2.2⟩⟩⟩, hk.2.1⟩)) hg hat)
   replace HO_500003 := Aside0.mk (Kd.V_afterv (ok := (fun k_ => ((P0_2_ k_ ∨ P0_3_ k_) ∨ w.heap.size ≤ k_) ∧ k_ ≠ gb497 ∧ k_ ≠ gb498 ∧ k_ ≠ gb499)) (by (with_reducible repeat (first | apply Kd.V_alloc | apply Kd.V_drewN | apply Kd.V_drew)); exact Kd.V_mono HO_500003.out (fun _ hk => ⟨⟨hk.1, ⟨hk.2.2.1, ⟨hk.2.2.2.1, hk.2.2.2.2⟩⟩⟩, hk.2.1⟩)) hg hat)
   replace BK497 := Aside0.mk (blk_grown (bQ BK497) hg (Kd.R_ne HO_500001.out BK497.out (by decide)))
   replace BK498 := Aside0.mk (blk_grown (bQ BK498) hg (Kd.R_ne HO_500001.out BK498.out (by decide)))
   replace BK499 := Aside0.mk (blk_grown (bQ BK499) hg (Kd.R_ne HO_500001.out BK499.out (by decide)))
   replace HB := Aside0.mk (hb)
   clear HO_500001
   clear ho hb hg hat
   obtain ⟨Ao20, co20, eo20⟩ := Kd.R_slice HO511.out
   (first | subst eo20 | (injection eo20 with f1_ f2_ f3_; have f4_ := f1_.symm; have f5_ := f3_.symm; clear f1_ f2_ f3_; subst f4_; subst f5_))
   refine hK.out _ _ (bn4 BK499 (bn4 BK497 ⟨((HB.out.cell (World.block_lt_of_cell? w _ hw500_0)).trans hw500_0), ((HB.out.cell (World.block_lt_of_cell? w _ hw500_1)).trans hw500_1), ((HB.out.cell (World.block_lt_of_cell? w _ hw500_2)).trans hw500_2), ((HB.out.cell (World.block_lt_of_cell? w _ hw500_3)).trans hw500_3), ((HB.out.cell (World.block_lt_of_cell? w _ hw500_4)).trans hw500_4), ((HB.out.cell (World.block_lt_of_cell? w _ hw500_5)).trans hw500_5), ((HB.out.cell (World.block_lt_of_cell? w _ hw500_6)).trans hw500_6), ((HB.out.cell (World.block_lt_of_cell? w _ hw500_7)).trans hw500_7)⟩)) (fun hHeld => ?_)
   clear hK K
   refine norm_ (a' := ?_) ?_ ?_
   rotate_left
   ·show Act.put _ (some 28) _ = _
    simp only [Act.put, List.setIfInBounds_toArray, List.set_cons_zero, List.set_cons_succ, i64_w, i32_w]
    rfl
   refine pA 10 29 HT_ ?_
   refine last_ (i := 11) (N := none) #[true,true,true,true,true,true,true,true,true,true,true,true] rfl rfl (one_of HT_.out (by kernel_rfl)) (by decide) (fun K hK => ?_)
   have hs21 : w19.cell? ⟨gb499, 1, none⟩ = some (u500001) := (blk_cell BK499.out 1).trans rfl
   have hfs21 := blk_frozen BK499.out 1
   have hns21_0 := NB497_499.out
   have hns21_1 := NB498_499.out
   have hms21_0 := NB499_497.out
   have hms21_1 := NB499_498.out
   with_reducible refine skip_ (w1 := ?_) (by with_unfolding_all rfl) (by with_unfolding_all rfl) ?_ ?_
   rotate_left
   ·go_simp
    rfl
   refine hK.out _ _ ?_
   clear hK K
   refine done_ (done_of HT_.out (by kernel_rfl)) ?_
   try go_wp2
   go_roundg k1
   case measure => have := HK1.out; omega
   case rel => exact ⟨(wrap64 (x4_1 + 1)), (y509), (.slice Ao20 y509.length co20), (by first | rfl | (simp; done) | (simp [*]; done)), H', ⟨by have := HK1.out; omega⟩, ⟨by (with_reducible repeat (first | apply Kd.V_alloc | apply Kd.V_drewN | apply Kd.V_drew)); exact Kd.V_mono (Kd.V_far (p := ⟨gb499, 1, none⟩) (Kd.V_mono HO_498002.out (fun k_ hk => (⟨hk, hk.1.2.2.2⟩ : _ ∧ k_ ≠ gb499))) (fun _ hk => hk.2) (.slice Ao20 y509.length co20)) (fun _ hk => ⟨hk.1.1.1, ⟨hk.1.2, ⟨hk.1.1.2.1, ⟨hk.1.1.2.2.1, hk.1.1.2.2.2⟩⟩⟩⟩)⟩, ⟨by (with_reducible repeat (first | apply Kd.V_alloc | apply Kd.V_drewN | apply Kd.V_drew)); exact Kd.V_mono (Kd.V_far (p := ⟨gb499, 1, none⟩) (Kd.V_mono HO_498003.out (fun k_ hk => (⟨hk, hk.1.2.2.2⟩ : _ ∧ k_ ≠ gb499))) (fun _ hk => hk.2) (.slice Ao20 y509.length co20)) (fun _ hk => ⟨hk.1.1.1, ⟨hk.1.2, ⟨hk.1.1.2.1, ⟨hk.1.1.2.2.1, hk.1.1.2.2.2⟩⟩⟩⟩)⟩, ⟨by (with_reducible repeat (first | apply Kd.R_alloc | apply Kd.R_drewN | apply Kd.R_drew)); exact Kd.R_mono (Kd.R_far (p := ⟨gb499, 1, none⟩) (Kd.R_types HO511.out BK499.out (by decide)) (fun _ hk => hk.2) (.slice Ao20 y509.length co20)) (fun _ hk => hk.1)⟩, ⟨by (with_reducible repeat (first | apply Kd.V_alloc | apply Kd.V_drewN | apply Kd.V_drew)); exact Kd.V_mono (Kd.V_far (p := ⟨gb499, 1, none⟩) (Kd.V_mono HO_500002.out (fun k_ hk => (⟨hk, hk.1.2.2.2⟩ : _ ∧ k_ ≠ gb499))) (fun _ hk => hk.2) (.slice Ao20 y509.length co20)) (fun _ hk => ⟨hk.1.1.1, ⟨hk.1.2, ⟨hk.1.1.2.1, ⟨hk.1.1.2.2.1, hk.1.1.2.2.2⟩⟩⟩⟩)⟩, ⟨by (with_reducible repeat (first | apply Kd.V_alloc | apply Kd.V_drewN | apply Kd.V_drew)); exact Kd.V_mono (Kd.V_far (p := ⟨gb499, 1, none⟩) (Kd.V_mono HO_500003.out (fun k_ hk => (⟨hk, hk.1.2.2.2⟩ : _ ∧ k_ ≠ gb499))) (fun _ hk => hk.2) (.slice Ao20 y509.length co20)) (fun _ hk => ⟨hk.1.1.1, ⟨hk.1.2, ⟨hk.1.1.2.1, ⟨hk.1.1.2.2.1, hk.1.1.2.2.2⟩⟩⟩⟩)⟩, ⟨by (with_reducible repeat (first | refine blk_drewN ?_ _ | refine blk_drew ?_ | refine blk_alloc ?_ _)); refine blk_far ?_ NB497_499.out _; (with_reducible repeat (first | refine blk_drewN ?_ _ | refine blk_drew ?_ | refine blk_alloc ?_ _)); exact BK497.out⟩, ⟨by (with_reducible repeat (first | refine blk_drewN ?_ _ | refine blk_drew ?_ | refine blk_alloc ?_ _)); refine blk_far ?_ NB498_499.out _; (with_reducible repeat (first | refine blk_drewN ?_ _ | refine blk_drew ?_ | refine blk_alloc ?_ _)); exact BK498.out⟩, ⟨by (with_reducible repeat (first | refine blk_drewN ?_ _ | refine blk_drew ?_ | refine blk_alloc ?_ _)); refine blk_put (cs := #[.bool a0_0, u500001, .slice A0_2 l0_2.length c0_2, .slice A0_3 l0_3.length c0_3]) ?_ 1 _ rfl; (with_reducible repeat (first | refine blk_drewN ?_ _ | refine blk_drew ?_ | refine blk_alloc ?_ _)); exact BK499.out⟩, ⟨by repeat (first | (with_reducible first | exact HB.out | apply below_alloc | apply pw_below_drewN | apply below_drew1 | refine below_set ?_ GE497.out | refine below_set ?_ GE498.out | refine below_set ?_ GE499.out) | exact HB.out)⟩⟩
def engrossref1_EqVal.f (a0_0 : Int) (a0_1 : Nat) (a0_2 : ByteArray) (a1_0 : Int) (a1_1 : Nat) (a1_2 : ByteArray) : Option (Bool) := if a0_0 = a1_0 then (if a0_2.toList = a1_2.toList then ((engrossref1_Place.f a0_1).bind fun t520 => ((engrossref1_Place.f a1_1).bind fun t521 => (some (t520 == t521)))) else (some false)) else (some false)
set_option maxHeartbeats 8000000 in
set_option maxRecDepth 100000 in
theorem engrossref1_EqVal.calls (a0_0 : Int) (a0_1 : Nat) (a0_2 : ByteArray) (a1_0 : Int) (a1_1 : Nat) (a1_2 : ByteArray) (r : Bool) (w : World) (h : engrossref1_EqVal.f a0_0 a0_1 a0_2 a1_0 a1_1 a1_2 = some r) :
  Calls Try.prog 57 #[.agg #[.int .i64 a0_0, .float .f64 a0_1, .string a0_2], .agg #[.int .i64 a1_0, .float .f64 a1_1, .string a1_2]] w fun e w' => e = .returned (.bool r) ∧ Below w.heap.size w w' := by
 have hu54 := Try.underlying54
 have HB := Aside0.mk (Below.refl w.heap.size w)
 have H : (if a0_0 = a1_0 then (if a0_2.toList = a1_2.toList then ((engrossref1_Place.f a0_1).bind fun t520 => ((engrossref1_Place.f a1_1).bind fun t521 => (some (t520 == t521)))) else (some false)) else (some false)) = some r := h
 clear h
 by_cases c3 : a0_0 = a1_0
 rotate_left
 ·rw [if_neg c3] at H
  have c3b0 : (a0_0 == a1_0) = false := beq_eq_false_iff_ne.mpr c3
  have c3b1 : (a0_0 != a1_0) = true := bne_iff_ne.mpr c3
  obtain rfl := Option.some.inj H
  go_enter Try.func57, Try.ntmps57
  go_wp2_with (first | ((with_reducible refine gate_dst (N := 2) rfl ?_); refine box_event ?hg (N := 2) ?hd (cs := #[.int .i64 a0_0, .float .f64 a0_1, .string a0_2]) (t := 54) ?hr ?_; (case hd => rfl); (case hg => rfl); (case hr => first | (go_simp; done) | (go_simp; rfl)); intro gb518 hg w17 hbox hb; have BK518 := Aside0.mk (hbox); have GW518 := bZ HB hg; have GE518 := bZ HB hg; replace HB := bW HB hb; clear hb hbox hg) | ((with_reducible refine gate_dst (N := 3) rfl ?_); refine box_event ?hg (N := 3) ?hd (cs := #[.int .i64 a1_0, .float .f64 a1_1, .string a1_2]) (t := 54) ?hr ?_; (case hd => rfl); (case hg => rfl); (case hr => first | (go_simp; done) | (go_simp; rfl)); intro gb519 hg w18 hbox hb; have BK519 := Aside0.mk (hbox); have GW519 := bZ HB hg; have GE519 := bZ HB hg; have NB518_519 := bL BK518 hg; have NB519_518 := bG BK518 hg; replace BK518 := bB BK518 hb; replace HB := bW HB hb; clear hb hbox hg; have hnb19 := NB518_519.out; have hnc19 := NB519_518.out; obtain ⟨hcz20_0, hcz20_1, hcz20_2, hfz20_0, hfz20_1, hfz20_2⟩ := bf3 (w := w18) BK518; obtain ⟨hcz21_0, hcz21_1, hcz21_2, hfz21_0, hfz21_1, hfz21_2⟩ := bf3 (w := w18) BK519))
  repeat (go_quiet (first | ((with_reducible refine gate_dst (N := 2) rfl ?_); refine box_event ?hg (N := 2) ?hd (cs := #[.int .i64 a0_0, .float .f64 a0_1, .string a0_2]) (t := 54) ?hr ?_; (case hd => rfl); (case hg => rfl); (case hr => first | (go_simp; done) | (go_simp; rfl)); intro gb518 hg w17 hbox hb; have BK518 := Aside0.mk (hbox); have GW518 := bZ HB hg; have GE518 := bZ HB hg; replace HB := bW HB hb; clear hb hbox hg) | ((with_reducible refine gate_dst (N := 3) rfl ?_); refine box_event ?hg (N := 3) ?hd (cs := #[.int .i64 a1_0, .float .f64 a1_1, .string a1_2]) (t := 54) ?hr ?_; (case hd => rfl); (case hg => rfl); (case hr => first | (go_simp; done) | (go_simp; rfl)); intro gb519 hg w18 hbox hb; have BK519 := Aside0.mk (hbox); have GW519 := bZ HB hg; have GE519 := bZ HB hg; have NB518_519 := bL BK518 hg; have NB519_518 := bG BK518 hg; replace BK518 := bB BK518 hb; replace HB := bW HB hb; clear hb hbox hg; have hnb19 := NB518_519.out; have hnc19 := NB519_518.out; obtain ⟨hcz20_0, hcz20_1, hcz20_2, hfz20_0, hfz20_1, hfz20_2⟩ := bf3 (w := w18) BK518; obtain ⟨hcz21_0, hcz21_1, hcz21_2, hfz21_0, hfz21_1, hfz21_2⟩ := bf3 (w := w18) BK519)); try go_wp2_with (first | ((with_reducible refine gate_dst (N := 2) rfl ?_); refine box_event ?hg (N := 2) ?hd (cs := #[.int .i64 a0_0, .float .f64 a0_1, .string a0_2]) (t := 54) ?hr ?_; (case hd => rfl); (case hg => rfl); (case hr => first | (go_simp; done) | (go_simp; rfl)); intro gb518 hg w17 hbox hb; have BK518 := Aside0.mk (hbox); have GW518 := bZ HB hg; have GE518 := bZ HB hg; replace HB := bW HB hb; clear hb hbox hg) | ((with_reducible refine gate_dst (N := 3) rfl ?_); refine box_event ?hg (N := 3) ?hd (cs := #[.int .i64 a1_0, .float .f64 a1_1, .string a1_2]) (t := 54) ?hr ?_; (case hd => rfl); (case hg => rfl); (case hr => first | (go_simp; done) | (go_simp; rfl)); intro gb519 hg w18 hbox hb; have BK519 := Aside0.mk (hbox); have GW519 := bZ HB hg; have GE519 := bZ HB hg; have NB518_519 := bL BK518 hg; have NB519_518 := bG BK518 hg; replace BK518 := bB BK518 hb; replace HB := bW HB hb; clear hb hbox hg; have hnb19 := NB518_519.out; have hnc19 := NB519_518.out; obtain ⟨hcz20_0, hcz20_1, hcz20_2, hfz20_0, hfz20_1, hfz20_2⟩ := bf3 (w := w18) BK518; obtain ⟨hcz21_0, hcz21_1, hcz21_2, hfz21_0, hfz21_1, hfz21_2⟩ := bf3 (w := w18) BK519)))
  go_ret
  exact xB HB
 rw [if_pos c3] at H
 have c3b0 : (a0_0 == a1_0) = true := beq_iff_eq.mpr c3
 have c3b1 : (a0_0 != a1_0) = false := bne_eq_false_iff_eq.mpr c3
 clear c3
 by_cases c4 : a0_2.toList = a1_2.toList
 rotate_left
 ·rw [if_neg c4] at H
  have c4b0 : (a0_2.toList == a1_2.toList) = false := beq_eq_false_iff_ne.mpr c4
  have c4b1 : (a0_2.toList != a1_2.toList) = true := bne_iff_ne.mpr c4
  obtain rfl := Option.some.inj H
  go_enter Try.func57, Try.ntmps57
  go_wp2_with (first | ((with_reducible refine gate_dst (N := 2) rfl ?_); refine box_event ?hg (N := 2) ?hd (cs := #[.int .i64 a0_0, .float .f64 a0_1, .string a0_2]) (t := 54) ?hr ?_; (case hd => rfl); (case hg => rfl); (case hr => first | (go_simp; done) | (go_simp; rfl)); intro gb518 hg w12 hbox hb; have BK518 := Aside0.mk (hbox); have GW518 := bZ HB hg; have GE518 := bZ HB hg; replace HB := bW HB hb; clear hb hbox hg) | ((with_reducible refine gate_dst (N := 3) rfl ?_); refine box_event ?hg (N := 3) ?hd (cs := #[.int .i64 a1_0, .float .f64 a1_1, .string a1_2]) (t := 54) ?hr ?_; (case hd => rfl); (case hg => rfl); (case hr => first | (go_simp; done) | (go_simp; rfl)); intro gb519 hg w13 hbox hb; have BK519 := Aside0.mk (hbox); have GW519 := bZ HB hg; have GE519 := bZ HB hg; have NB518_519 := bL BK518 hg; have NB519_518 := bG BK518 hg; replace BK518 := bB BK518 hb; replace HB := bW HB hb; clear hb hbox hg; have hnb14 := NB518_519.out; have hnc14 := NB519_518.out; obtain ⟨hcz15_0, hcz15_1, hcz15_2, hfz15_0, hfz15_1, hfz15_2⟩ := bf3 (w := w13) BK518; obtain ⟨hcz16_0, hcz16_1, hcz16_2, hfz16_0, hfz16_1, hfz16_2⟩ := bf3 (w := w13) BK519))
  repeat (go_quiet (first | ((with_reducible refine gate_dst (N := 2) rfl ?_); refine box_event ?hg (N := 2) ?hd (cs := #[.int .i64 a0_0, .float .f64 a0_1, .string a0_2]) (t := 54) ?hr ?_; (case hd => rfl); (case hg => rfl); (case hr => first | (go_simp; done) | (go_simp; rfl)); intro gb518 hg w12 hbox hb; have BK518 := Aside0.mk (hbox); have GW518 := bZ HB hg; have GE518 := bZ HB hg; replace HB := bW HB hb; clear hb hbox hg) | ((with_reducible refine gate_dst (N := 3) rfl ?_); refine box_event ?hg (N := 3) ?hd (cs := #[.int .i64 a1_0, .float .f64 a1_1, .string a1_2]) (t := 54) ?hr ?_; (case hd => rfl); (case hg => rfl); (case hr => first | (go_simp; done) | (go_simp; rfl)); intro gb519 hg w13 hbox hb; have BK519 := Aside0.mk (hbox); have GW519 := bZ HB hg; have GE519 := bZ HB hg; have NB518_519 := bL BK518 hg; have NB519_518 := bG BK518 hg; replace BK518 := bB BK518 hb; replace HB := bW HB hb; clear hb hbox hg; have hnb14 := NB518_519.out; have hnc14 := NB519_518.out; obtain ⟨hcz15_0, hcz15_1, hcz15_2, hfz15_0, hfz15_1, hfz15_2⟩ := bf3 (w := w13) BK518; obtain ⟨hcz16_0, hcz16_1, hcz16_2, hfz16_0, hfz16_1, hfz16_2⟩ := bf3 (w := w13) BK519)); try go_wp2_with (first | ((with_reducible refine gate_dst (N := 2) rfl ?_); refine box_event ?hg (N := 2) ?hd (cs := #[.int .i64 a0_0, .float .f64 a0_1, .string a0_2]) (t := 54) ?hr ?_; (case hd => rfl); (case hg => rfl); (case hr => first | (go_simp; done) | (go_simp; rfl)); intro gb518 hg w12 hbox hb; have BK518 := Aside0.mk (hbox); have GW518 := bZ HB hg; have GE518 := bZ HB hg; replace HB := bW HB hb; clear hb hbox hg) | ((with_reducible refine gate_dst (N := 3) rfl ?_); refine box_event ?hg (N := 3) ?hd (cs := #[.int .i64 a1_0, .float .f64 a1_1, .string a1_2]) (t := 54) ?hr ?_; (case hd => rfl); (case hg => rfl); (case hr => first | (go_simp; done) | (go_simp; rfl)); intro gb519 hg w13 hbox hb; have BK519 := Aside0.mk (hbox); have GW519 := bZ HB hg; have GE519 := bZ HB hg; have NB518_519 := bL BK518 hg; have NB519_518 := bG BK518 hg; replace BK518 := bB BK518 hb; replace HB := bW HB hb; clear hb hbox hg; have hnb14 := NB518_519.out; have hnc14 := NB519_518.out; obtain ⟨hcz15_0, hcz15_1, hcz15_2, hfz15_0, hfz15_1, hfz15_2⟩ := bf3 (w := w13) BK518; obtain ⟨hcz16_0, hcz16_1, hcz16_2, hfz16_0, hfz16_1, hfz16_2⟩ := bf3 (w := w13) BK519)))
  go_ret
  exact xB HB
 rw [if_pos c4] at H
 have c4b0 : (a0_2.toList == a1_2.toList) = true := beq_iff_eq.mpr c4
 have c4b1 : (a0_2.toList != a1_2.toList) = false := bne_eq_false_iff_eq.mpr c4
 clear c4
 replace H := Option.bind_eq_some_iff.mp H
 obtain ⟨t520, A50, H⟩ := H
 replace H : ((engrossref1_Place.f a1_1).bind fun t521 => (some (t520 == t521))) = some r := H
 have A5 := Aside0.mk A50
 clear A50
 replace H := Option.bind_eq_some_iff.mp H
 obtain ⟨t521, A60, H⟩ := H
 replace H : (some (t520 == t521)) = some r := H
 have A6 := Aside0.mk A60
 clear A60
 obtain rfl := Option.some.inj H
 go_enter Try.func57, Try.ntmps57
 go_wp2_with (first | ((with_reducible refine gate_dst (N := 2) rfl ?_); refine box_event ?hg (N := 2) ?hd (cs := #[.int .i64 a0_0, .float .f64 a0_1, .string a0_2]) (t := 54) ?hr ?_; (case hd => rfl); (case hg => rfl); (case hr => first | (go_simp; done) | (go_simp; rfl)); intro gb518 hg w7 hbox hb; have BK518 := Aside0.mk (hbox); have GW518 := bZ HB hg; have GE518 := bZ HB hg; replace HB := bW HB hb; clear hb hbox hg) | ((with_reducible refine gate_dst (N := 3) rfl ?_); refine box_event ?hg (N := 3) ?hd (cs := #[.int .i64 a1_0, .float .f64 a1_1, .string a1_2]) (t := 54) ?hr ?_; (case hd => rfl); (case hg => rfl); (case hr => first | (go_simp; done) | (go_simp; rfl)); intro gb519 hg w8 hbox hb; have BK519 := Aside0.mk (hbox); have GW519 := bZ HB hg; have GE519 := bZ HB hg; have NB518_519 := bL BK518 hg; have NB519_518 := bG BK518 hg; replace BK518 := bB BK518 hb; replace HB := bW HB hb; clear hb hbox hg; have hnb9 := NB518_519.out; have hnc9 := NB519_518.out; obtain ⟨hcz10_0, hcz10_1, hcz10_2, hfz10_0, hfz10_1, hfz10_2⟩ := bf3 (w := w8) BK518; obtain ⟨hcz11_0, hcz11_1, hcz11_2, hfz11_0, hfz11_1, hfz11_2⟩ := bf3 (w := w8) BK519) | (go_at_call 68; (with_reducible refine (engrossref1_Place.calls a0_1 t520 _ A5.out).mono ?_); rintro e w' ⟨rfl, ⟨nd, rfl⟩⟩; (try first | exact ⟨rfl, _, World.drewN_drewN _ _ _⟩ | exact ⟨rfl, _, Eq.trans (World.drewN_drewN _ _ _) (congrArg (World.drewN _) (Nat.add_assoc _ _ _))⟩)) | (go_at_call 68; (with_reducible refine (engrossref1_Place.calls a1_1 t521 _ A6.out).mono ?_); rintro e w' ⟨rfl, ⟨nd, rfl⟩⟩; (try first | exact ⟨rfl, _, World.drewN_drewN _ _ _⟩ | exact ⟨rfl, _, Eq.trans (World.drewN_drewN _ _ _) (congrArg (World.drewN _) (Nat.add_assoc _ _ _))⟩)))
 repeat (go_quiet (first | ((with_reducible refine gate_dst (N := 2) rfl ?_); refine box_event ?hg (N := 2) ?hd (cs := #[.int .i64 a0_0, .float .f64 a0_1, .string a0_2]) (t := 54) ?hr ?_; (case hd => rfl); (case hg => rfl); (case hr => first | (go_simp; done) | (go_simp; rfl)); intro gb518 hg w7 hbox hb; have BK518 := Aside0.mk (hbox); have GW518 := bZ HB hg; have GE518 := bZ HB hg; replace HB := bW HB hb; clear hb hbox hg) | ((with_reducible refine gate_dst (N := 3) rfl ?_); refine box_event ?hg (N := 3) ?hd (cs := #[.int .i64 a1_0, .float .f64 a1_1, .string a1_2]) (t := 54) ?hr ?_; (case hd => rfl); (case hg => rfl); (case hr => first | (go_simp; done) | (go_simp; rfl)); intro gb519 hg w8 hbox hb; have BK519 := Aside0.mk (hbox); have GW519 := bZ HB hg; have GE519 := bZ HB hg; have NB518_519 := bL BK518 hg; have NB519_518 := bG BK518 hg; replace BK518 := bB BK518 hb; replace HB := bW HB hb; clear hb hbox hg; have hnb9 := NB518_519.out; have hnc9 := NB519_518.out; obtain ⟨hcz10_0, hcz10_1, hcz10_2, hfz10_0, hfz10_1, hfz10_2⟩ := bf3 (w := w8) BK518; obtain ⟨hcz11_0, hcz11_1, hcz11_2, hfz11_0, hfz11_1, hfz11_2⟩ := bf3 (w := w8) BK519) | (go_at_call 68; (with_reducible refine (engrossref1_Place.calls a0_1 t520 _ A5.out).mono ?_); rintro e w' ⟨rfl, ⟨nd, rfl⟩⟩; (try first | exact ⟨rfl, _, World.drewN_drewN _ _ _⟩ | exact ⟨rfl, _, Eq.trans (World.drewN_drewN _ _ _) (congrArg (World.drewN _) (Nat.add_assoc _ _ _))⟩)) | (go_at_call 68; (with_reducible refine (engrossref1_Place.calls a1_1 t521 _ A6.out).mono ?_); rintro e w' ⟨rfl, ⟨nd, rfl⟩⟩; (try first | exact ⟨rfl, _, World.drewN_drewN _ _ _⟩ | exact ⟨rfl, _, Eq.trans (World.drewN_drewN _ _ _) (congrArg (World.drewN _) (Nat.add_assoc _ _ _))⟩))); try go_wp2_with (first | ((with_reducible refine gate_dst (N := 2) rfl ?_); refine box_event ?hg (N := 2) ?hd (cs := #[.int .i64 a0_0, .float .f64 a0_1, .string a0_2]) (t := 54) ?hr ?_; (case hd => rfl); (case hg => rfl); (case hr => first | (go_simp; done) | (go_simp; rfl)); intro gb518 hg w7 hbox hb; have BK518 := Aside0.mk (hbox); have GW518 := bZ HB hg; have GE518 := bZ HB hg; replace HB := bW HB hb; clear hb hbox hg) | ((with_reducible refine gate_dst (N := 3) rfl ?_); refine box_event ?hg (N := 3) ?hd (cs := #[.int .i64 a1_0, .float .f64 a1_1, .string a1_2]) (t := 54) ?hr ?_; (case hd => rfl); (case hg => rfl); (case hr => first | (go_simp; done) | (go_simp; rfl)); intro gb519 hg w8 hbox hb; have BK519 := Aside0.mk (hbox); have GW519 := bZ HB hg; have GE519 := bZ HB hg; have NB518_519 := bL BK518 hg; have NB519_518 := bG BK518 hg; replace BK518 := bB BK518 hb; replace HB := bW HB hb; clear hb hbox hg; have hnb9 := NB518_519.out; have hnc9 := NB519_518.out; obtain ⟨hcz10_0, hcz10_1, hcz10_2, hfz10_0, hfz10_1, hfz10_2⟩ := bf3 (w := w8) BK518; obtain ⟨hcz11_0, hcz11_1, hcz11_2, hfz11_0, hfz11_1, hfz11_2⟩ := bf3 (w := w8) BK519) | (go_at_call 68; (with_reducible refine (engrossref1_Place.calls a0_1 t520 _ A5.out).mono ?_); rintro e w' ⟨rfl, ⟨nd, rfl⟩⟩; (try first | exact ⟨rfl, _, World.drewN_drewN _ _ _⟩ | exact ⟨rfl, _, Eq.trans (World.drewN_drewN _ _ _) (congrArg (World.drewN _) (Nat.add_assoc _ _ _))⟩)) | (go_at_call 68; (with_reducible refine (engrossref1_Place.calls a1_1 t521 _ A6.out).mono ?_); rintro e w' ⟨rfl, ⟨nd, rfl⟩⟩; (try first | exact ⟨rfl, _, World.drewN_drewN _ _ _⟩ | exact ⟨rfl, _, Eq.trans (World.drewN_drewN _ _ _) (congrArg (World.drewN _) (Nat.add_assoc _ _ _))⟩))))
 go_ret
 exact xB HB
def engrossref10_Eq.f (a0_0 : ByteArray) (a0_1 : Int) (a0_2 : Nat) (a0_3 : ByteArray) (a0_4 : Int) (a0_5 : Int) (a0_6 : Nat) (a0_7 : ByteArray) (a1_0 : ByteArray) (a1_1 : Int) (a1_2 : Nat) (a1_3 : ByteArray) (a1_4 : Int) (a1_5 : Int) (a1_6 : Nat) (a1_7 : ByteArray) : Option (Bool) := if a0_0.toList = a1_0.toList then (if a0_4 = a1_4 then ((engrossref1_EqVal.f a0_1 a0_2 a0_3 a1_1 a1_2 a1_3).bind fun t524 => (if t524 = true then ((engrossref1_EqVal.f a0_5 a0_6 a0_7 a1_5 a1_6 a1_7).bind fun t525 => (some t525)) else (some false))) else (some false)) else (some false)
set_option maxHeartbeats 8000000 in
set_option maxRecDepth 100000 in
theorem engrossref10_Eq.calls (a0_0 : ByteArray) (a0_1 : Int) (a0_2 : Nat) (a0_3 : ByteArray) (a0_4 : Int) (a0_5 : Int) (a0_6 : Nat) (a0_7 : ByteArray) (a1_0 : ByteArray) (a1_1 : Int) (a1_2 : Nat) (a1_3 : ByteArray) (a1_4 : Int) (a1_5 : Int) (a1_6 : Nat) (a1_7 : ByteArray) (r : Bool) (w : World) (h : engrossref10_Eq.f a0_0 a0_1 a0_2 a0_3 a0_4 a0_5 a0_6 a0_7 a1_0 a1_1 a1_2 a1_3 a1_4 a1_5 a1_6 a1_7 = some r) :
  Calls Try.prog 43 #[.agg #[.string a0_0, .int .i64 a0_1, .float .f64 a0_2, .string a0_3, .int .i64 a0_4, .int .i64 a0_5, .float .f64 a0_6, .string a0_7], .agg #[.string a1_0, .int .i64 a1_1, .float .f64 a1_2, .string a1_3, .int .i64 a1_4, .int .i64 a1_5, .float .f64 a1_6, .string a1_7]] w fun e w' => e = .returned (.bool r) ∧ Below w.heap.size w w' := by
 have hu56 := Try.underlying56
 have hu54 := Try.underlying54
 have HB := Aside0.mk (Below.refl w.heap.size w)
 have H : (if a0_0.toList = a1_0.toList then (if a0_4 = a1_4 then ((engrossref1_EqVal.f a0_1 a0_2 a0_3 a1_1 a1_2 a1_3).bind fun t524 => (if t524 = true then ((engrossref1_EqVal.f a0_5 a0_6 a0_7 a1_5 a1_6 a1_7).bind fun t525 => (some t525)) else (some false))) else (some false)) else (some false)) = some r := h
 clear h
 by_cases c3 : a0_0.toList = a1_0.toList
 rotate_left
 ·rw [if_neg c3] at H
  have c3b0 : (a0_0.toList == a1_0.toList) = false := beq_eq_false_iff_ne.mpr c3
  have c3b1 : (a0_0.toList != a1_0.toList) = true := bne_iff_ne.mpr c3
  obtain rfl := Option.some.inj H
  go_enter Try.func43, Try.ntmps43
  go_wp2_with (first | ((with_reducible refine gate_dst (N := 2) rfl ?_); refine box_event ?hg (N := 2) ?hd (cs := #[.string a0_0, .int .i64 a0_1, .float .f64 a0_2, .string a0_3, .int .i64 a0_4, .int .i64 a0_5, .float .f64 a0_6, .string a0_7]) (t := 56) ?hr ?_; (case hd => rfl); (case hg => rfl); (case hr => first | (go_simp; done) | (go_simp; rfl)); intro gb522 hg w28 hbox hb; have BK522 := Aside0.mk (hbox); have GW522 := bZ HB hg; have GE522 := bZ HB hg; replace HB := bW HB hb; clear hb hbox hg) | ((with_reducible refine gate_dst (N := 3) rfl ?_); refine box_event ?hg (N := 3) ?hd (cs := #[.string a1_0, .int .i64 a1_1, .float .f64 a1_2, .string a1_3, .int .i64 a1_4, .int .i64 a1_5, .float .f64 a1_6, .string a1_7]) (t := 56) ?hr ?_; (case hd => rfl); (case hg => rfl); (case hr => first | (go_simp; done) | (go_simp; rfl)); intro gb523 hg w29 hbox hb; have BK523 := Aside0.mk (hbox); have GW523 := bZ HB hg; have GE523 := bZ HB hg; have NB522_523 := bL BK522 hg; have NB523_522 := bG BK522 hg; replace BK522 := bB BK522 hb; replace HB := bW HB hb; clear hb hbox hg; have hnb30 := NB522_523.out; have hnc30 := NB523_522.out; obtain ⟨hcz31_0, hcz31_1, hcz31_2, hcz31_3, hcz31_4, hcz31_5, hcz31_6, hcz31_7, hfz31_0, hfz31_1, hfz31_2, hfz31_3, hfz31_4, hfz31_5, hfz31_6, hfz31_7⟩ := bf8 (w := w29) BK522; obtain ⟨hcz32_0, hcz32_1, hcz32_2, hcz32_3, hcz32_4, hcz32_5, hcz32_6, hcz32_7, hfz32_0, hfz32_1, hfz32_2, hfz32_3, hfz32_4, hfz32_5, hfz32_6, hfz32_7⟩ := bf8 (w := w29) BK523))
  go_ret
  exact xB HB
 rw [if_pos c3] at H
 have c3b0 : (a0_0.toList == a1_0.toList) = true := beq_iff_eq.mpr c3
 have c3b1 : (a0_0.toList != a1_0.toList) = false := bne_eq_false_iff_eq.mpr c3
 clear c3
 by_cases c4 : a0_4 = a1_4
 rotate_left
 ·rw [if_neg c4] at H
  have c4b0 : (a0_4 == a1_4) = false := beq_eq_false_iff_ne.mpr c4
  have c4b1 : (a0_4 != a1_4) = true := bne_iff_ne.mpr c4
  obtain rfl := Option.some.inj H
  go_enter Try.func43, Try.ntmps43
  go_wp2_with (first | ((with_reducible refine gate_dst (N := 2) rfl ?_); refine box_event ?hg (N := 2) ?hd (cs := #[.string a0_0, .int .i64 a0_1, .float .f64 a0_2, .string a0_3, .int .i64 a0_4, .int .i64 a0_5, .float .f64 a0_6, .string a0_7]) (t := 56) ?hr ?_; (case hd => rfl); (case hg => rfl); (case hr => first | (go_simp; done) | (go_simp; rfl)); intro gb522 hg w23 hbox hb; have BK522 := Aside0.mk (hbox); have GW522 := bZ HB hg; have GE522 := bZ HB hg; replace HB := bW HB hb; clear hb hbox hg) | ((with_reducible refine gate_dst (N := 3) rfl ?_); refine box_event ?hg (N := 3) ?hd (cs := #[.string a1_0, .int .i64 a1_1, .float .f64 a1_2, .string a1_3, .int .i64 a1_4, .int .i64 a1_5, .float .f64 a1_6, .string a1_7]) (t := 56) ?hr ?_; (case hd => rfl); (case hg => rfl); (case hr => first | (go_simp; done) | (go_simp; rfl)); intro gb523 hg w24 hbox hb; have BK523 := Aside0.mk (hbox); have GW523 := bZ HB hg; have GE523 := bZ HB hg; have NB522_523 := bL BK522 hg; have NB523_522 := bG BK522 hg; replace BK522 := bB BK522 hb; replace HB := bW HB hb; clear hb hbox hg; have hnb25 := NB522_523.out; have hnc25 := NB523_522.out; obtain ⟨hcz26_0, hcz26_1, hcz26_2, hcz26_3, hcz26_4, hcz26_5, hcz26_6, hcz26_7, hfz26_0, hfz26_1, hfz26_2, hfz26_3, hfz26_4, hfz26_5, hfz26_6, hfz26_7⟩ := bf8 (w := w24) BK522; obtain ⟨hcz27_0, hcz27_1, hcz27_2, hcz27_3, hcz27_4, hcz27_5, hcz27_6, hcz27_7, hfz27_0, hfz27_1, hfz27_2, hfz27_3, hfz27_4, hfz27_5, hfz27_6, hfz27_7⟩ := bf8 (w := w24) BK523))
  go_ret
  exact xB HB
 rw [if_pos c4] at H
 have c4b0 : (a0_4 == a1_4) = true := beq_iff_eq.mpr c4
 have c4b1 : (a0_4 != a1_4) = false := bne_eq_false_iff_eq.mpr c4
 clear c4
 replace H := Option.bind_eq_some_iff.mp H
 obtain ⟨t524, A50, H⟩ := H
 replace H : (if t524 = true then ((engrossref1_EqVal.f a0_5 a0_6 a0_7 a1_5 a1_6 a1_7).bind fun t525 => (some t525)) else (some false)) = some r := H
 have A5 := Aside0.mk A50
 clear A50
 by_cases c6 : t524 = true
 rotate_left
 ·replace c6 := Bool.eq_false_iff.mpr c6
  subst c6
  have H1 : (some false) = some r := by rw [if_neg (show ¬ (false = true) by decide)] at H; exact H
  clear H
  have H := H1
  clear H1
  obtain rfl := Option.some.inj H
  go_enter Try.func43, Try.ntmps43
  go_wp2_with (first | ((with_reducible refine gate_dst (N := 2) rfl ?_); refine box_event ?hg (N := 2) ?hd (cs := #[.string a0_0, .int .i64 a0_1, .float .f64 a0_2, .string a0_3, .int .i64 a0_4, .int .i64 a0_5, .float .f64 a0_6, .string a0_7]) (t := 56) ?hr ?_; (case hd => rfl); (case hg => rfl); (case hr => first | (go_simp; done) | (go_simp; rfl)); intro gb522 hg w17 hbox hb; have BK522 := Aside0.mk (hbox); have GW522 := bZ HB hg; have GE522 := bZ HB hg; replace HB := bW HB hb; clear hb hbox hg) | ((with_reducible refine gate_dst (N := 3) rfl ?_); refine box_event ?hg (N := 3) ?hd (cs := #[.string a1_0, .int .i64 a1_1, .float .f64 a1_2, .string a1_3, .int .i64 a1_4, .int .i64 a1_5, .float .f64 a1_6, .string a1_7]) (t := 56) ?hr ?_; (case hd => rfl); (case hg => rfl); (case hr => first | (go_simp; done) | (go_simp; rfl)); intro gb523 hg w18 hbox hb; have BK523 := Aside0.mk (hbox); have GW523 := bZ HB hg; have GE523 := bZ HB hg; have NB522_523 := bL BK522 hg; have NB523_522 := bG BK522 hg; replace BK522 := bB BK522 hb; replace HB := bW HB hb; clear hb hbox hg; have hnb19 := NB522_523.out; have hnc19 := NB523_522.out; obtain ⟨hcz20_0, hcz20_1, hcz20_2, hcz20_3, hcz20_4, hcz20_5, hcz20_6, hcz20_7, hfz20_0, hfz20_1, hfz20_2, hfz20_3, hfz20_4, hfz20_5, hfz20_6, hfz20_7⟩ := bf8 (w := w18) BK522; obtain ⟨hcz21_0, hcz21_1, hcz21_2, hcz21_3, hcz21_4, hcz21_5, hcz21_6, hcz21_7, hfz21_0, hfz21_1, hfz21_2, hfz21_3, hfz21_4, hfz21_5, hfz21_6, hfz21_7⟩ := bf8 (w := w18) BK523) | (go_at_call 57; (with_reducible refine (engrossref1_EqVal.calls a0_1 a0_2 a0_3 a1_1 a1_2 a1_3 false _ A5.out).mono ?_); rintro e w22 ⟨rfl, hb⟩; replace BK522 := bB BK522 hb; replace BK523 := bB BK523 hb; replace HB := bW HB hb; (try clear hb); (try clear hb2); (try clear hk); (try clear hi)))
  go_ret
  exact xB HB
 subst c6
 have H1 : ((engrossref1_EqVal.f a0_5 a0_6 a0_7 a1_5 a1_6 a1_7).bind fun t525 => (some t525)) = some r := by rw [if_pos rfl] at H; exact H
 clear H
 have H := H1
 clear H1
 replace H := Option.bind_eq_some_iff.mp H
 obtain ⟨t525, A70, H⟩ := H
 replace H : (some t525) = some r := H
 have A7 := Aside0.mk A70
 clear A70
 obtain rfl := Option.some.inj H
 go_enter Try.func43, Try.ntmps43
 go_wp2_with (first | ((with_reducible refine gate_dst (N := 2) rfl ?_); refine box_event ?hg (N := 2) ?hd (cs := #[.string a0_0, .int .i64 a0_1, .float .f64 a0_2, .string a0_3, .int .i64 a0_4, .int .i64 a0_5, .float .f64 a0_6, .string a0_7]) (t := 56) ?hr ?_; (case hd => rfl); (case hg => rfl); (case hr => first | (go_simp; done) | (go_simp; rfl)); intro gb522 hg w8 hbox hb; have BK522 := Aside0.mk (hbox); have GW522 := bZ HB hg; have GE522 := bZ HB hg; replace HB := bW HB hb; clear hb hbox hg) | ((with_reducible refine gate_dst (N := 3) rfl ?_); refine box_event ?hg (N := 3) ?hd (cs := #[.string a1_0, .int .i64 a1_1, .float .f64 a1_2, .string a1_3, .int .i64 a1_4, .int .i64 a1_5, .float .f64 a1_6, .string a1_7]) (t := 56) ?hr ?_; (case hd => rfl); (case hg => rfl); (case hr => first | (go_simp; done) | (go_simp; rfl)); intro gb523 hg w9 hbox hb; have BK523 := Aside0.mk (hbox); have GW523 := bZ HB hg; have GE523 := bZ HB hg; have NB522_523 := bL BK522 hg; have NB523_522 := bG BK522 hg; replace BK522 := bB BK522 hb; replace HB := bW HB hb; clear hb hbox hg; have hnb10 := NB522_523.out; have hnc10 := NB523_522.out; obtain ⟨hcz11_0, hcz11_1, hcz11_2, hcz11_3, hcz11_4, hcz11_5, hcz11_6, hcz11_7, hfz11_0, hfz11_1, hfz11_2, hfz11_3, hfz11_4, hfz11_5, hfz11_6, hfz11_7⟩ := bf8 (w := w9) BK522; obtain ⟨hcz12_0, hcz12_1, hcz12_2, hcz12_3, hcz12_4, hcz12_5, hcz12_6, hcz12_7, hfz12_0, hfz12_1, hfz12_2, hfz12_3, hfz12_4, hfz12_5, hfz12_6, hfz12_7⟩ := bf8 (w := w9) BK523) | (go_at_call 57; (with_reducible refine (engrossref1_EqVal.calls a0_1 a0_2 a0_3 a1_1 a1_2 a1_3 true _ A5.out).mono ?_); rintro e w13 ⟨rfl, hb⟩; replace BK522 := bB BK522 hb; replace BK523 := bB BK523 hb; replace HB := bW HB hb; (try clear hb); (try clear hb2); (try clear hk); (try clear hi); obtain ⟨hcz14_0, hcz14_1, hcz14_2, hcz14_3, hcz14_4, hcz14_5, hcz14_6, hcz14_7, hfz14_0, hfz14_1, hfz14_2, hfz14_3, hfz14_4, hfz14_5, hfz14_6, hfz14_7⟩ := bf8 (w := w13) BK522; obtain ⟨hcz15_0, hcz15_1, hcz15_2, hcz15_3, hcz15_4, hcz15_5, hcz15_6, hcz15_7, hfz15_0, hfz15_1, hfz15_2, hfz15_3, hfz15_4, hfz15_5, hfz15_6, hfz15_7⟩ := bf8 (w := w13) BK523) | (go_at_call 57; (with_reducible refine (engrossref1_EqVal.calls a0_5 a0_6 a0_7 a1_5 a1_6 a1_7 t525 _ A7.out).mono ?_); rintro e w16 ⟨rfl, hb⟩; replace BK522 := bB BK522 hb; replace BK523 := bB BK523 hb; replace HB := bW HB hb; (try clear hb); (try clear hb2); (try clear hk); (try clear hi)))
 go_ret
 exact xB HB
end Go.Proofs.Ytmmjpieafbjggaa.P
end
