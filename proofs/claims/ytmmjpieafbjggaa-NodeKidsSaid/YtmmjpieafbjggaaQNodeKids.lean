/- The law NodeKids returns true for every input: the words, the walks and the plain statement that its row needs, part 5 of 5. No condition. (Merged by a program of this session out of its own texts.) -/
import Derived.Laws.BitsAllLaws
import Derived.Test.YtmmjpieafbjggaaRows
import Derived.WalkKit
import Derived.ProofKit
import Derived.OpenShut
import Derived.ShutString
import Derived.ChangeOld
import Derived.Below
import Derived.SizedLaws
import Derived.Test.YtmmjpieafbjggaaQNodeKids3
section
namespace Go.Proofs.Ytmmjpieafbjggaa.P
open Go.RowKit Go.Proofs.YtmmjpieafbjggaaW.PrintWords Go.Proofs.YtmmjpieafbjggaaW.PrintLast Go.Proofs.YtmmjpieafbjggaaW.PrintMore
attribute [local go_sem] max2_int min2_int max_two min_two max_three min_three max_four min_four   -- for this text's walks alone
attribute [local go_sem] x_str_gtr x_str_leq x_str_geq ext_bits ext_frombits ext_neg x_store_float Instr.field asAgg
set_option linter.unusedVariables false
set_option linter.unusedSimpArgs false
def engrosslaw11_begun.f (k : Nat)  : Option (Bool) := (some (([(⟨(⟨#[97]⟩ : ByteArray), (⟨1, 4607182418800017408, (⟨#[]⟩ : ByteArray)⟩ : S54), 0, (⟨0, 0, (⟨#[]⟩ : ByteArray)⟩ : S54)⟩ : S62)] : List (S62)) : List (S62))).bind fun y285 => ((some (([(⟨#[107]⟩ : ByteArray)] : List ByteArray) : List ByteArray)).bind fun y289 => ((some (([2, 3] : List Int) : List Int)).bind fun y292 => ((node_Encode.f k true y285 ([] : List ByteArray) ([] : List Int)).bind fun bt296 => ((node_Encode.f k false ([] : List (S62)) y289 y292).bind fun bt300 => ((node_Decode.f k bt300.1).bind fun bt304 => (if 256 ≤ 281474976710656 then ((node_Decode.f k (List.replicate 256 0)).bind fun bt319 => ((node_May.f k true y285 ([] : List ByteArray) ([] : List Int)).bind fun t331 => (if t331 = true then ((node_May.f k false ([] : List (S62)) y289 y292).bind fun t332 => (if t332 = true then ((node_May.f k false ([] : List (S62)) ([] : List ByteArray) ([] : List Int)).bind fun t333 => (if t333 = true then (none) else (if bt296.2 = 0 then (if bt300.2 = 0 then (if (bt296.1.length : Int) = 256 then (if 0 < (bt296.1.length : Int) then (if (rd bt296.1 0) = 1 then (if bt304.2.2.2.2 = 0 then (if (bt304.2.2.2.1.length : Int) = 2 then (if bt319.2.2.2.2 = 8 then ((node_Kid.f k false ([] : List (S62)) y289 y292 (⟨#[107]⟩ : ByteArray)).bind fun t335 => (if t335 = 1 then ((node_Kid.f k false ([] : List (S62)) y289 y292 (⟨#[106]⟩ : ByteArray)).bind fun t336 => (if t336 = 0 then ((node_Kid.f k true y285 ([] : List ByteArray) ([] : List Int) (⟨#[106]⟩ : ByteArray)).bind fun t337 => (if t337 = (-1) then ((node_Size.f k true y285 ([] : List ByteArray) ([] : List Int)).bind fun t338 => (some (decide (t338 > 10)))) else (none))) else (none))) else (none))) else (none)) else (none)) else (none)) else (none)) else (none)) else (none)) else (none)) else (none)))) else (none))) else (none)))) else (none)))))))
theorem engrosslaw11_begun.mono : ∀ k, LeO (engrosslaw11_begun.f k ) (engrosslaw11_begun.f (k + 1) ) := by
 intro  k
 unfold engrosslaw11_begun.f
 repeat' first
   | (with_reducible exact node_Decode.mono _ _)
   | (with_reducible exact node_Encode.mono _ _ _ _ _)
   | (with_reducible exact node_Kid.mono _ _ _ _ _ _)
   | (with_reducible exact node_May.mono _ _ _ _ _)
   | (with_reducible exact node_Size.mono _ _ _ _ _)
   | (with_reducible exact LeO.refl _)
   | (with_reducible exact LeO.none _)
   | (with_reducible refine LeO.ite ?_ ?_)
   | (with_reducible refine LeO.bind ?_ (fun _ => ?_))
   | exact node_Decode.mono _ _
   | exact node_Encode.mono _ _ _ _ _
   | exact node_Kid.mono _ _ _ _ _ _
   | exact node_May.mono _ _ _ _ _
   | exact node_Size.mono _ _ _ _ _
   | exact LeO.none _
   | refine LeO.ite ?_ ?_
   | refine LeO.bind ?_ (fun _ => ?_)
set_option maxHeartbeats 8000000 in
set_option maxRecDepth 100000 in
theorem engrosslaw11_begun.calls (k : Nat)  (r : Bool) (w : World) (h : engrosslaw11_begun.f k  = some r) :
  Calls Try.prog 11 #[] w fun e w' => e = .returned (.bool r) ∧ Below w.heap.size w w' := by
 have hu54 := Try.underlying54
 have hu62 := Try.underlying62
 have hu36 := Try.underlying36
 have HB := Aside0.mk (Below.refl w.heap.size w)
 have H : ((some (([(⟨(⟨#[97]⟩ : ByteArray), (⟨1, 4607182418800017408, (⟨#[]⟩ : ByteArray)⟩ : S54), 0, (⟨0, 0, (⟨#[]⟩ : ByteArray)⟩ : S54)⟩ : S62)] : List (S62)) : List (S62))).bind fun y285 => ((some (([(⟨#[107]⟩ : ByteArray)] : List ByteArray) : List ByteArray)).bind fun y289 => ((some (([2, 3] : List Int) : List Int)).bind fun y292 => ((node_Encode.f k true y285 ([] : List ByteArray) ([] : List Int)).bind fun bt296 => ((node_Encode.f k false ([] : List (S62)) y289 y292).bind fun bt300 => ((node_Decode.f k bt300.1).bind fun bt304 => (if 256 ≤ 281474976710656 then ((node_Decode.f k (List.replicate 256 0)).bind fun bt319 => ((node_May.f k true y285 ([] : List ByteArray) ([] : List Int)).bind fun t331 => (if t331 = true then ((node_May.f k false ([] : List (S62)) y289 y292).bind fun t332 => (if t332 = true then ((node_May.f k false ([] : List (S62)) ([] : List ByteArray) ([] : List Int)).bind fun t333 => (if t333 = true then (none) else (if bt296.2 = 0 then (if bt300.2 = 0 then (if (bt296.1.length : Int) = 256 then (if 0 < (bt296.1.length : Int) then (if (rd bt296.1 0) = 1 then (if bt304.2.2.2.2 = 0 then (if (bt304.2.2.2.1.length : Int) = 2 then (if bt319.2.2.2.2 = 8 then ((node_Kid.f k false ([] : List (S62)) y289 y292 (⟨#[107]⟩ : ByteArray)).bind fun t335 => (if t335 = 1 then ((node_Kid.f k false ([] : List (S62)) y289 y292 (⟨#[106]⟩ : ByteArray)).bind fun t336 => (if t336 = 0 then ((node_Kid.f k true y285 ([] : List ByteArray) ([] : List Int) (⟨#[106]⟩ : ByteArray)).bind fun t337 => (if t337 = (-1) then ((node_Size.f k true y285 ([] : List ByteArray) ([] : List Int)).bind fun t338 => (some (decide (t338 > 10)))) else (none))) else (none))) else (none))) else (none)) else (none)) else (none)) else (none)) else (none)) else (none)) else (none)) else (none)))) else (none))) else (none)))) else (none)))))))) = some r := h
 clear h
 obtain ⟨y285, hy285⟩ : ∃ y_ : List (S62), y_ = (([(⟨(⟨#[97]⟩ : ByteArray), (⟨1, 4607182418800017408, (⟨#[]⟩ : ByteArray)⟩ : S54), 0, (⟨0, 0, (⟨#[]⟩ : ByteArray)⟩ : S54)⟩ : S62)] : List (S62))) := ⟨_, rfl⟩
 replace H : ((some (([(⟨#[107]⟩ : ByteArray)] : List ByteArray) : List ByteArray)).bind fun y289 => ((some (([2, 3] : List Int) : List Int)).bind fun y292 => ((node_Encode.f k true y285 ([] : List ByteArray) ([] : List Int)).bind fun bt296 => ((node_Encode.f k false ([] : List (S62)) y289 y292).bind fun bt300 => ((node_Decode.f k bt300.1).bind fun bt304 => (if 256 ≤ 281474976710656 then ((node_Decode.f k (List.replicate 256 0)).bind fun bt319 => ((node_May.f k true y285 ([] : List ByteArray) ([] : List Int)).bind fun t331 => (if t331 = true then ((node_May.f k false ([] : List (S62)) y289 y292).bind fun t332 => (if t332 = true then ((node_May.f k false ([] : List (S62)) ([] : List ByteArray) ([] : List Int)).bind fun t333 => (if t333 = true then (none) else (if bt296.2 = 0 then (if bt300.2 = 0 then (if (bt296.1.length : Int) = 256 then (if 0 < (bt296.1.length : Int) then (if (rd bt296.1 0) = 1 then (if bt304.2.2.2.2 = 0 then (if (bt304.2.2.2.1.length : Int) = 2 then (if bt319.2.2.2.2 = 8 then ((node_Kid.f k false ([] : List (S62)) y289 y292 (⟨#[107]⟩ : ByteArray)).bind fun t335 => (if t335 = 1 then ((node_Kid.f k false ([] : List (S62)) y289 y292 (⟨#[106]⟩ : ByteArray)).bind fun t336 => (if t336 = 0 then ((node_Kid.f k true y285 ([] : List ByteArray) ([] : List Int) (⟨#[106]⟩ : ByteArray)).bind fun t337 => (if t337 = (-1) then ((node_Size.f k true y285 ([] : List ByteArray) ([] : List Int)).bind fun t338 => (some (decide (t338 > 10)))) else (none))) else (none))) else (none))) else (none)) else (none)) else (none)) else (none)) else (none)) else (none)) else (none)) else (none)))) else (none))) else (none)))) else (none))))))) = some r := by first | (rw [hy285]; with_reducible exact H) | (have H2_ := (Option.bind_some _ _).symm.trans H; rw [hy285]; with_reducible exact H2_) | (have H2_ := (Option.bind_some _ _).symm.trans H; with_reducible exact H2_) | with_reducible exact H | (rw [hy285]; exact H) | exact H
 have Ny285 := Aside0.mk hy285
 clear hy285
 obtain ⟨y289, hy289⟩ : ∃ y_ : List ByteArray, y_ = (([(⟨#[107]⟩ : ByteArray)] : List ByteArray)) := ⟨_, rfl⟩
 replace H : ((some (([2, 3] : List Int) : List Int)).bind fun y292 => ((node_Encode.f k true y285 ([] : List ByteArray) ([] : List Int)).bind fun bt296 => ((node_Encode.f k false ([] : List (S62)) y289 y292).bind fun bt300 => ((node_Decode.f k bt300.1).bind fun bt304 => (if 256 ≤ 281474976710656 then ((node_Decode.f k (List.replicate 256 0)).bind fun bt319 => ((node_May.f k true y285 ([] : List ByteArray) ([] : List Int)).bind fun t331 => (if t331 = true then ((node_May.f k false ([] : List (S62)) y289 y292).bind fun t332 => (if t332 = true then ((node_May.f k false ([] : List (S62)) ([] : List ByteArray) ([] : List Int)).bind fun t333 => (if t333 = true then (none) else (if bt296.2 = 0 then (if bt300.2 = 0 then (if (bt296.1.length : Int) = 256 then (if 0 < (bt296.1.length : Int) then (if (rd bt296.1 0) = 1 then (if bt304.2.2.2.2 = 0 then (if (bt304.2.2.2.1.length : Int) = 2 then (if bt319.2.2.2.2 = 8 then ((node_Kid.f k false ([] : List (S62)) y289 y292 (⟨#[107]⟩ : ByteArray)).bind fun t335 => (if t335 = 1 then ((node_Kid.f k false ([] : List (S62)) y289 y292 (⟨#[106]⟩ : ByteArray)).bind fun t336 => (if t336 = 0 then ((node_Kid.f k true y285 ([] : List ByteArray) ([] : List Int) (⟨#[106]⟩ : ByteArray)).bind fun t337 => (if t337 = (-1) then ((node_Size.f k true y285 ([] : List ByteArray) ([] : List Int)).bind fun t338 => (some (decide (t338 > 10)))) else (none))) else (none))) else (none))) else (none)) else (none)) else (none)) else (none)) else (none)) else (none)) else (none)) else (none)))) else (none))) else (none)))) else (none)))))) = some r := by first | (rw [hy289]; with_reducible exact H) | (have H2_ := (Option.bind_some _ _).symm.trans H; rw [hy289]; with_reducible exact H2_) | (have H2_ := (Option.bind_some _ _).symm.trans H; with_reducible exact H2_) | with_reducible exact H | (rw [hy289]; exact H) | exact H
 have Ny289 := Aside0.mk hy289
 clear hy289
 obtain ⟨y292, hy292⟩ : ∃ y_ : List Int, y_ = (([2, 3] : List Int)) := ⟨_, rfl⟩
 replace H : ((node_Encode.f k true y285 ([] : List ByteArray) ([] : List Int)).bind fun bt296 => ((node_Encode.f k false ([] : List (S62)) y289 y292).bind fun bt300 => ((node_Decode.f k bt300.1).bind fun bt304 => (if 256 ≤ 281474976710656 then ((node_Decode.f k (List.replicate 256 0)).bind fun bt319 => ((node_May.f k true y285 ([] : List ByteArray) ([] : List Int)).bind fun t331 => (if t331 = true then ((node_May.f k false ([] : List (S62)) y289 y292).bind fun t332 => (if t332 = true then ((node_May.f k false ([] : List (S62)) ([] : List ByteArray) ([] : List Int)).bind fun t333 => (if t333 = true then (none) else (if bt296.2 = 0 then (if bt300.2 = 0 then (if (bt296.1.length : Int) = 256 then (if 0 < (bt296.1.length : Int) then (if (rd bt296.1 0) = 1 then (if bt304.2.2.2.2 = 0 then (if (bt304.2.2.2.1.length : Int) = 2 then (if bt319.2.2.2.2 = 8 then ((node_Kid.f k false ([] : List (S62)) y289 y292 (⟨#[107]⟩ : ByteArray)).bind fun t335 => (if t335 = 1 then ((node_Kid.f k false ([] : List (S62)) y289 y292 (⟨#[106]⟩ : ByteArray)).bind fun t336 => (if t336 = 0 then ((node_Kid.f k true y285 ([] : List ByteArray) ([] : List Int) (⟨#[106]⟩ : ByteArray)).bind fun t337 => (if t337 = (-1) then ((node_Size.f k true y285 ([] : List ByteArray) ([] : List Int)).bind fun t338 => (some (decide (t338 > 10)))) else (none))) else (none))) else (none))) else (none)) else (none)) else (none)) else (none)) else (none)) else (none)) else (none)) else (none)))) else (none))) else (none)))) else (none))))) = some r := by first | (rw [hy292]; with_reducible exact H) | (have H2_ := (Option.bind_some _ _).symm.trans H; rw [hy292]; with_reducible exact H2_) | (have H2_ := (Option.bind_some _ _).symm.trans H; with_reducible exact H2_) | with_reducible exact H | (rw [hy292]; exact H) | exact H
 have Ny292 := Aside0.mk hy292
 clear hy292
 replace H := Option.bind_eq_some_iff.mp H
 obtain ⟨⟨t296, t299⟩, A10, H⟩ := H
 replace H : ((node_Encode.f k false ([] : List (S62)) y289 y292).bind fun bt300 => ((node_Decode.f k bt300.1).bind fun bt304 => (if 256 ≤ 281474976710656 then ((node_Decode.f k (List.replicate 256 0)).bind fun bt319 => ((node_May.f k true y285 ([] : List ByteArray) ([] : List Int)).bind fun t331 => (if t331 = true then ((node_May.f k false ([] : List (S62)) y289 y292).bind fun t332 => (if t332 = true then ((node_May.f k false ([] : List (S62)) ([] : List ByteArray) ([] : List Int)).bind fun t333 => (if t333 = true then (none) else (if t299 = 0 then (if bt300.2 = 0 then (if (t296.length : Int) = 256 then (if 0 < (t296.length : Int) then (if (rd t296 0) = 1 then (if bt304.2.2.2.2 = 0 then (if (bt304.2.2.2.1.length : Int) = 2 then (if bt319.2.2.2.2 = 8 then ((node_Kid.f k false ([] : List (S62)) y289 y292 (⟨#[107]⟩ : ByteArray)).bind fun t335 => (if t335 = 1 then ((node_Kid.f k false ([] : List (S62)) y289 y292 (⟨#[106]⟩ : ByteArray)).bind fun t336 => (if t336 = 0 then ((node_Kid.f k true y285 ([] : List ByteArray) ([] : List Int) (⟨#[106]⟩ : ByteArray)).bind fun t337 => (if t337 = (-1) then ((node_Size.f k true y285 ([] : List ByteArray) ([] : List Int)).bind fun t338 => (some (decide (t338 > 10)))) else (none))) else (none))) else (none))) else (none)) else (none)) else (none)) else (none)) else (none)) else (none)) else (none)) else (none)))) else (none))) else (none)))) else (none)))) = some r := H
 have A1 := Aside0.mk A10
 clear A10
 replace H := Option.bind_eq_some_iff.mp H
 obtain ⟨⟨t300, t303⟩, A20, H⟩ := H
 replace H : ((node_Decode.f k t300).bind fun bt304 => (if 256 ≤ 281474976710656 then ((node_Decode.f k (List.replicate 256 0)).bind fun bt319 => ((node_May.f k true y285 ([] : List ByteArray) ([] : List Int)).bind fun t331 => (if t331 = true then ((node_May.f k false ([] : List (S62)) y289 y292).bind fun t332 => (if t332 = true then ((node_May.f k false ([] : List (S62)) ([] : List ByteArray) ([] : List Int)).bind fun t333 => (if t333 = true then (none) else (if t299 = 0 then (if t303 = 0 then (if (t296.length : Int) = 256 then (if 0 < (t296.length : Int) then (if (rd t296 0) = 1 then (if bt304.2.2.2.2 = 0 then (if (bt304.2.2.2.1.length : Int) = 2 then (if bt319.2.2.2.2 = 8 then ((node_Kid.f k false ([] : List (S62)) y289 y292 (⟨#[107]⟩ : ByteArray)).bind fun t335 => (if t335 = 1 then ((node_Kid.f k false ([] : List (S62)) y289 y292 (⟨#[106]⟩ : ByteArray)).bind fun t336 => (if t336 = 0 then ((node_Kid.f k true y285 ([] : List ByteArray) ([] : List Int) (⟨#[106]⟩ : ByteArray)).bind fun t337 => (if t337 = (-1) then ((node_Size.f k true y285 ([] : List ByteArray) ([] : List Int)).bind fun t338 => (some (decide (t338 > 10)))) else (none))) else (none))) else (none))) else (none)) else (none)) else (none)) else (none)) else (none)) else (none)) else (none)) else (none)))) else (none))) else (none)))) else (none))) = some r := H
 have A2 := Aside0.mk A20
 clear A20
 replace H := Option.bind_eq_some_iff.mp H
 obtain ⟨⟨t304, t305, t308, t311, t314⟩, A30, H⟩ := H
 replace H : (if 256 ≤ 281474976710656 then ((node_Decode.f k (List.replicate 256 0)).bind fun bt319 => ((node_May.f k true y285 ([] : List ByteArray) ([] : List Int)).bind fun t331 => (if t331 = true then ((node_May.f k false ([] : List (S62)) y289 y292).bind fun t332 => (if t332 = true then ((node_May.f k false ([] : List (S62)) ([] : List ByteArray) ([] : List Int)).bind fun t333 => (if t333 = true then (none) else (if t299 = 0 then (if t303 = 0 then (if (t296.length : Int) = 256 then (if 0 < (t296.length : Int) then (if (rd t296 0) = 1 then (if t314 = 0 then (if (t311.length : Int) = 2 then (if bt319.2.2.2.2 = 8 then ((node_Kid.f k false ([] : List (S62)) y289 y292 (⟨#[107]⟩ : ByteArray)).bind fun t335 => (if t335 = 1 then ((node_Kid.f k false ([] : List (S62)) y289 y292 (⟨#[106]⟩ : ByteArray)).bind fun t336 => (if t336 = 0 then ((node_Kid.f k true y285 ([] : List ByteArray) ([] : List Int) (⟨#[106]⟩ : ByteArray)).bind fun t337 => (if t337 = (-1) then ((node_Size.f k true y285 ([] : List ByteArray) ([] : List Int)).bind fun t338 => (some (decide (t338 > 10)))) else (none))) else (none))) else (none))) else (none)) else (none)) else (none)) else (none)) else (none)) else (none)) else (none)) else (none)))) else (none))) else (none)))) else (none)) = some r := H
 have A3 := Aside0.mk A30
 clear A30
 by_cases c4 : 256 ≤ 281474976710656
 ·rw [if_pos c4] at H
  have c4b0 := eq_true c4
  have c4b1 : decide (256 ≤ 281474976710656) = true := decide_eq_true c4
  clear c4
  obtain ⟨y316, hy316⟩ : ∃ y_ : List Int, y_ = (List.replicate 256 0) := ⟨_, rfl⟩
  replace H : ((node_Decode.f k y316).bind fun bt319 => ((node_May.f k true y285 ([] : List ByteArray) ([] : List Int)).bind fun t331 => (if t331 = true then ((node_May.f k false ([] : List (S62)) y289 y292).bind fun t332 => (if t332 = true then ((node_May.f k false ([] : List (S62)) ([] : List ByteArray) ([] : List Int)).bind fun t333 => (if t333 = true then (none) else (if t299 = 0 then (if t303 = 0 then (if (t296.length : Int) = 256 then (if 0 < (t296.length : Int) then (if (rd t296 0) = 1 then (if t314 = 0 then (if (t311.length : Int) = 2 then (if bt319.2.2.2.2 = 8 then ((node_Kid.f k false ([] : List (S62)) y289 y292 (⟨#[107]⟩ : ByteArray)).bind fun t335 => (if t335 = 1 then ((node_Kid.f k false ([] : List (S62)) y289 y292 (⟨#[106]⟩ : ByteArray)).bind fun t336 => (if t336 = 0 then ((node_Kid.f k true y285 ([] : List ByteArray) ([] : List Int) (⟨#[106]⟩ : ByteArray)).bind fun t337 => (if t337 = (-1) then ((node_Size.f k true y285 ([] : List ByteArray) ([] : List Int)).bind fun t338 => (some (decide (t338 > 10)))) else (none))) else (none))) else (none))) else (none)) else (none)) else (none)) else (none)) else (none)) else (none)) else (none)) else (none)))) else (none))) else (none)))) = some r := by first | (rw [hy316]; with_reducible exact H) | (have H2_ := (Option.bind_some _ _).symm.trans H; rw [hy316]; with_reducible exact H2_) | (have H2_ := (Option.bind_some _ _).symm.trans H; with_reducible exact H2_) | with_reducible exact H | (rw [hy316]; exact H) | exact H
  have Ny316 := Aside0.mk hy316
  clear hy316
  replace H := Option.bind_eq_some_iff.mp H
  obtain ⟨⟨t319, t320, t323, t326, t329⟩, A50, H⟩ := H
  replace H : ((node_May.f k true y285 ([] : List ByteArray) ([] : List Int)).bind fun t331 => (if t331 = true then ((node_May.f k false ([] : List (S62)) y289 y292).bind fun t332 => (if t332 = true then ((node_May.f k false ([] : List (S62)) ([] : List ByteArray) ([] : List Int)).bind fun t333 => (if t333 = true then (none) else (if t299 = 0 then (if t303 = 0 then (if (t296.length : Int) = 256 then (if 0 < (t296.length : Int) then (if (rd t296 0) = 1 then (if t314 = 0 then (if (t311.length : Int) = 2 then (if t329 = 8 then ((node_Kid.f k false ([] : List (S62)) y289 y292 (⟨#[107]⟩ : ByteArray)).bind fun t335 => (if t335 = 1 then ((node_Kid.f k false ([] : List (S62)) y289 y292 (⟨#[106]⟩ : ByteArray)).bind fun t336 => (if t336 = 0 then ((node_Kid.f k true y285 ([] : List ByteArray) ([] : List Int) (⟨#[106]⟩ : ByteArray)).bind fun t337 => (if t337 = (-1) then ((node_Size.f k true y285 ([] : List ByteArray) ([] : List Int)).bind fun t338 => (some (decide (t338 > 10)))) else (none))) else (none))) else (none))) else (none)) else (none)) else (none)) else (none)) else (none)) else (none)) else (none)) else (none)))) else (none))) else (none))) = some r := H
  have A5 := Aside0.mk A50
  clear A50
  replace H := Option.bind_eq_some_iff.mp H
  obtain ⟨t331, A60, H⟩ := H
  replace H : (if t331 = true then ((node_May.f k false ([] : List (S62)) y289 y292).bind fun t332 => (if t332 = true then ((node_May.f k false ([] : List (S62)) ([] : List ByteArray) ([] : List Int)).bind fun t333 => (if t333 = true then (none) else (if t299 = 0 then (if t303 = 0 then (if (t296.length : Int) = 256 then (if 0 < (t296.length : Int) then (if (rd t296 0) = 1 then (if t314 = 0 then (if (t311.length : Int) = 2 then (if t329 = 8 then ((node_Kid.f k false ([] : List (S62)) y289 y292 (⟨#[107]⟩ : ByteArray)).bind fun t335 => (if t335 = 1 then ((node_Kid.f k false ([] : List (S62)) y289 y292 (⟨#[106]⟩ : ByteArray)).bind fun t336 => (if t336 = 0 then ((node_Kid.f k true y285 ([] : List ByteArray) ([] : List Int) (⟨#[106]⟩ : ByteArray)).bind fun t337 => (if t337 = (-1) then ((node_Size.f k true y285 ([] : List ByteArray) ([] : List Int)).bind fun t338 => (some (decide (t338 > 10)))) else (none))) else (none))) else (none))) else (none)) else (none)) else (none)) else (none)) else (none)) else (none)) else (none)) else (none)))) else (none))) else (none)) = some r := H
  have A6 := Aside0.mk A60
  clear A60
  by_cases c7 : t331 = true
  ·subst c7
   have H1 : ((node_May.f k false ([] : List (S62)) y289 y292).bind fun t332 => (if t332 = true then ((node_May.f k false ([] : List (S62)) ([] : List ByteArray) ([] : List Int)).bind fun t333 => (if t333 = true then (none) else (if t299 = 0 then (if t303 = 0 then (if (t296.length : Int) = 256 then (if 0 < (t296.length : Int) then (if (rd t296 0) = 1 then (if t314 = 0 then (if (t311.length : Int) = 2 then (if t329 = 8 then ((node_Kid.f k false ([] : List (S62)) y289 y292 (⟨#[107]⟩ : ByteArray)).bind fun t335 => (if t335 = 1 then ((node_Kid.f k false ([] : List (S62)) y289 y292 (⟨#[106]⟩ : ByteArray)).bind fun t336 => (if t336 = 0 then ((node_Kid.f k true y285 ([] : List ByteArray) ([] : List Int) (⟨#[106]⟩ : ByteArray)).bind fun t337 => (if t337 = (-1) then ((node_Size.f k true y285 ([] : List ByteArray) ([] : List Int)).bind fun t338 => (some (decide (t338 > 10)))) else (none))) else (none))) else (none))) else (none)) else (none)) else (none)) else (none)) else (none)) else (none)) else (none)) else (none)))) else (none))) = some r := by rw [if_pos rfl] at H; exact H
   clear H
   have H := H1
   clear H1
   replace H := Option.bind_eq_some_iff.mp H
   obtain ⟨t332, A80, H⟩ := H
   replace H : (if t332 = true then ((node_May.f k false ([] : List (S62)) ([] : List ByteArray) ([] : List Int)).bind fun t333 => (if t333 = true then (none) else (if t299 = 0 then (if t303 = 0 then (if (t296.length : Int) = 256 then (if 0 < (t296.length : Int) then (if (rd t296 0) = 1 then (if t314 = 0 then (if (t311.length : Int) = 2 then (if t329 = 8 then ((node_Kid.f k false ([] : List (S62)) y289 y292 (⟨#[107]⟩ : ByteArray)).bind fun t335 => (if t335 = 1 then ((node_Kid.f k false ([] : List (S62)) y289 y292 (⟨#[106]⟩ : ByteArray)).bind fun t336 => (if t336 = 0 then ((node_Kid.f k true y285 ([] : List ByteArray) ([] : List Int) (⟨#[106]⟩ : ByteArray)).bind fun t337 => (if t337 = (-1) then ((node_Size.f k true y285 ([] : List ByteArray) ([] : List Int)).bind fun t338 => (some (decide (t338 > 10)))) else (none))) else (none))) else (none))) else (none)) else (none)) else (none)) else (none)) else (none)) else (none)) else (none)) else (none)))) else (none)) = some r := H
   have A8 := Aside0.mk A80
   clear A80
   by_cases c9 : t332 = true
   ·subst c9
    have H1 : ((node_May.f k false ([] : List (S62)) ([] : List ByteArray) ([] : List Int)).bind fun t333 => (if t333 = true then (none) else (if t299 = 0 then (if t303 = 0 then (if (t296.length : Int) = 256 then (if 0 < (t296.length : Int) then (if (rd t296 0) = 1 then (if t314 = 0 then (if (t311.length : Int) = 2 then (if t329 = 8 then ((node_Kid.f k false ([] : List (S62)) y289 y292 (⟨#[107]⟩ : ByteArray)).bind fun t335 => (if t335 = 1 then ((node_Kid.f k false ([] : List (S62)) y289 y292 (⟨#[106]⟩ : ByteArray)).bind fun t336 => (if t336 = 0 then ((node_Kid.f k true y285 ([] : List ByteArray) ([] : List Int) (⟨#[106]⟩ : ByteArray)).bind fun t337 => (if t337 = (-1) then ((node_Size.f k true y285 ([] : List ByteArray) ([] : List Int)).bind fun t338 => (some (decide (t338 > 10)))) else (none))) else (none))) else (none))) else (none)) else (none)) else (none)) else (none)) else (none)) else (none)) else (none)) else (none)))) = some r := by rw [if_pos rfl] at H; exact H
    clear H
    have H := H1
    clear H1
    replace H := Option.bind_eq_some_iff.mp H
    obtain ⟨t333, A100, H⟩ := H
    replace H : (if t333 = true then (none) else (if t299 = 0 then (if t303 = 0 then (if (t296.length : Int) = 256 then (if 0 < (t296.length : Int) then (if (rd t296 0) = 1 then (if t314 = 0 then (if (t311.length : Int) = 2 then (if t329 = 8 then ((node_Kid.f k false ([] : List (S62)) y289 y292 (⟨#[107]⟩ : ByteArray)).bind fun t335 => (if t335 = 1 then ((node_Kid.f k false ([] : List (S62)) y289 y292 (⟨#[106]⟩ : ByteArray)).bind fun t336 => (if t336 = 0 then ((node_Kid.f k true y285 ([] : List ByteArray) ([] : List Int) (⟨#[106]⟩ : ByteArray)).bind fun t337 => (if t337 = (-1) then ((node_Size.f k true y285 ([] : List ByteArray) ([] : List Int)).bind fun t338 => (some (decide (t338 > 10)))) else (none))) else (none))) else (none))) else (none)) else (none)) else (none)) else (none)) else (none)) else (none)) else (none)) else (none))) = some r := H
    have A10 := Aside0.mk A100
    clear A100
    by_cases c11 : t333 = true
    ·subst c11
     have H1 : (none) = some r := by rw [if_pos rfl] at H; exact H
     clear H
     have H := H1
     clear H1
     exact absurd H (by simp)
    ·replace c11 := Bool.eq_false_iff.mpr c11
     subst c11
     have H1 : (if t299 = 0 then (if t303 = 0 then (if (t296.length : Int) = 256 then (if 0 < (t296.length : Int) then (if (rd t296 0) = 1 then (if t314 = 0 then (if (t311.length : Int) = 2 then (if t329 = 8 then ((node_Kid.f k false ([] : List (S62)) y289 y292 (⟨#[107]⟩ : ByteArray)).bind fun t335 => (if t335 = 1 then ((node_Kid.f k false ([] : List (S62)) y289 y292 (⟨#[106]⟩ : ByteArray)).bind fun t336 => (if t336 = 0 then ((node_Kid.f k true y285 ([] : List ByteArray) ([] : List Int) (⟨#[106]⟩ : ByteArray)).bind fun t337 => (if t337 = (-1) then ((node_Size.f k true y285 ([] : List ByteArray) ([] : List Int)).bind fun t338 => (some (decide (t338 > 10)))) else (none))) else (none))) else (none))) else (none)) else (none)) else (none)) else (none)) else (none)) else (none)) else (none)) else (none)) = some r := by rw [if_neg (show ¬ (false = true) by decide)] at H; exact H
     clear H
     have H := H1
     clear H1
     by_cases c12 : t299 = 0
     ·rw [if_pos c12] at H
      have c12b0 : (t299 == 0) = true := beq_iff_eq.mpr c12
      have c12b1 : (t299 != 0) = false := bne_eq_false_iff_eq.mpr c12
      clear c12
      by_cases c13 : t303 = 0
      ·rw [if_pos c13] at H
       have c13b0 : (t303 == 0) = true := beq_iff_eq.mpr c13
       have c13b1 : (t303 != 0) = false := bne_eq_false_iff_eq.mpr c13
       clear c13
       by_cases c14 : (t296.length : Int) = 256
       ·rw [if_pos c14] at H
        have c14b0 : ((t296.length : Int) == 256) = true := beq_iff_eq.mpr c14
        have c14b1 : ((t296.length : Int) != 256) = false := bne_eq_false_iff_eq.mpr c14
        clear c14
        by_cases c15 : 0 < (t296.length : Int)
        ·rw [if_pos c15] at H
         have c15b0 : decide (0 < (t296.length : Int)) = true := decide_eq_true c15
         have c15b1 : decide (0 < t296.length) = true := decide_eq_true (by omega)
         clear c15
         by_cases c16 : (rd t296 0) = 1
         ·rw [if_pos c16] at H
          have c16b0 : ((rd t296 0) == 1) = true := beq_iff_eq.mpr c16
          have c16b1 : ((rd t296 0) != 1) = false := bne_eq_false_iff_eq.mpr c16
          clear c16
          by_cases c17 : t314 = 0
          ·rw [if_pos c17] at H
           have c17b0 : (t314 == 0) = true := beq_iff_eq.mpr c17
           have c17b1 : (t314 != 0) = false := bne_eq_false_iff_eq.mpr c17
           clear c17
           by_cases c18 : (t311.length : Int) = 2
           ·rw [if_pos c18] at H
            have c18b0 : ((t311.length : Int) == 2) = true := beq_iff_eq.mpr c18
            have c18b1 : ((t311.length : Int) != 2) = false := bne_eq_false_iff_eq.mpr c18
            clear c18
            by_cases c19 : t329 = 8
            ·rw [if_pos c19] at H
             have c19b0 : (t329 == 8) = true := beq_iff_eq.mpr c19
             have c19b1 : (t329 != 8) = false := bne_eq_false_iff_eq.mpr c19
             clear c19
             replace H := Option.bind_eq_some_iff.mp H
             obtain ⟨t335, A200, H⟩ := H
             replace H : (if t335 = 1 then ((node_Kid.f k false ([] : List (S62)) y289 y292 (⟨#[106]⟩ : ByteArray)).bind fun t336 => (if t336 = 0 then ((node_Kid.f k true y285 ([] : List ByteArray) ([] : List Int) (⟨#[106]⟩ : ByteArray)).bind fun t337 => (if t337 = (-1) then ((node_Size.f k true y285 ([] : List ByteArray) ([] : List Int)).bind fun t338 => (some (decide (t338 > 10)))) else (none))) else (none))) else (none)) = some r := H
             have A20 := Aside0.mk A200
             clear A200
             by_cases c21 : t335 = 1
             ·rw [if_pos c21] at H
              have c21b0 : (t335 == 1) = true := beq_iff_eq.mpr c21
              have c21b1 : (t335 != 1) = false := bne_eq_false_iff_eq.mpr c21
              clear c21
              replace H := Option.bind_eq_some_iff.mp H
              obtain ⟨t336, A220, H⟩ := H
              replace H : (if t336 = 0 then ((node_Kid.f k true y285 ([] : List ByteArray) ([] : List Int) (⟨#[106]⟩ : ByteArray)).bind fun t337 => (if t337 = (-1) then ((node_Size.f k true y285 ([] : List ByteArray) ([] : List Int)).bind fun t338 => (some (decide (t338 > 10)))) else (none))) else (none)) = some r := H
              have A22 := Aside0.mk A220
              clear A220
              by_cases c23 : t336 = 0
              ·rw [if_pos c23] at H
               have c23b0 : (t336 == 0) = true := beq_iff_eq.mpr c23
               have c23b1 : (t336 != 0) = false := bne_eq_false_iff_eq.mpr c23
               clear c23
               replace H := Option.bind_eq_some_iff.mp H
               obtain ⟨t337, A240, H⟩ := H
               replace H : (if t337 = (-1) then ((node_Size.f k true y285 ([] : List ByteArray) ([] : List Int)).bind fun t338 => (some (decide (t338 > 10)))) else (none)) = some r := H
               have A24 := Aside0.mk A240
               clear A240
               by_cases c25 : t337 = (-1)
               ·rw [if_pos c25] at H
                have c25b0 : (t337 == (-1)) = true := beq_iff_eq.mpr c25
                have c25b1 : (t337 != (-1)) = false := bne_eq_false_iff_eq.mpr c25
                clear c25
                replace H := Option.bind_eq_some_iff.mp H
                obtain ⟨t338, A260, H⟩ := H
                replace H : (some (decide (t338 > 10))) = some r := H
                have A26 := Aside0.mk A260
                clear A260
                obtain rfl := Option.some.inj H
                go_enter Try.func11, Try.ntmps11
                go_wp2_with (first | ((with_reducible refine gate_dst (N := 13) rfl ?_); (try (refine gate_guard (by rfl) ?_; dsimp only)); refine Kd.R_lit k62 _ 62 ?hg (N := 13) ?hd (xs := ([(⟨(⟨#[97]⟩ : ByteArray), (⟨1, 4607182418800017408, (⟨#[]⟩ : ByteArray)⟩ : S54), 0, (⟨0, 0, (⟨#[]⟩ : ByteArray)⟩ : S54)⟩ : S62)] : List (S62))) (inner := [.string (⟨#[97]⟩ : ByteArray), .int .i64 1, .float .f64 4607182418800017408, .string (⟨#[]⟩ : ByteArray), .int .i64 0, .int .i64 0, .float .f64 0, .string (⟨#[]⟩ : ByteArray)]) (ok := fun _ => True) (okp := fun _ => True) ?hr ?hp (fun _ hk => hk) trivial (Below.refl _ _) (Nat.le_refl _) (by simp) ?_; (case hd => rfl); (case hg => rfl); (case hr => first | (go_simp; done) | (go_simp; rfl)); (case hp => exact (Reps.c8 (show Kd.M k62 _ _ _ (⟨(⟨#[97]⟩ : ByteArray), (⟨1, 4607182418800017408, (⟨#[]⟩ : ByteArray)⟩ : S54), 0, (⟨0, 0, (⟨#[]⟩ : ByteArray)⟩ : S54)⟩ : S62) [.string (⟨#[97]⟩ : ByteArray), .int .i64 1, .float .f64 4607182418800017408, .string (⟨#[]⟩ : ByteArray), .int .i64 0, .int .i64 0, .float .f64 0, .string (⟨#[]⟩ : ByteArray)] from (k62_mkM _ _ _ (⟨(⟨#[97]⟩ : ByteArray), (⟨1, 4607182418800017408, (⟨#[]⟩ : ByteArray)⟩ : S54), 0, (⟨0, 0, (⟨#[]⟩ : ByteArray)⟩ : S54)⟩ : S62) )) (Reps.none _ _))); intro v286 w27 ho28 hb hg_ hnew_; clear hg_ hnew_; (first | rw [← Ny285.out] at ho28 | (simp only [Int.reduceToNat] at ho28; rw [← Ny285.out] at ho28)); have HO287 := Aside0.mk (Kd.R_lower ho28 (below_size (bC HB))); replace HB := bW HB hb; clear hb ho28; obtain ⟨Ao29, co29, eo29⟩ := Kd.R_slice HO287.out; subst eo29) | ((with_reducible refine gate_dst (N := 1) rfl ?_); (try (refine gate_guard (by rfl) ?_; dsimp only)); refine box_event ?hg (N := 1) ?hd (cs := #[.bool false, .slice none 0 0, .slice none 0 0, .slice none 0 0]) (t := 36) ?hr ?_; (case hd => rfl); (case hg => rfl); (case hr => first | (go_simp; done) | (go_simp; rfl)); intro gb288 hg w30 hbox hb; have BK288 := Aside0.mk (hbox); have GW288 := bZ HB hg; have GE288 := bZ HB hg; replace HO287 := Aside0.mk (Kd.R_below (by (with_reducible repeat (first | apply Kd.R_alloc | apply Kd.R_drewN | apply Kd.R_drew)); exact HO287.out) hb); replace HB := bW HB hb; clear hb hbox hg; obtain ⟨hcz31_0, hcz31_1, hcz31_2, hcz31_3, hfz31_0, hfz31_1, hfz31_2, hfz31_3⟩ := bf4 (w := w30) BK288) | ((with_reducible refine gate_dst (N := 15) rfl ?_); (try (refine gate_guard (by rfl) ?_; dsimp only)); refine Kd.R_lit Kd.string _ 9 ?hg (N := 15) ?hd (xs := ([(⟨#[107]⟩ : ByteArray)] : List ByteArray)) (inner := [.string (⟨#[107]⟩ : ByteArray)]) (ok := fun _ => True) (okp := fun _ => True) ?hr ?hp (fun _ hk => hk) trivial (Below.refl _ _) (Nat.le_refl _) (by simp) ?_; (case hd => rfl); (case hg => rfl); (case hr => first | (go_simp; done) | (go_simp; rfl)); (case hp => exact (Reps.one (show Kd.M Kd.string _ _ _ (⟨#[107]⟩ : ByteArray) [.string (⟨#[107]⟩ : ByteArray)] from rfl) (Reps.none _ _))); intro v290 w32 ho33 hb hg_ hnew_; clear hg_ hnew_; (first | rw [← Ny289.out] at ho33 | (simp only [Int.reduceToNat] at ho33; rw [← Ny289.out] at ho33)); have HO291 := Aside0.mk (Kd.R_lower ho33 (below_size (bC HB))); replace HO287 := Aside0.mk (Kd.R_below (by (with_reducible repeat (first | apply Kd.R_alloc | apply Kd.R_drewN | apply Kd.R_drew)); exact (Kd.R_mono (Kd.R_far (p := ⟨gb288, 3, none⟩) (Kd.R_far (p := ⟨gb288, 2, none⟩) (Kd.R_far (p := ⟨gb288, 1, none⟩) (Kd.R_far (p := ⟨gb288, 0, none⟩) (Kd.R_types HO287.out BK288.out (by decide)) (fun _ hk => hk.2) (.bool true)) (fun _ hk => hk.2) (.slice Ao29 y285.length co29)) (fun _ hk => hk.2) (.slice none 0 0)) (fun _ hk => hk.2) (.slice none 0 0)) (fun _ h_ => h_.1))) hb); replace BK288 := Aside0.mk (blk_below (g := gb288) (o := .cells #[.bool true, .slice Ao29 y285.length co29, .slice none 0 0, .slice none 0 0] 36 (0, 0)) (bR BK288) hb); replace HB := bW HB hb; clear hb ho33) | ((with_reducible refine gate_dst (N := 16) rfl ?_); (try (refine gate_guard (by rfl) ?_; dsimp only)); refine Kd.R_lit (Kd.int .i64) _ 3 ?hg (N := 16) ?hd (xs := ([2, 3] : List Int)) (inner := [.int .i64 2, .int .i64 3]) (ok := fun _ => True) (okp := fun _ => True) ?hr ?hp (fun _ hk => hk) trivial (Below.refl _ _) (Nat.le_refl _) (by simp) ?_; (case hd => rfl); (case hg => rfl); (case hr => first | (go_simp; done) | (go_simp; rfl)); (case hp => exact (Reps.one (show Kd.M (Kd.int .i64) _ _ _ 2 [.int .i64 2] from rfl) (Reps.one (show Kd.M (Kd.int .i64) _ _ _ 3 [.int .i64 3] from rfl) (Reps.none _ _)))); intro v293 w34 ho35 hb hg_ hnew_; clear hg_ hnew_; (first | rw [← Ny292.out] at ho35 | (simp only [Int.reduceToNat] at ho35; rw [← Ny292.out] at ho35)); have HO294 := Aside0.mk (Kd.R_lower ho35 (below_size (bC HB))); replace HO287 := Aside0.mk (Kd.R_below (by (with_reducible repeat (first | apply Kd.R_alloc | apply Kd.R_drewN | apply Kd.R_drew)); exact HO287.out) hb); replace HO291 := Aside0.mk (Kd.R_below (by (with_reducible repeat (first | apply Kd.R_alloc | apply Kd.R_drewN | apply Kd.R_drew)); exact HO291.out) hb); replace BK288 := bB BK288 hb; replace HB := bW HB hb; clear hb ho35; obtain ⟨Ao36, co36, eo36⟩ := Kd.R_slice HO294.out; subst eo36; obtain ⟨Ao37, co37, eo37⟩ := Kd.R_slice HO291.out; subst eo37) | ((with_reducible refine gate_dst (N := 2) rfl ?_); (try (refine gate_guard (by rfl) ?_; dsimp only)); refine box_event ?hg (N := 2) ?hd (cs := #[.bool false, .slice none 0 0, .slice none 0 0, .slice none 0 0]) (t := 36) ?hr ?_; (case hd => rfl); (case hg => rfl); (case hr => first | (go_simp; done) | (go_simp; rfl)); intro gb295 hg w38 hbox hb; have BK295 := Aside0.mk (hbox); have GW295 := bZ HB hg; have GE295 := bZ HB hg; have NB288_295 := bL BK288 hg; have NB295_288 := bG BK288 hg; replace HO287 := Aside0.mk (Kd.R_below (by (with_reducible repeat (first | apply Kd.R_alloc | apply Kd.R_drewN | apply Kd.R_drew)); exact HO287.out) hb); replace HO291 := Aside0.mk (Kd.R_below (by (with_reducible repeat (first | apply Kd.R_alloc | apply Kd.R_drewN | apply Kd.R_drew)); exact HO291.out) hb); replace HO294 := Aside0.mk (Kd.R_below (by (with_reducible repeat (first | apply Kd.R_alloc | apply Kd.R_drewN | apply Kd.R_drew)); exact HO294.out) hb); replace BK288 := bB BK288 hb; replace HB := bW HB hb; clear hb hbox hg; have hnb39 := NB295_288.out; have hnc39 := NB288_295.out; obtain ⟨hcz40_0, hcz40_1, hcz40_2, hcz40_3, hfz40_0, hfz40_1, hfz40_2, hfz40_3⟩ := bf4 (w := w38) BK295; obtain ⟨hcz41_0, hcz41_1, hcz41_2, hcz41_3, hfz41_0, hfz41_1, hfz41_2, hfz41_3⟩ := bf4 (w := w38) BK288) | (go_at_call 19; refine calls_of_args (args' := #[.agg #[.bool true, .slice Ao29 y285.length co29, .slice none ([] : List ByteArray).length 0, .slice none ([] : List Int).length 0]]) (by first | rfl | ((try simp only [List.map_toArray, List.map_cons, List.map_nil]); rfl)) ?_; (with_reducible refine (node_Encode.calls k true _ _ y285 _ _ ([] : List ByteArray) _ _ ([] : List Int) t296 t299 _ ?side1 ?side2 ?side3 ?side4 ?side5 ?side6 A1.out).mono ?_); (case side1 => refine (Kd.R_reads' (e := 62) (base := w.heap.size) (ok := fun k_ => True) (n := y285.length) (c := co29) ?_).2.2; exact (by (with_reducible repeat (first | apply Kd.R_alloc | apply Kd.R_drewN | apply Kd.R_drew)); exact (Kd.R_mono (Kd.R_far (p := ⟨gb295, 3, none⟩) (Kd.R_far (p := ⟨gb295, 2, none⟩) (Kd.R_far (p := ⟨gb295, 1, none⟩) (Kd.R_far (p := ⟨gb295, 0, none⟩) (Kd.R_types HO287.out BK295.out (by decide)) (fun _ hk => hk.2) (.bool false)) (fun _ hk => hk.2) (.slice none 0 0)) (fun _ hk => hk.2) (.slice Ao37 y289.length co37)) (fun _ hk => hk.2) (.slice Ao36 y292.length co36)) (fun _ h_ => h_.1)))); (case side2 => exact (Kd.R_reads' HO287.out).2.1); (case side3 => exact Kd.C_nil _ _); (case side4 => exact Nat.le_refl _); (case side5 => exact Kd.C_nil _ _); (case side6 => exact Nat.le_refl _); rintro e w42 ⟨v297, rfl, ho0, hb⟩; have HO298 := Aside0.mk (Kd.R_lower ho0 (below_size (bC HB))); replace HO287 := Aside0.mk (Kd.R_below (by (with_reducible repeat (first | apply Kd.R_alloc | apply Kd.R_drewN | apply Kd.R_drew)); exact (Kd.R_mono (Kd.R_far (p := ⟨gb295, 3, none⟩) (Kd.R_far (p := ⟨gb295, 2, none⟩) (Kd.R_far (p := ⟨gb295, 1, none⟩) (Kd.R_far (p := ⟨gb295, 0, none⟩) (Kd.R_types HO287.out BK295.out (by decide)) (fun _ hk => hk.2) (.bool false)) (fun _ hk => hk.2) (.slice none 0 0)) (fun _ hk => hk.2) (.slice Ao37 y289.length co37)) (fun _ hk => hk.2) (.slice Ao36 y292.length co36)) (fun _ h_ => h_.1))) hb); replace HO291 := Aside0.mk (Kd.R_below (by (with_reducible repeat (first | apply Kd.R_alloc | apply Kd.R_drewN | apply Kd.R_drew)); exact (Kd.R_mono (Kd.R_far (p := ⟨gb295, 3, none⟩) (Kd.R_far (p := ⟨gb295, 2, none⟩) (Kd.R_far (p := ⟨gb295, 1, none⟩) (Kd.R_far (p := ⟨gb295, 0, none⟩) (Kd.R_types HO291.out BK295.out (by decide)) (fun _ hk => hk.2) (.bool false)) (fun _ hk => hk.2) (.slice none 0 0)) (fun _ hk => hk.2) (.slice Ao37 y289.length co37)) (fun _ hk => hk.2) (.slice Ao36 y292.length co36)) (fun _ h_ => h_.1))) hb); replace HO294 := Aside0.mk (Kd.R_below (by (with_reducible repeat (first | apply Kd.R_alloc | apply Kd.R_drewN | apply Kd.R_drew)); exact (Kd.R_mono (Kd.R_far (p := ⟨gb295, 3, none⟩) (Kd.R_far (p := ⟨gb295, 2, none⟩) (Kd.R_far (p := ⟨gb295, 1, none⟩) (Kd.R_far (p := ⟨gb295, 0, none⟩) (Kd.R_types HO294.out BK295.out (by decide)) (fun _ hk => hk.2) (.bool false)) (fun _ hk => hk.2) (.slice none 0 0)) (fun _ hk => hk.2) (.slice Ao37 y289.length co37)) (fun _ hk => hk.2) (.slice Ao36 y292.length co36)) (fun _ h_ => h_.1))) hb); replace BK288 := bB BK288 hb; replace BK295 := Aside0.mk (blk_below (g := gb295) (o := .cells #[.bool false, .slice none 0 0, .slice Ao37 y289.length co37, .slice Ao36 y292.length co36] 36 (0, 0)) (bR BK295) hb); replace HB := bW HB hb; (try clear hb); (try clear hb2); (try clear hk); (try clear hi); (try clear ho0); obtain ⟨hcz43_0, hcz43_1, hcz43_2, hcz43_3, hfz43_0, hfz43_1, hfz43_2, hfz43_3⟩ := bf4 (w := w42) BK295) | (go_at_call 19; refine calls_of_args (args' := #[.agg #[.bool false, .slice none ([] : List (S62)).length 0, .slice Ao37 y289.length co37, .slice Ao36 y292.length co36]]) (by first | rfl | ((try simp only [List.map_toArray, List.map_cons, List.map_nil]); rfl)) ?_; (with_reducible refine (node_Encode.calls k false _ _ ([] : List (S62)) _ _ y289 _ _ y292 t300 t303 _ ?side1 ?side2 ?side3 ?side4 ?side5 ?side6 A2.out).mono ?_); (case side1 => exact Kd.C_nil _ _); (case side2 => exact Nat.le_refl _); (case side3 => repeat (first | exact (Kd.R_reads' HO291.out).2.2 | (with_reducible refine Kd.C_alloc ?_ _) | (with_reducible refine Kd.C_drewN ?_ _) | (with_reducible refine Kd.C_drew ?_))); (case side4 => exact (Kd.R_reads' HO291.out).2.1); (case side5 => repeat (first | exact (Kd.R_reads' HO294.out).2.2 | (with_reducible refine Kd.C_alloc ?_ _) | (with_reducible refine Kd.C_drewN ?_ _) | (with_reducible refine Kd.C_drew ?_))); (case side6 => exact (Kd.R_reads' HO294.out).2.1); rintro e w44 ⟨v301, rfl, ho0, hb⟩; have HO302 := Aside0.mk (Kd.R_lower (Kd.R_new' ho0 (Kd.R_lt (by (with_reducible repeat (first | apply Kd.R_alloc | apply Kd.R_drewN | apply Kd.R_drew)); exact HO298.out))) (below_size (bC HB))); replace HO287 := Aside0.mk (Kd.R_below (by (with_reducible repeat (first | apply Kd.R_alloc | apply Kd.R_drewN | apply Kd.R_drew)); exact HO287.out) hb); replace HO291 := Aside0.mk (Kd.R_below (by (with_reducible repeat (first | apply Kd.R_alloc | apply Kd.R_drewN | apply Kd.R_drew)); exact HO291.out) hb); replace HO294 := Aside0.mk (Kd.R_below (by (with_reducible repeat (first | apply Kd.R_alloc | apply Kd.R_drewN | apply Kd.R_drew)); exact HO294.out) hb); replace HO298 := Aside0.mk (Kd.R_elder' (by (with_reducible repeat (first | apply Kd.R_alloc | apply Kd.R_drewN | apply Kd.R_drew)); exact HO298.out) (Kd.R_base ho0) hb); replace BK288 := bB BK288 hb; replace BK295 := bB BK295 hb; replace HB := bW HB hb; (try clear hb); (try clear hb2); (try clear hk); (try clear hi); (try clear ho0); obtain ⟨Ao45, co45, eo45⟩ := Kd.R_slice HO302.out; subst eo45) | ((with_reducible refine gate_callee (f := 21) rfl ?_); refine goesL_ (some 30) rfl rfl Try.func21 (by kernel_rfl) rfl #[.slice Ao45 t300.length co45] rfl (by (try simp only [List.map_toArray, List.map_cons, List.map_nil]); first | done | rfl | (simp only [List.length_drop, List.length_take]; rfl)) ?_; (with_reducible refine (node_Decode.calls k _ _ t300 t304 t305 t308 t311 t314 _ ?side1 ?side2 A3.out).mono ?_); (case side1 => repeat (first | exact (Kd.R_reads' HO302.out).2.2 | (with_reducible refine Kd.C_alloc ?_ _) | (with_reducible refine Kd.C_drewN ?_ _) | (with_reducible refine Kd.C_drew ?_))); (case side2 => exact (Kd.R_reads' HO302.out).2.1); rintro e w46 ⟨v306, v309, v312, rfl, ho0, ho1, ho2, hb⟩; refine ⟨_, rfl, ?_⟩; have HO307 := Aside0.mk (Kd.R_lower (Kd.R_new' ho0 (Kd.R_lt (by (with_reducible repeat (first | apply Kd.R_alloc | apply Kd.R_drewN | apply Kd.R_drew)); exact HO287.out))) (below_size (bC HB))); have HO310 := Aside0.mk (Kd.R_lower (Kd.R_new' ho1 (Kd.R_lt (by (with_reducible repeat (first | apply Kd.R_alloc | apply Kd.R_drewN | apply Kd.R_drew)); exact HO291.out))) (below_size (bC HB))); have HO313 := Aside0.mk (Kd.R_lower (Kd.R_new' ho2 (Kd.R_lt (by (with_reducible repeat (first | apply Kd.R_alloc | apply Kd.R_drewN | apply Kd.R_drew)); exact HO294.out))) (below_size (bC HB))); replace HO287 := Aside0.mk (Kd.R_elder' (by (with_reducible repeat (first | apply Kd.R_alloc | apply Kd.R_drewN | apply Kd.R_drew)); exact HO287.out) (Kd.R_base ho0) hb); replace HO291 := Aside0.mk (Kd.R_elder' (by (with_reducible repeat (first | apply Kd.R_alloc | apply Kd.R_drewN | apply Kd.R_drew)); exact HO291.out) (Kd.R_base ho1) hb); replace HO294 := Aside0.mk (Kd.R_elder' (by (with_reducible repeat (first | apply Kd.R_alloc | apply Kd.R_drewN | apply Kd.R_drew)); exact HO294.out) (Kd.R_base ho2) hb); replace HO298 := Aside0.mk (Kd.R_below (by (with_reducible repeat (first | apply Kd.R_alloc | apply Kd.R_drewN | apply Kd.R_drew)); exact HO298.out) hb); replace HO302 := Aside0.mk (Kd.R_below (by (with_reducible repeat (first | apply Kd.R_alloc | apply Kd.R_drewN | apply Kd.R_drew)); exact HO302.out) hb); replace BK288 := bB BK288 hb; replace BK295 := bB BK295 hb; replace HB := bW HB hb; (try clear hb); (try clear hb2); (try clear hk); (try clear hi); (try clear ho0); (try clear ho1); (try clear ho2)) | ((with_reducible refine gate_dst (N := 7) rfl ?_); (try (refine gate_guard (by rfl) ?_; dsimp only)); refine box_event ?hg (N := 7) ?hd (cs := #[.bool false, .slice none 0 0, .slice none 0 0, .slice none 0 0]) (t := 36) ?hr ?_; (case hd => rfl); (case hg => rfl); (case hr => first | (go_simp; done) | (go_simp; rfl)); intro gb315 hg w47 hbox hb; have BK315 := Aside0.mk (hbox); have GW315 := bZ HB hg; have GE315 := bZ HB hg; have NB288_315 := bL BK288 hg; have NB315_288 := bG BK288 hg; have NB295_315 := bL BK295 hg; have NB315_295 := bG BK295 hg; replace HO287 := Aside0.mk (Kd.R_below (by (with_reducible repeat (first | apply Kd.R_alloc | apply Kd.R_drewN | apply Kd.R_drew)); exact HO287.out) hb); replace HO291 := Aside0.mk (Kd.R_below (by (with_reducible repeat (first | apply Kd.R_alloc | apply Kd.R_drewN | apply Kd.R_drew)); exact HO291.out) hb); replace HO294 := Aside0.mk (Kd.R_below (by (with_reducible repeat (first | apply Kd.R_alloc | apply Kd.R_drewN | apply Kd.R_drew)); exact HO294.out) hb); replace HO298 := Aside0.mk (Kd.R_below (by (with_reducible repeat (first | apply Kd.R_alloc | apply Kd.R_drewN | apply Kd.R_drew)); exact HO298.out) hb); replace HO302 := Aside0.mk (Kd.R_below (by (with_reducible repeat (first | apply Kd.R_alloc | apply Kd.R_drewN | apply Kd.R_drew)); exact HO302.out) hb); replace HO307 := Aside0.mk (Kd.R_below (by (with_reducible repeat (first | apply Kd.R_alloc | apply Kd.R_drewN | apply Kd.R_drew)); exact HO307.out) hb); replace HO310 := Aside0.mk (Kd.R_below (by (with_reducible repeat (first | apply Kd.R_alloc | apply Kd.R_drewN | apply Kd.R_drew)); exact HO310.out) hb); replace HO313 := Aside0.mk (Kd.R_below (by (with_reducible repeat (first | apply Kd.R_alloc | apply Kd.R_drewN | apply Kd.R_drew)); exact HO313.out) hb); replace BK288 := bB BK288 hb; replace BK295 := bB BK295 hb; replace HB := bW HB hb; clear hb hbox hg; have hnb48 := NB315_288.out; have hnc48 := NB288_315.out; have hnb49 := NB315_295.out; have hnc49 := NB295_315.out; obtain ⟨hcz50_0, hcz50_1, hcz50_2, hcz50_3, hfz50_0, hfz50_1, hfz50_2, hfz50_3⟩ := bf4 (w := w47) BK315; obtain ⟨Ao51, co51, eo51⟩ := Kd.R_slice HO307.out; subst eo51; obtain ⟨Ao52, co52, eo52⟩ := Kd.R_slice HO310.out; subst eo52; obtain ⟨Ao53, co53, eo53⟩ := Kd.R_slice HO313.out; subst eo53) | ((with_reducible refine gate_dst (N := 34) rfl ?_); (try (refine gate_guard (by rfl) ?_; dsimp only)); refine Kd.R_make (Kd.int .u8) _ 5 rfl (N := 34) rfl 30 _ _ rfl 256 rfl rfl Try.underlying30 (.int .u8 0) 1 info5 rfl (by decide) (by omega) 0 (ok := fun _ => True) (okp := fun _ => True) rfl (fun _ hk => hk) trivial (by omega) (by omega) (Below.refl _ _) (Nat.le_refl _) ?_; intro v317 w54 ho55 hb hg_ hnew_; clear hg_ hnew_; (first | rw [← Ny316.out] at ho55 | (simp only [Int.reduceToNat] at ho55; rw [← Ny316.out] at ho55)); have HO318 := Aside0.mk (Kd.R_lower (Kd.R_new' (Kd.R_new' ho55 (Kd.R_lt (by (with_reducible repeat (first | apply Kd.R_alloc | apply Kd.R_drewN | apply Kd.R_drew)); exact (Kd.R_mono (Kd.R_far (p := ⟨gb315, 3, none⟩) (Kd.R_far (p := ⟨gb315, 2, none⟩) (Kd.R_far (p := ⟨gb315, 1, none⟩) (Kd.R_far (p := ⟨gb315, 0, none⟩) (Kd.R_types HO298.out BK315.out (by decide)) (fun _ hk => hk.2) (.bool t304)) (fun _ hk => hk.2) (.slice Ao51 t305.length co51)) (fun _ hk => hk.2) (.slice Ao52 t308.length co52)) (fun _ hk => hk.2) (.slice Ao53 t311.length co53)) (fun _ h_ => h_.1))))) (Kd.R_lt (by (with_reducible repeat (first | apply Kd.R_alloc | apply Kd.R_drewN | apply Kd.R_drew)); exact (Kd.R_mono (Kd.R_far (p := ⟨gb315, 3, none⟩) (Kd.R_far (p := ⟨gb315, 2, none⟩) (Kd.R_far (p := ⟨gb315, 1, none⟩) (Kd.R_far (p := ⟨gb315, 0, none⟩) (Kd.R_types HO302.out BK315.out (by decide)) (fun _ hk => hk.2) (.bool t304)) (fun _ hk => hk.2) (.slice Ao51 t305.length co51)) (fun _ hk => hk.2) (.slice Ao52 t308.length co52)) (fun _ hk => hk.2) (.slice Ao53 t311.length co53)) (fun _ h_ => h_.1))))) (below_size (bC HB))); replace HO287 := Aside0.mk (Kd.R_below (by (with_reducible repeat (first | apply Kd.R_alloc | apply Kd.R_drewN | apply Kd.R_drew)); exact (Kd.R_mono (Kd.R_far (p := ⟨gb315, 3, none⟩) (Kd.R_far (p := ⟨gb315, 2, none⟩) (Kd.R_far (p := ⟨gb315, 1, none⟩) (Kd.R_far (p := ⟨gb315, 0, none⟩) (Kd.R_types HO287.out BK315.out (by decide)) (fun _ hk => hk.2) (.bool t304)) (fun _ hk => hk.2) (.slice Ao51 t305.length co51)) (fun _ hk => hk.2) (.slice Ao52 t308.length co52)) (fun _ hk => hk.2) (.slice Ao53 t311.length co53)) (fun _ h_ => h_.1))) hb); replace HO291 := Aside0.mk (Kd.R_below (by (with_reducible repeat (first | apply Kd.R_alloc | apply Kd.R_drewN | apply Kd.R_drew)); exact (Kd.R_mono (Kd.R_far (p := ⟨gb315, 3, none⟩) (Kd.R_far (p := ⟨gb315, 2, none⟩) (Kd.R_far (p := ⟨gb315, 1, none⟩) (Kd.R_far (p := ⟨gb315, 0, none⟩) (Kd.R_types HO291.out BK315.out (by decide)) (fun _ hk => hk.2) (.bool t304)) (fun _ hk => hk.2) (.slice Ao51 t305.length co51)) (fun _ hk => hk.2) (.slice Ao52 t308.length co52)) (fun _ hk => hk.2) (.slice Ao53 t311.length co53)) (fun _ h_ => h_.1))) hb); replace HO294 := Aside0.mk (Kd.R_below (by (with_reducible repeat (first | apply Kd.R_alloc | apply Kd.R_drewN | apply Kd.R_drew)); exact (Kd.R_mono (Kd.R_far (p := ⟨gb315, 3, none⟩) (Kd.R_far (p := ⟨gb315, 2, none⟩) (Kd.R_far (p := ⟨gb315, 1, none⟩) (Kd.R_far (p := ⟨gb315, 0, none⟩) (Kd.R_types HO294.out BK315.out (by decide)) (fun _ hk => hk.2) (.bool t304)) (fun _ hk => hk.2) (.slice Ao51 t305.length co51)) (fun _ hk => hk.2) (.slice Ao52 t308.length co52)) (fun _ hk => hk.2) (.slice Ao53 t311.length co53)) (fun _ h_ => h_.1))) hb); replace HO298 := Aside0.mk (Kd.R_elder' (by (with_reducible repeat (first | apply Kd.R_alloc | apply Kd.R_drewN | apply Kd.R_drew)); exact (Kd.R_mono (Kd.R_far (p := ⟨gb315, 3, none⟩) (Kd.R_far (p := ⟨gb315, 2, none⟩) (Kd.R_far (p := ⟨gb315, 1, none⟩) (Kd.R_far (p := ⟨gb315, 0, none⟩) (Kd.R_types HO298.out BK315.out (by decide)) (fun _ hk => hk.2) (.bool t304)) (fun _ hk => hk.2) (.slice Ao51 t305.length co51)) (fun _ hk => hk.2) (.slice Ao52 t308.length co52)) (fun _ hk => hk.2) (.slice Ao53 t311.length co53)) (fun _ h_ => h_.1))) (Kd.R_base ho55) hb); replace HO302 := Aside0.mk (Kd.R_elder' (by (with_reducible repeat (first | apply Kd.R_alloc | apply Kd.R_drewN | apply Kd.R_drew)); exact (Kd.R_mono (Kd.R_far (p := ⟨gb315, 3, none⟩) (Kd.R_far (p := ⟨gb315, 2, none⟩) (Kd.R_far (p := ⟨gb315, 1, none⟩) (Kd.R_far (p := ⟨gb315, 0, none⟩) (Kd.R_types HO302.out BK315.out (by decide)) (fun _ hk => hk.2) (.bool t304)) (fun _ hk => hk.2) (.slice Ao51 t305.length co51)) (fun _ hk => hk.2) (.slice Ao52 t308.length co52)) (fun _ hk => hk.2) (.slice Ao53 t311.length co53)) (fun _ h_ => h_.1))) (Kd.R_base ho55) hb); replace HO307 := Aside0.mk (Kd.R_below (by (with_reducible repeat (first | apply Kd.R_alloc | apply Kd.R_drewN | apply Kd.R_drew)); exact (Kd.R_mono (Kd.R_far (p := ⟨gb315, 3, none⟩) (Kd.R_far (p := ⟨gb315, 2, none⟩) (Kd.R_far (p := ⟨gb315, 1, none⟩) (Kd.R_far (p := ⟨gb315, 0, none⟩) (Kd.R_types HO307.out BK315.out (by decide)) (fun _ hk => hk.2) (.bool t304)) (fun _ hk => hk.2) (.slice Ao51 t305.length co51)) (fun _ hk => hk.2) (.slice Ao52 t308.length co52)) (fun _ hk => hk.2) (.slice Ao53 t311.length co53)) (fun _ h_ => h_.1))) hb); replace HO310 := Aside0.mk (Kd.R_below (by (with_reducible repeat (first | apply Kd.R_alloc | apply Kd.R_drewN | apply Kd.R_drew)); exact (Kd.R_mono (Kd.R_far (p := ⟨gb315, 3, none⟩) (Kd.R_far (p := ⟨gb315, 2, none⟩) (Kd.R_far (p := ⟨gb315, 1, none⟩) (Kd.R_far (p := ⟨gb315, 0, none⟩) (Kd.R_types HO310.out BK315.out (by decide)) (fun _ hk => hk.2) (.bool t304)) (fun _ hk => hk.2) (.slice Ao51 t305.length co51)) (fun _ hk => hk.2) (.slice Ao52 t308.length co52)) (fun _ hk => hk.2) (.slice Ao53 t311.length co53)) (fun _ h_ => h_.1))) hb); replace HO313 := Aside0.mk (Kd.R_below (by (with_reducible repeat (first | apply Kd.R_alloc | apply Kd.R_drewN | apply Kd.R_drew)); exact (Kd.R_mono (Kd.R_far (p := ⟨gb315, 3, none⟩) (Kd.R_far (p := ⟨gb315, 2, none⟩) (Kd.R_far (p := ⟨gb315, 1, none⟩) (Kd.R_far (p := ⟨gb315, 0, none⟩) (Kd.R_types HO313.out BK315.out (by decide)) (fun _ hk => hk.2) (.bool t304)) (fun _ hk => hk.2) (.slice Ao51 t305.length co51)) (fun _ hk => hk.2) (.slice Ao52 t308.length co52)) (fun _ hk => hk.2) (.slice Ao53 t311.length co53)) (fun _ h_ => h_.1))) hb); replace BK288 := bB BK288 hb; replace BK295 := bB BK295 hb; replace BK315 := Aside0.mk (blk_below (g := gb315) (o := .cells #[.bool t304, .slice Ao51 t305.length co51, .slice Ao52 t308.length co52, .slice Ao53 t311.length co53] 36 (0, 0)) (bR BK315) hb); replace HB := bW HB hb; clear hb ho55; obtain ⟨Ao56, co56, eo56⟩ := Kd.R_slice HO318.out; subst eo56) | ((with_reducible refine gate_callee (f := 21) rfl ?_); refine goesL_ (some 35) rfl rfl Try.func21 (by kernel_rfl) rfl #[.slice Ao56 y316.length co56] rfl (by (try simp only [List.map_toArray, List.map_cons, List.map_nil]); first | done | rfl | (simp only [List.length_drop, List.length_take]; rfl)) ?_; (with_reducible refine (node_Decode.calls k _ _ y316 t319 t320 t323 t326 t329 _ ?side1 ?side2 A5.out).mono ?_); (case side1 => repeat (first | exact (Kd.R_reads' HO318.out).2.2 | (with_reducible refine Kd.C_alloc ?_ _) | (with_reducible refine Kd.C_drewN ?_ _) | (with_reducible refine Kd.C_drew ?_))); (case side2 => exact (Kd.R_reads' HO318.out).2.1); rintro e w57 ⟨v321, v324, v327, rfl, ho0, ho1, ho2, hb⟩; refine ⟨_, rfl, ?_⟩; have HO322 := Aside0.mk (Kd.R_lower (Kd.R_new' (Kd.R_new' ho0 (Kd.R_lt (by (with_reducible repeat (first | apply Kd.R_alloc | apply Kd.R_drewN | apply Kd.R_drew)); exact HO287.out))) (Kd.R_lt (by (with_reducible repeat (first | apply Kd.R_alloc | apply Kd.R_drewN | apply Kd.R_drew)); exact HO307.out))) (below_size (bC HB))); have HO325 := Aside0.mk (Kd.R_lower (Kd.R_new' (Kd.R_new' ho1 (Kd.R_lt (by (with_reducible repeat (first | apply Kd.R_alloc | apply Kd.R_drewN | apply Kd.R_drew)); exact HO291.out))) (Kd.R_lt (by (with_reducible repeat (first | apply Kd.R_alloc | apply Kd.R_drewN | apply Kd.R_drew)); exact HO310.out))) (below_size (bC HB))); have HO328 := Aside0.mk (Kd.R_lower (Kd.R_new' (Kd.R_new' ho2 (Kd.R_lt (by (with_reducible repeat (first | apply Kd.R_alloc | apply Kd.R_drewN | apply Kd.R_drew)); exact HO294.out))) (Kd.R_lt (by (with_reducible repeat (first | apply Kd.R_alloc | apply Kd.R_drewN | apply Kd.R_drew)); exact HO313.out))) (below_size (bC HB))); replace HO287 := Aside0.mk (Kd.R_elder' (by (with_reducible repeat (first | apply Kd.R_alloc | apply Kd.R_drewN | apply Kd.R_drew)); exact HO287.out) (Kd.R_base ho0) hb); replace HO291 := Aside0.mk (Kd.R_elder' (by (with_reducible repeat (first | apply Kd.R_alloc | apply Kd.R_drewN | apply Kd.R_drew)); exact HO291.out) (Kd.R_base ho1) hb); replace HO294 := Aside0.mk (Kd.R_elder' (by (with_reducible repeat (first | apply Kd.R_alloc | apply Kd.R_drewN | apply Kd.R_drew)); exact HO294.out) (Kd.R_base ho2) hb); replace HO298 := Aside0.mk (Kd.R_below (by (with_reducible repeat (first | apply Kd.R_alloc | apply Kd.R_drewN | apply Kd.R_drew)); exact HO298.out) hb); replace HO302 := Aside0.mk (Kd.R_below (by (with_reducible repeat (first | apply Kd.R_alloc | apply Kd.R_drewN | apply Kd.R_drew)); exact HO302.out) hb); replace HO307 := Aside0.mk (Kd.R_elder' (by (with_reducible repeat (first | apply Kd.R_alloc | apply Kd.R_drewN | apply Kd.R_drew)); exact HO307.out) (Kd.R_base ho0) hb); replace HO310 := Aside0.mk (Kd.R_elder' (by (with_reducible repeat (first | apply Kd.R_alloc | apply Kd.R_drewN | apply Kd.R_drew)); exact HO310.out) (Kd.R_base ho1) hb); replace HO313 := Aside0.mk (Kd.R_elder' (by (with_reducible repeat (first | apply Kd.R_alloc | apply Kd.R_drewN | apply Kd.R_drew)); exact HO313.out) (Kd.R_base ho2) hb); replace HO318 := Aside0.mk (Kd.R_below (by (with_reducible repeat (first | apply Kd.R_alloc | apply Kd.R_drewN | apply Kd.R_drew)); exact HO318.out) hb); replace BK288 := bB BK288 hb; replace BK295 := bB BK295 hb; replace BK315 := bB BK315 hb; replace HB := bW HB hb; (try clear hb); (try clear hb2); (try clear hk); (try clear hi); (try clear ho0); (try clear ho1); (try clear ho2)) | ((with_reducible refine gate_dst (N := 9) rfl ?_); (try (refine gate_guard (by rfl) ?_; dsimp only)); refine box_event ?hg (N := 9) ?hd (cs := #[.bool false, .slice none 0 0, .slice none 0 0, .slice none 0 0]) (t := 36) ?hr ?_; (case hd => rfl); (case hg => rfl); (case hr => first | (go_simp; done) | (go_simp; rfl)); intro gb330 hg w58 hbox hb; have BK330 := Aside0.mk (hbox); have GW330 := bZ HB hg; have GE330 := bZ HB hg; have NB288_330 := bL BK288 hg; have NB330_288 := bG BK288 hg; have NB295_330 := bL BK295 hg; have NB330_295 := bG BK295 hg; have NB315_330 := bL BK315 hg; have NB330_315 := bG BK315 hg; replace HO287 := Aside0.mk (Kd.R_below (by (with_reducible repeat (first | apply Kd.R_alloc | apply Kd.R_drewN | apply Kd.R_drew)); exact HO287.out) hb); replace HO291 := Aside0.mk (Kd.R_below (by (with_reducible repeat (first | apply Kd.R_alloc | apply Kd.R_drewN | apply Kd.R_drew)); exact HO291.out) hb); replace HO294 := Aside0.mk (Kd.R_below (by (with_reducible repeat (first | apply Kd.R_alloc | apply Kd.R_drewN | apply Kd.R_drew)); exact HO294.out) hb); replace HO298 := Aside0.mk (Kd.R_below (by (with_reducible repeat (first | apply Kd.R_alloc | apply Kd.R_drewN | apply Kd.R_drew)); exact HO298.out) hb); replace HO302 := Aside0.mk (Kd.R_below (by (with_reducible repeat (first | apply Kd.R_alloc | apply Kd.R_drewN | apply Kd.R_drew)); exact HO302.out) hb); replace HO307 := Aside0.mk (Kd.R_below (by (with_reducible repeat (first | apply Kd.R_alloc | apply Kd.R_drewN | apply Kd.R_drew)); exact HO307.out) hb); replace HO310 := Aside0.mk (Kd.R_below (by (with_reducible repeat (first | apply Kd.R_alloc | apply Kd.R_drewN | apply Kd.R_drew)); exact HO310.out) hb); replace HO313 := Aside0.mk (Kd.R_below (by (with_reducible repeat (first | apply Kd.R_alloc | apply Kd.R_drewN | apply Kd.R_drew)); exact HO313.out) hb); replace HO318 := Aside0.mk (Kd.R_below (by (with_reducible repeat (first | apply Kd.R_alloc | apply Kd.R_drewN | apply Kd.R_drew)); exact HO318.out) hb); replace HO322 := Aside0.mk (Kd.R_below (by (with_reducible repeat (first | apply Kd.R_alloc | apply Kd.R_drewN | apply Kd.R_drew)); exact HO322.out) hb); replace HO325 := Aside0.mk (Kd.R_below (by (with_reducible repeat (first | apply Kd.R_alloc | apply Kd.R_drewN | apply Kd.R_drew)); exact HO325.out) hb); replace HO328 := Aside0.mk (Kd.R_below (by (with_reducible repeat (first | apply Kd.R_alloc | apply Kd.R_drewN | apply Kd.R_drew)); exact HO328.out) hb); replace BK288 := bB BK288 hb; replace BK295 := bB BK295 hb; replace BK315 := bB BK315 hb; replace HB := bW HB hb; clear hb hbox hg; have hnb59 := NB330_288.out; have hnc59 := NB288_330.out; have hnb60 := NB330_295.out; have hnc60 := NB295_330.out; have hnb61 := NB330_315.out; have hnc61 := NB315_330.out; obtain ⟨hcz62_0, hcz62_1, hcz62_2, hcz62_3, hfz62_0, hfz62_1, hfz62_2, hfz62_3⟩ := bf4 (w := w58) BK330; obtain ⟨Ao63, co63, eo63⟩ := Kd.R_slice HO322.out; subst eo63; obtain ⟨Ao64, co64, eo64⟩ := Kd.R_slice HO325.out; subst eo64; obtain ⟨Ao65, co65, eo65⟩ := Kd.R_slice HO328.out; subst eo65; obtain ⟨hcz66_0, hcz66_1, hcz66_2, hcz66_3, hfz66_0, hfz66_1, hfz66_2, hfz66_3⟩ := bf4 (w := w58) BK288) | (go_at_call 16; refine calls_of_args (args' := #[.agg #[.bool true, .slice Ao29 y285.length co29, .slice none ([] : List ByteArray).length 0, .slice none ([] : List Int).length 0]]) (by first | rfl | ((try simp only [List.map_toArray, List.map_cons, List.map_nil]); rfl)) ?_; (with_reducible refine (node_May.calls k true _ _ y285 _ _ ([] : List ByteArray) _ _ ([] : List Int) true _ ?side1 ?side2 ?side3 ?side4 ?side5 ?side6 A6.out).mono ?_); (case side1 => refine (Kd.R_reads' (e := 62) (base := w.heap.size) (ok := fun k_ => ((True ∧ some k_ ≠ (.slice Ao51 t305.length co51 : Value).ownBlock) ∧ some k_ ≠ (.slice Ao63 t320.length co63 : Value).ownBlock)) (n := y285.length) (c := co29) ?_).2.2; exact (by (with_reducible repeat (first | apply Kd.R_alloc | apply Kd.R_drewN | apply Kd.R_drew)); exact (Kd.R_mono (Kd.R_far (p := ⟨gb330, 3, none⟩) (Kd.R_far (p := ⟨gb330, 2, none⟩) (Kd.R_far (p := ⟨gb330, 1, none⟩) (Kd.R_far (p := ⟨gb330, 0, none⟩) (Kd.R_types HO287.out BK330.out (by decide)) (fun _ hk => hk.2) (.bool t319)) (fun _ hk => hk.2) (.slice Ao63 t320.length co63)) (fun _ hk => hk.2) (.slice Ao64 t323.length co64)) (fun _ hk => hk.2) (.slice Ao65 t326.length co65)) (fun _ h_ => h_.1)))); (case side2 => exact (Kd.R_reads' HO287.out).2.1); (case side3 => exact Kd.C_nil _ _); (case side4 => exact Nat.le_refl _); (case side5 => exact Kd.C_nil _ _); (case side6 => exact Nat.le_refl _); rintro e w67 ⟨rfl, hb⟩; replace HO287 := Aside0.mk (Kd.R_below (by (with_reducible repeat (first | apply Kd.R_alloc | apply Kd.R_drewN | apply Kd.R_drew)); exact (Kd.R_mono (Kd.R_far (p := ⟨gb330, 3, none⟩) (Kd.R_far (p := ⟨gb330, 2, none⟩) (Kd.R_far (p := ⟨gb330, 1, none⟩) (Kd.R_far (p := ⟨gb330, 0, none⟩) (Kd.R_types HO287.out BK330.out (by decide)) (fun _ hk => hk.2) (.bool t319)) (fun _ hk => hk.2) (.slice Ao63 t320.length co63)) (fun _ hk => hk.2) (.slice Ao64 t323.length co64)) (fun _ hk => hk.2) (.slice Ao65 t326.length co65)) (fun _ h_ => h_.1))) hb); replace HO291 := Aside0.mk (Kd.R_below (by (with_reducible repeat (first | apply Kd.R_alloc | apply Kd.R_drewN | apply Kd.R_drew)); exact (Kd.R_mono (Kd.R_far (p := ⟨gb330, 3, none⟩) (Kd.R_far (p := ⟨gb330, 2, none⟩) (Kd.R_far (p := ⟨gb330, 1, none⟩) (Kd.R_far (p := ⟨gb330, 0, none⟩) (Kd.R_types HO291.out BK330.out (by decide)) (fun _ hk => hk.2) (.bool t319)) (fun _ hk => hk.2) (.slice Ao63 t320.length co63)) (fun _ hk => hk.2) (.slice Ao64 t323.length co64)) (fun _ hk => hk.2) (.slice Ao65 t326.length co65)) (fun _ h_ => h_.1))) hb); replace HO294 := Aside0.mk (Kd.R_below (by (with_reducible repeat (first | apply Kd.R_alloc | apply Kd.R_drewN | apply Kd.R_drew)); exact (Kd.R_mono (Kd.R_far (p := ⟨gb330, 3, none⟩) (Kd.R_far (p := ⟨gb330, 2, none⟩) (Kd.R_far (p := ⟨gb330, 1, none⟩) (Kd.R_far (p := ⟨gb330, 0, none⟩) (Kd.R_types HO294.out BK330.out (by decide)) (fun _ hk => hk.2) (.bool t319)) (fun _ hk => hk.2) (.slice Ao63 t320.length co63)) (fun _ hk => hk.2) (.slice Ao64 t323.length co64)) (fun _ hk => hk.2) (.slice Ao65 t326.length co65)) (fun _ h_ => h_.1))) hb); replace HO298 := Aside0.mk (Kd.R_below (by (with_reducible repeat (first | apply Kd.R_alloc | apply Kd.R_drewN | apply Kd.R_drew)); exact (Kd.R_mono (Kd.R_far (p := ⟨gb330, 3, none⟩) (Kd.R_far (p := ⟨gb330, 2, none⟩) (Kd.R_far (p := ⟨gb330, 1, none⟩) (Kd.R_far (p := ⟨gb330, 0, none⟩) (Kd.R_types HO298.out BK330.out (by decide)) (fun _ hk => hk.2) (.bool t319)) (fun _ hk => hk.2) (.slice Ao63 t320.length co63)) (fun _ hk => hk.2) (.slice Ao64 t323.length co64)) (fun _ hk => hk.2) (.slice Ao65 t326.length co65)) (fun _ h_ => h_.1))) hb); replace HO302 := Aside0.mk (Kd.R_below (by (with_reducible repeat (first | apply Kd.R_alloc | apply Kd.R_drewN | apply Kd.R_drew)); exact (Kd.R_mono (Kd.R_far (p := ⟨gb330, 3, none⟩) (Kd.R_far (p := ⟨gb330, 2, none⟩) (Kd.R_far (p := ⟨gb330, 1, none⟩) (Kd.R_far (p := ⟨gb330, 0, none⟩) (Kd.R_types HO302.out BK330.out (by decide)) (fun _ hk => hk.2) (.bool t319)) (fun _ hk => hk.2) (.slice Ao63 t320.length co63)) (fun _ hk => hk.2) (.slice Ao64 t323.length co64)) (fun _ hk => hk.2) (.slice Ao65 t326.length co65)) (fun _ h_ => h_.1))) hb); replace HO307 := Aside0.mk (Kd.R_below (by (with_reducible repeat (first | apply Kd.R_alloc | apply Kd.R_drewN | apply Kd.R_drew)); exact (Kd.R_mono (Kd.R_far (p := ⟨gb330, 3, none⟩) (Kd.R_far (p := ⟨gb330, 2, none⟩) (Kd.R_far (p := ⟨gb330, 1, none⟩) (Kd.R_far (p := ⟨gb330, 0, none⟩) (Kd.R_types HO307.out BK330.out (by decide)) (fun _ hk => hk.2) (.bool t319)) (fun _ hk => hk.2) (.slice Ao63 t320.length co63)) (fun _ hk => hk.2) (.slice Ao64 t323.length co64)) (fun _ hk => hk.2) (.slice Ao65 t326.length co65)) (fun _ h_ => h_.1))) hb); replace HO310 := Aside0.mk (Kd.R_below (by (with_reducible repeat (first | apply Kd.R_alloc | apply Kd.R_drewN | apply Kd.R_drew)); exact (Kd.R_mono (Kd.R_far (p := ⟨gb330, 3, none⟩) (Kd.R_far (p := ⟨gb330, 2, none⟩) (Kd.R_far (p := ⟨gb330, 1, none⟩) (Kd.R_far (p := ⟨gb330, 0, none⟩) (Kd.R_types HO310.out BK330.out (by decide)) (fun _ hk => hk.2) (.bool t319)) (fun _ hk => hk.2) (.slice Ao63 t320.length co63)) (fun _ hk => hk.2) (.slice Ao64 t323.length co64)) (fun _ hk => hk.2) (.slice Ao65 t326.length co65)) (fun _ h_ => h_.1))) hb); replace HO313 := Aside0.mk (Kd.R_below (by (with_reducible repeat (first | apply Kd.R_alloc | apply Kd.R_drewN | apply Kd.R_drew)); exact (Kd.R_mono (Kd.R_far (p := ⟨gb330, 3, none⟩) (Kd.R_far (p := ⟨gb330, 2, none⟩) (Kd.R_far (p := ⟨gb330, 1, none⟩) (Kd.R_far (p := ⟨gb330, 0, none⟩) (Kd.R_types HO313.out BK330.out (by decide)) (fun _ hk => hk.2) (.bool t319)) (fun _ hk => hk.2) (.slice Ao63 t320.length co63)) (fun _ hk => hk.2) (.slice Ao64 t323.length co64)) (fun _ hk => hk.2) (.slice Ao65 t326.length co65)) (fun _ h_ => h_.1))) hb); replace HO318 := Aside0.mk (Kd.R_below (by (with_reducible repeat (first | apply Kd.R_alloc | apply Kd.R_drewN | apply Kd.R_drew)); exact (Kd.R_mono (Kd.R_far (p := ⟨gb330, 3, none⟩) (Kd.R_far (p := ⟨gb330, 2, none⟩) (Kd.R_far (p := ⟨gb330, 1, none⟩) (Kd.R_far (p := ⟨gb330, 0, none⟩) (Kd.R_types HO318.out BK330.out (by decide)) (fun _ hk => hk.2) (.bool t319)) (fun _ hk => hk.2) (.slice Ao63 t320.length co63)) (fun _ hk => hk.2) (.slice Ao64 t323.length co64)) (fun _ hk => hk.2) (.slice Ao65 t326.length co65)) (fun _ h_ => h_.1))) hb); replace HO322 := Aside0.mk (Kd.R_below (by (with_reducible repeat (first | apply Kd.R_alloc | apply Kd.R_drewN | apply Kd.R_drew)); exact (Kd.R_mono (Kd.R_far (p := ⟨gb330, 3, none⟩) (Kd.R_far (p := ⟨gb330, 2, none⟩) (Kd.R_far (p := ⟨gb330, 1, none⟩) (Kd.R_far (p := ⟨gb330, 0, none⟩) (Kd.R_types HO322.out BK330.out (by decide)) (fun _ hk => hk.2) (.bool t319)) (fun _ hk => hk.2) (.slice Ao63 t320.length co63)) (fun _ hk => hk.2) (.slice Ao64 t323.length co64)) (fun _ hk => hk.2) (.slice Ao65 t326.length co65)) (fun _ h_ => h_.1))) hb); replace HO325 := Aside0.mk (Kd.R_below (by (with_reducible repeat (first | apply Kd.R_alloc | apply Kd.R_drewN | apply Kd.R_drew)); exact (Kd.R_mono (Kd.R_far (p := ⟨gb330, 3, none⟩) (Kd.R_far (p := ⟨gb330, 2, none⟩) (Kd.R_far (p := ⟨gb330, 1, none⟩) (Kd.R_far (p := ⟨gb330, 0, none⟩) (Kd.R_types HO325.out BK330.out (by decide)) (fun _ hk => hk.2) (.bool t319)) (fun _ hk => hk.2) (.slice Ao63 t320.length co63)) (fun _ hk => hk.2) (.slice Ao64 t323.length co64)) (fun _ hk => hk.2) (.slice Ao65 t326.length co65)) (fun _ h_ => h_.1))) hb); replace HO328 := Aside0.mk (Kd.R_below (by (with_reducible repeat (first | apply Kd.R_alloc | apply Kd.R_drewN | apply Kd.R_drew)); exact (Kd.R_mono (Kd.R_far (p := ⟨gb330, 3, none⟩) (Kd.R_far (p := ⟨gb330, 2, none⟩) (Kd.R_far (p := ⟨gb330, 1, none⟩) (Kd.R_far (p := ⟨gb330, 0, none⟩) (Kd.R_types HO328.out BK330.out (by decide)) (fun _ hk => hk.2) (.bool t319)) (fun _ hk => hk.2) (.slice Ao63 t320.length co63)) (fun _ hk => hk.2) (.slice Ao64 t323.length co64)) (fun _ hk => hk.2) (.slice Ao65 t326.length co65)) (fun _ h_ => h_.1))) hb); replace BK288 := bB BK288 hb; replace BK295 := bB BK295 hb; replace BK315 := bB BK315 hb; replace BK330 := Aside0.mk (blk_below (g := gb330) (o := .cells #[.bool t319, .slice Ao63 t320.length co63, .slice Ao64 t323.length co64, .slice Ao65 t326.length co65] 36 (0, 0)) (bR BK330) hb); replace HB := bW HB hb; (try clear hb); (try clear hb2); (try clear hk); (try clear hi); obtain ⟨hcz68_0, hcz68_1, hcz68_2, hcz68_3, hfz68_0, hfz68_1, hfz68_2, hfz68_3⟩ := bf4 (w := w67) BK295) | (go_at_call 16; refine calls_of_args (args' := #[.agg #[.bool false, .slice none ([] : List (S62)).length 0, .slice Ao37 y289.length co37, .slice Ao36 y292.length co36]]) (by first | rfl | ((try simp only [List.map_toArray, List.map_cons, List.map_nil]); rfl)) ?_; (with_reducible refine (node_May.calls k false _ _ ([] : List (S62)) _ _ y289 _ _ y292 true _ ?side1 ?side2 ?side3 ?side4 ?side5 ?side6 A8.out).mono ?_); (case side1 => exact Kd.C_nil _ _); (case side2 => exact Nat.le_refl _); (case side3 => repeat (first | exact (Kd.R_reads' HO291.out).2.2 | (with_reducible refine Kd.C_alloc ?_ _) | (with_reducible refine Kd.C_drewN ?_ _) | (with_reducible refine Kd.C_drew ?_))); (case side4 => exact (Kd.R_reads' HO291.out).2.1); (case side5 => repeat (first | exact (Kd.R_reads' HO294.out).2.2 | (with_reducible refine Kd.C_alloc ?_ _) | (with_reducible refine Kd.C_drewN ?_ _) | (with_reducible refine Kd.C_drew ?_))); (case side6 => exact (Kd.R_reads' HO294.out).2.1); rintro e w69 ⟨rfl, hb⟩; replace HO287 := Aside0.mk (Kd.R_below (by (with_reducible repeat (first | apply Kd.R_alloc | apply Kd.R_drewN | apply Kd.R_drew)); exact HO287.out) hb); replace HO291 := Aside0.mk (Kd.R_below (by (with_reducible repeat (first | apply Kd.R_alloc | apply Kd.R_drewN | apply Kd.R_drew)); exact HO291.out) hb); replace HO294 := Aside0.mk (Kd.R_below (by (with_reducible repeat (first | apply Kd.R_alloc | apply Kd.R_drewN | apply Kd.R_drew)); exact HO294.out) hb); replace HO298 := Aside0.mk (Kd.R_below (by (with_reducible repeat (first | apply Kd.R_alloc | apply Kd.R_drewN | apply Kd.R_drew)); exact HO298.out) hb); replace HO302 := Aside0.mk (Kd.R_below (by (with_reducible repeat (first | apply Kd.R_alloc | apply Kd.R_drewN | apply Kd.R_drew)); exact HO302.out) hb); replace HO307 := Aside0.mk (Kd.R_below (by (with_reducible repeat (first | apply Kd.R_alloc | apply Kd.R_drewN | apply Kd.R_drew)); exact HO307.out) hb); replace HO310 := Aside0.mk (Kd.R_below (by (with_reducible repeat (first | apply Kd.R_alloc | apply Kd.R_drewN | apply Kd.R_drew)); exact HO310.out) hb); replace HO313 := Aside0.mk (Kd.R_below (by (with_reducible repeat (first | apply Kd.R_alloc | apply Kd.R_drewN | apply Kd.R_drew)); exact HO313.out) hb); replace HO318 := Aside0.mk (Kd.R_below (by (with_reducible repeat (first | apply Kd.R_alloc | apply Kd.R_drewN | apply Kd.R_drew)); exact HO318.out) hb); replace HO322 := Aside0.mk (Kd.R_below (by (with_reducible repeat (first | apply Kd.R_alloc | apply Kd.R_drewN | apply Kd.R_drew)); exact HO322.out) hb); replace HO325 := Aside0.mk (Kd.R_below (by (with_reducible repeat (first | apply Kd.R_alloc | apply Kd.R_drewN | apply Kd.R_drew)); exact HO325.out) hb); replace HO328 := Aside0.mk (Kd.R_below (by (with_reducible repeat (first | apply Kd.R_alloc | apply Kd.R_drewN | apply Kd.R_drew)); exact HO328.out) hb); replace BK288 := bB BK288 hb; replace BK295 := bB BK295 hb; replace BK315 := bB BK315 hb; replace BK330 := bB BK330 hb; replace HB := bW HB hb; (try clear hb); (try clear hb2); (try clear hk); (try clear hi)) | (go_at_call 16; refine calls_of_args (args' := #[.agg #[.bool false, .slice none ([] : List (S62)).length 0, .slice none ([] : List ByteArray).length 0, .slice none ([] : List Int).length 0]]) (by first | rfl | ((try simp only [List.map_toArray, List.map_cons, List.map_nil]); rfl)) ?_; (with_reducible refine (node_May.calls k false _ _ ([] : List (S62)) _ _ ([] : List ByteArray) _ _ ([] : List Int) false _ ?side1 ?side2 ?side3 ?side4 ?side5 ?side6 A10.out).mono ?_); (case side1 => exact Kd.C_nil _ _); (case side2 => exact Nat.le_refl _); (case side3 => exact Kd.C_nil _ _); (case side4 => exact Nat.le_refl _); (case side5 => exact Kd.C_nil _ _); (case side6 => exact Nat.le_refl _); rintro e w70 ⟨rfl, hb⟩; replace HO287 := Aside0.mk (Kd.R_below (by (with_reducible repeat (first | apply Kd.R_alloc | apply Kd.R_drewN | apply Kd.R_drew)); exact HO287.out) hb); replace HO291 := Aside0.mk (Kd.R_below (by (with_reducible repeat (first | apply Kd.R_alloc | apply Kd.R_drewN | apply Kd.R_drew)); exact HO291.out) hb); replace HO294 := Aside0.mk (Kd.R_below (by (with_reducible repeat (first | apply Kd.R_alloc | apply Kd.R_drewN | apply Kd.R_drew)); exact HO294.out) hb); replace HO298 := Aside0.mk (Kd.R_below (by (with_reducible repeat (first | apply Kd.R_alloc | apply Kd.R_drewN | apply Kd.R_drew)); exact HO298.out) hb); replace HO302 := Aside0.mk (Kd.R_below (by (with_reducible repeat (first | apply Kd.R_alloc | apply Kd.R_drewN | apply Kd.R_drew)); exact HO302.out) hb); replace HO307 := Aside0.mk (Kd.R_below (by (with_reducible repeat (first | apply Kd.R_alloc | apply Kd.R_drewN | apply Kd.R_drew)); exact HO307.out) hb); replace HO310 := Aside0.mk (Kd.R_below (by (with_reducible repeat (first | apply Kd.R_alloc | apply Kd.R_drewN | apply Kd.R_drew)); exact HO310.out) hb); replace HO313 := Aside0.mk (Kd.R_below (by (with_reducible repeat (first | apply Kd.R_alloc | apply Kd.R_drewN | apply Kd.R_drew)); exact HO313.out) hb); replace HO318 := Aside0.mk (Kd.R_below (by (with_reducible repeat (first | apply Kd.R_alloc | apply Kd.R_drewN | apply Kd.R_drew)); exact HO318.out) hb); replace HO322 := Aside0.mk (Kd.R_below (by (with_reducible repeat (first | apply Kd.R_alloc | apply Kd.R_drewN | apply Kd.R_drew)); exact HO322.out) hb); replace HO325 := Aside0.mk (Kd.R_below (by (with_reducible repeat (first | apply Kd.R_alloc | apply Kd.R_drewN | apply Kd.R_drew)); exact HO325.out) hb); replace HO328 := Aside0.mk (Kd.R_below (by (with_reducible repeat (first | apply Kd.R_alloc | apply Kd.R_drewN | apply Kd.R_drew)); exact HO328.out) hb); replace BK288 := bB BK288 hb; replace BK295 := bB BK295 hb; replace BK315 := bB BK315 hb; replace BK330 := bB BK330 hb; replace HB := bW HB hb; (try clear hb); (try clear hb2); (try clear hk); (try clear hi); obtain ⟨Ao71, co71, eo71⟩ := Kd.R_slice HO298.out; subst eo71; have p334 : 0 ≤ (0 : Int) := (by omega); have q334 : 0 < (t296.length : Int) := of_decide_eq_true (by first | (with_reducible assumption) | assumption); obtain ⟨ad334, e334, hx334_0⟩ := Kd.at_int (Kd.R_reads' HO298.out).2.2 0 p334 q334; cases e334; have qi334 : (0 < t296.length) = True := eq_true (by omega); (try rw [show ((0 : Int)).toNat = 0 from rfl] at hx334_0); (try rw [Addr.add_zero'] at hx334_0); replace p334 := eq_true p334; replace q334 := eq_true q334; obtain ⟨hcz72_0, hcz72_1, hcz72_2, hcz72_3, hfz72_0, hfz72_1, hfz72_2, hfz72_3⟩ := bf4 (w := w70) BK315; obtain ⟨hcz73_0, hcz73_1, hcz73_2, hcz73_3, hfz73_0, hfz73_1, hfz73_2, hfz73_3⟩ := bf4 (w := w70) BK295) | (go_at_call 20; refine calls_of_args (args' := #[.agg #[.bool false, .slice none ([] : List (S62)).length 0, .slice Ao37 y289.length co37, .slice Ao36 y292.length co36], .string (⟨#[107]⟩ : ByteArray)]) (by first | rfl | ((try simp only [List.map_toArray, List.map_cons, List.map_nil]); rfl)) ?_; (with_reducible refine (node_Kid.calls k false _ _ ([] : List (S62)) _ _ y289 _ _ y292 (⟨#[107]⟩ : ByteArray) t335 _ ?side1 ?side2 ?side3 ?side4 ?side5 ?side6 A20.out).mono ?_); (case side1 => exact Kd.C_nil _ _); (case side2 => exact Nat.le_refl _); (case side3 => repeat (first | exact (Kd.R_reads' HO291.out).2.2 | (with_reducible refine Kd.C_alloc ?_ _) | (with_reducible refine Kd.C_drewN ?_ _) | (with_reducible refine Kd.C_drew ?_))); (case side4 => exact (Kd.R_reads' HO291.out).2.1); (case side5 => repeat (first | exact (Kd.R_reads' HO294.out).2.2 | (with_reducible refine Kd.C_alloc ?_ _) | (with_reducible refine Kd.C_drewN ?_ _) | (with_reducible refine Kd.C_drew ?_))); (case side6 => exact (Kd.R_reads' HO294.out).2.1); rintro e w74 ⟨rfl, hb⟩; replace HO287 := Aside0.mk (Kd.R_below (by (with_reducible repeat (first | apply Kd.R_alloc | apply Kd.R_drewN | apply Kd.R_drew)); exact HO287.out) hb); replace HO291 := Aside0.mk (Kd.R_below (by (with_reducible repeat (first | apply Kd.R_alloc | apply Kd.R_drewN | apply Kd.R_drew)); exact HO291.out) hb); replace HO294 := Aside0.mk (Kd.R_below (by (with_reducible repeat (first | apply Kd.R_alloc | apply Kd.R_drewN | apply Kd.R_drew)); exact HO294.out) hb); replace HO298 := Aside0.mk (Kd.R_below (by (with_reducible repeat (first | apply Kd.R_alloc | apply Kd.R_drewN | apply Kd.R_drew)); exact HO298.out) hb); replace HO302 := Aside0.mk (Kd.R_below (by (with_reducible repeat (first | apply Kd.R_alloc | apply Kd.R_drewN | apply Kd.R_drew)); exact HO302.out) hb); replace HO307 := Aside0.mk (Kd.R_below (by (with_reducible repeat (first | apply Kd.R_alloc | apply Kd.R_drewN | apply Kd.R_drew)); exact HO307.out) hb); replace HO310 := Aside0.mk (Kd.R_below (by (with_reducible repeat (first | apply Kd.R_alloc | apply Kd.R_drewN | apply Kd.R_drew)); exact HO310.out) hb); replace HO313 := Aside0.mk (Kd.R_below (by (with_reducible repeat (first | apply Kd.R_alloc | apply Kd.R_drewN | apply Kd.R_drew)); exact HO313.out) hb); replace HO318 := Aside0.mk (Kd.R_below (by (with_reducible repeat (first | apply Kd.R_alloc | apply Kd.R_drewN | apply Kd.R_drew)); exact HO318.out) hb); replace HO322 := Aside0.mk (Kd.R_below (by (with_reducible repeat (first | apply Kd.R_alloc | apply Kd.R_drewN | apply Kd.R_drew)); exact HO322.out) hb); replace HO325 := Aside0.mk (Kd.R_below (by (with_reducible repeat (first | apply Kd.R_alloc | apply Kd.R_drewN | apply Kd.R_drew)); exact HO325.out) hb); replace HO328 := Aside0.mk (Kd.R_below (by (with_reducible repeat (first | apply Kd.R_alloc | apply Kd.R_drewN | apply Kd.R_drew)); exact HO328.out) hb); replace BK288 := bB BK288 hb; replace BK295 := bB BK295 hb; replace BK315 := bB BK315 hb; replace BK330 := bB BK330 hb; replace HB := bW HB hb; (try clear hb); (try clear hb2); (try clear hk); (try clear hi); obtain ⟨hcz75_0, hcz75_1, hcz75_2, hcz75_3, hfz75_0, hfz75_1, hfz75_2, hfz75_3⟩ := bf4 (w := w74) BK295) | (go_at_call 20; refine calls_of_args (args' := #[.agg #[.bool false, .slice none ([] : List (S62)).length 0, .slice Ao37 y289.length co37, .slice Ao36 y292.length co36], .string (⟨#[106]⟩ : ByteArray)]) (by first | rfl | ((try simp only [List.map_toArray, List.map_cons, List.map_nil]); rfl)) ?_; (with_reducible refine (node_Kid.calls k false _ _ ([] : List (S62)) _ _ y289 _ _ y292 (⟨#[106]⟩ : ByteArray) t336 _ ?side1 ?side2 ?side3 ?side4 ?side5 ?side6 A22.out).mono ?_); (case side1 => exact Kd.C_nil _ _); (case side2 => exact Nat.le_refl _); (case side3 => repeat (first | exact (Kd.R_reads' HO291.out).2.2 | (with_reducible refine Kd.C_alloc ?_ _) | (with_reducible refine Kd.C_drewN ?_ _) | (with_reducible refine Kd.C_drew ?_))); (case side4 => exact (Kd.R_reads' HO291.out).2.1); (case side5 => repeat (first | exact (Kd.R_reads' HO294.out).2.2 | (with_reducible refine Kd.C_alloc ?_ _) | (with_reducible refine Kd.C_drewN ?_ _) | (with_reducible refine Kd.C_drew ?_))); (case side6 => exact (Kd.R_reads' HO294.out).2.1); rintro e w76 ⟨rfl, hb⟩; replace HO287 := Aside0.mk (Kd.R_below (by (with_reducible repeat (first | apply Kd.R_alloc | apply Kd.R_drewN | apply Kd.R_drew)); exact HO287.out) hb); replace HO291 := Aside0.mk (Kd.R_below (by (with_reducible repeat (first | apply Kd.R_alloc | apply Kd.R_drewN | apply Kd.R_drew)); exact HO291.out) hb); replace HO294 := Aside0.mk (Kd.R_below (by (with_reducible repeat (first | apply Kd.R_alloc | apply Kd.R_drewN | apply Kd.R_drew)); exact HO294.out) hb); replace HO298 := Aside0.mk (Kd.R_below (by (with_reducible repeat (first | apply Kd.R_alloc | apply Kd.R_drewN | apply Kd.R_drew)); exact HO298.out) hb); replace HO302 := Aside0.mk (Kd.R_below (by (with_reducible repeat (first | apply Kd.R_alloc | apply Kd.R_drewN | apply Kd.R_drew)); exact HO302.out) hb); replace HO307 := Aside0.mk (Kd.R_below (by (with_reducible repeat (first | apply Kd.R_alloc | apply Kd.R_drewN | apply Kd.R_drew)); exact HO307.out) hb); replace HO310 := Aside0.mk (Kd.R_below (by (with_reducible repeat (first | apply Kd.R_alloc | apply Kd.R_drewN | apply Kd.R_drew)); exact HO310.out) hb); replace HO313 := Aside0.mk (Kd.R_below (by (with_reducible repeat (first | apply Kd.R_alloc | apply Kd.R_drewN | apply Kd.R_drew)); exact HO313.out) hb); replace HO318 := Aside0.mk (Kd.R_below (by (with_reducible repeat (first | apply Kd.R_alloc | apply Kd.R_drewN | apply Kd.R_drew)); exact HO318.out) hb); replace HO322 := Aside0.mk (Kd.R_below (by (with_reducible repeat (first | apply Kd.R_alloc | apply Kd.R_drewN | apply Kd.R_drew)); exact HO322.out) hb); replace HO325 := Aside0.mk (Kd.R_below (by (with_reducible repeat (first | apply Kd.R_alloc | apply Kd.R_drewN | apply Kd.R_drew)); exact HO325.out) hb); replace HO328 := Aside0.mk (Kd.R_below (by (with_reducible repeat (first | apply Kd.R_alloc | apply Kd.R_drewN | apply Kd.R_drew)); exact HO328.out) hb); replace BK288 := bB BK288 hb; replace BK295 := bB BK295 hb; replace BK315 := bB BK315 hb; replace BK330 := bB BK330 hb; replace HB := bW HB hb; (try clear hb); (try clear hb2); (try clear hk); (try clear hi); obtain ⟨hcz77_0, hcz77_1, hcz77_2, hcz77_3, hfz77_0, hfz77_1, hfz77_2, hfz77_3⟩ := bf4 (w := w76) BK288) | (go_at_call 20; refine calls_of_args (args' := #[.agg #[.bool true, .slice Ao29 y285.length co29, .slice none ([] : List ByteArray).length 0, .slice none ([] : List Int).length 0], .string (⟨#[106]⟩ : ByteArray)]) (by first | rfl | ((try simp only [List.map_toArray, List.map_cons, List.map_nil]); rfl)) ?_; (with_reducible refine (node_Kid.calls k true _ _ y285 _ _ ([] : List ByteArray) _ _ ([] : List Int) (⟨#[106]⟩ : ByteArray) t337 _ ?side1 ?side2 ?side3 ?side4 ?side5 ?side6 A24.out).mono ?_); (case side1 => repeat (first | exact (Kd.R_reads' HO287.out).2.2 | (with_reducible refine Kd.C_alloc ?_ _) | (with_reducible refine Kd.C_drewN ?_ _) | (with_reducible refine Kd.C_drew ?_))); (case side2 => exact (Kd.R_reads' HO287.out).2.1); (case side3 => exact Kd.C_nil _ _); (case side4 => exact Nat.le_refl _); (case side5 => exact Kd.C_nil _ _); (case side6 => exact Nat.le_refl _); rintro e w78 ⟨rfl, hb⟩; replace HO287 := Aside0.mk (Kd.R_below (by (with_reducible repeat (first | apply Kd.R_alloc | apply Kd.R_drewN | apply Kd.R_drew)); exact HO287.out) hb); replace HO291 := Aside0.mk (Kd.R_below (by (with_reducible repeat (first | apply Kd.R_alloc | apply Kd.R_drewN | apply Kd.R_drew)); exact HO291.out) hb); replace HO294 := Aside0.mk (Kd.R_below (by (with_reducible repeat (first | apply Kd.R_alloc | apply Kd.R_drewN | apply Kd.R_drew)); exact HO294.out) hb); replace HO298 := Aside0.mk (Kd.R_below (by (with_reducible repeat (first | apply Kd.R_alloc | apply Kd.R_drewN | apply Kd.R_drew)); exact HO298.out) hb); replace HO302 := Aside0.mk (Kd.R_below (by (with_reducible repeat (first | apply Kd.R_alloc | apply Kd.R_drewN | apply Kd.R_drew)); exact HO302.out) hb); replace HO307 := Aside0.mk (Kd.R_below (by (with_reducible repeat (first | apply Kd.R_alloc | apply Kd.R_drewN | apply Kd.R_drew)); exact HO307.out) hb); replace HO310 := Aside0.mk (Kd.R_below (by (with_reducible repeat (first | apply Kd.R_alloc | apply Kd.R_drewN | apply Kd.R_drew)); exact HO310.out) hb); replace HO313 := Aside0.mk (Kd.R_below (by (with_reducible repeat (first | apply Kd.R_alloc | apply Kd.R_drewN | apply Kd.R_drew)); exact HO313.out) hb); replace HO318 := Aside0.mk (Kd.R_below (by (with_reducible repeat (first | apply Kd.R_alloc | apply Kd.R_drewN | apply Kd.R_drew)); exact HO318.out) hb); replace HO322 := Aside0.mk (Kd.R_below (by (with_reducible repeat (first | apply Kd.R_alloc | apply Kd.R_drewN | apply Kd.R_drew)); exact HO322.out) hb); replace HO325 := Aside0.mk (Kd.R_below (by (with_reducible repeat (first | apply Kd.R_alloc | apply Kd.R_drewN | apply Kd.R_drew)); exact HO325.out) hb); replace HO328 := Aside0.mk (Kd.R_below (by (with_reducible repeat (first | apply Kd.R_alloc | apply Kd.R_drewN | apply Kd.R_drew)); exact HO328.out) hb); replace BK288 := bB BK288 hb; replace BK295 := bB BK295 hb; replace BK315 := bB BK315 hb; replace BK330 := bB BK330 hb; replace HB := bW HB hb; (try clear hb); (try clear hb2); (try clear hk); (try clear hi); obtain ⟨hcz79_0, hcz79_1, hcz79_2, hcz79_3, hfz79_0, hfz79_1, hfz79_2, hfz79_3⟩ := bf4 (w := w78) BK288) | (go_at_call 18; refine calls_of_args (args' := #[.agg #[.bool true, .slice Ao29 y285.length co29, .slice none ([] : List ByteArray).length 0, .slice none ([] : List Int).length 0]]) (by first | rfl | ((try simp only [List.map_toArray, List.map_cons, List.map_nil]); rfl)) ?_; (with_reducible refine (node_Size.calls k true _ _ y285 _ _ ([] : List ByteArray) _ _ ([] : List Int) t338 _ ?side1 ?side2 ?side3 ?side4 ?side5 ?side6 A26.out).mono ?_); (case side1 => repeat (first | exact (Kd.R_reads' HO287.out).2.2 | (with_reducible refine Kd.C_alloc ?_ _) | (with_reducible refine Kd.C_drewN ?_ _) | (with_reducible refine Kd.C_drew ?_))); (case side2 => exact (Kd.R_reads' HO287.out).2.1); (case side3 => exact Kd.C_nil _ _); (case side4 => exact Nat.le_refl _); (case side5 => exact Kd.C_nil _ _); (case side6 => exact Nat.le_refl _); rintro e w80 ⟨rfl, hb⟩; replace HO287 := Aside0.mk (Kd.R_below (by (with_reducible repeat (first | apply Kd.R_alloc | apply Kd.R_drewN | apply Kd.R_drew)); exact HO287.out) hb); replace HO291 := Aside0.mk (Kd.R_below (by (with_reducible repeat (first | apply Kd.R_alloc | apply Kd.R_drewN | apply Kd.R_drew)); exact HO291.out) hb); replace HO294 := Aside0.mk (Kd.R_below (by (with_reducible repeat (first | apply Kd.R_alloc | apply Kd.R_drewN | apply Kd.R_drew)); exact HO294.out) hb); replace HO298 := Aside0.mk (Kd.R_below (by (with_reducible repeat (first | apply Kd.R_alloc | apply Kd.R_drewN | apply Kd.R_drew)); exact HO298.out) hb); replace HO302 := Aside0.mk (Kd.R_below (by (with_reducible repeat (first | apply Kd.R_alloc | apply Kd.R_drewN | apply Kd.R_drew)); exact HO302.out) hb); replace HO307 := Aside0.mk (Kd.R_below (by (with_reducible repeat (first | apply Kd.R_alloc | apply Kd.R_drewN | apply Kd.R_drew)); exact HO307.out) hb); replace HO310 := Aside0.mk (Kd.R_below (by (with_reducible repeat (first | apply Kd.R_alloc | apply Kd.R_drewN | apply Kd.R_drew)); exact HO310.out) hb); replace HO313 := Aside0.mk (Kd.R_below (by (with_reducible repeat (first | apply Kd.R_alloc | apply Kd.R_drewN | apply Kd.R_drew)); exact HO313.out) hb); replace HO318 := Aside0.mk (Kd.R_below (by (with_reducible repeat (first | apply Kd.R_alloc | apply Kd.R_drewN | apply Kd.R_drew)); exact HO318.out) hb); replace HO322 := Aside0.mk (Kd.R_below (by (with_reducible repeat (first | apply Kd.R_alloc | apply Kd.R_drewN | apply Kd.R_drew)); exact HO322.out) hb); replace HO325 := Aside0.mk (Kd.R_below (by (with_reducible repeat (first | apply Kd.R_alloc | apply Kd.R_drewN | apply Kd.R_drew)); exact HO325.out) hb); replace HO328 := Aside0.mk (Kd.R_below (by (with_reducible repeat (first | apply Kd.R_alloc | apply Kd.R_drewN | apply Kd.R_drew)); exact HO328.out) hb); replace BK288 := bB BK288 hb; replace BK295 := bB BK295 hb; replace BK315 := bB BK315 hb; replace BK330 := bB BK330 hb; replace HB := bW HB hb; (try clear hb); (try clear hb2); (try clear hk); (try clear hi)))
                go_ret
                exact ⟨by first | rfl | (simp [errW_none, errW_some] <;> rfl) | (simp [*, errW_none, errW_some] <;> rfl), by repeat (first | (with_reducible first | exact HB.out | apply below_alloc | apply pw_below_drewN | apply below_drew1 | refine below_set ?_ GE288.out | refine below_set ?_ GE295.out | refine below_set ?_ GE315.out | refine below_set ?_ GE330.out) | exact HB.out)⟩
               ·rw [if_neg c25] at H
                exact absurd H (by simp)
              ·rw [if_neg c23] at H
               exact absurd H (by simp)
             ·rw [if_neg c21] at H
              exact absurd H (by simp)
            ·rw [if_neg c19] at H
             exact absurd H (by simp)
           ·rw [if_neg c18] at H
            exact absurd H (by simp)
          ·rw [if_neg c17] at H
           exact absurd H (by simp)
         ·rw [if_neg c16] at H
          exact absurd H (by simp)
        ·rw [if_neg c15] at H
         exact absurd H (by simp)
       ·rw [if_neg c14] at H
        exact absurd H (by simp)
      ·rw [if_neg c13] at H
       exact absurd H (by simp)
     ·rw [if_neg c12] at H
      exact absurd H (by simp)
   ·replace c9 := Bool.eq_false_iff.mpr c9
    subst c9
    have H1 : (none) = some r := by rw [if_neg (show ¬ (false = true) by decide)] at H; exact H
    clear H
    have H := H1
    clear H1
    exact absurd H (by simp)
  ·replace c7 := Bool.eq_false_iff.mpr c7
   subst c7
   have H1 : (none) = some r := by rw [if_neg (show ¬ (false = true) by decide)] at H; exact H
   clear H
   have H := H1
   clear H1
   exact absurd H (by simp)
 ·rw [if_neg c4] at H
  exact absurd H (by simp)
end Go.Proofs.Ytmmjpieafbjggaa.P
end
section
namespace Go.Proofs.Ytmmjpieafbjggaa.P
open Go.RowKit Go.Proofs.YtmmjpieafbjggaaW.PrintWords Go.Proofs.YtmmjpieafbjggaaW.PrintLast Go.Proofs.YtmmjpieafbjggaaW.PrintMore
attribute [local go_sem] max2_int min2_int max_two min_two max_three min_three max_four min_four   -- for this text's walks alone
attribute [local go_sem] x_str_gtr x_str_leq x_str_geq ext_bits ext_frombits ext_neg x_store_float Instr.field asAgg
set_option linter.unusedVariables false
set_option linter.unusedSimpArgs false
def engrosslaw10_Of.f (a0_0 : ByteArray) (a0_1 : Int) (a0_2 : Nat) (a0_3 : ByteArray) (a0_4 : Int) (a0_5 : Int) (a0_6 : Nat) (a0_7 : ByteArray) : Option (ByteArray × Int × Nat × ByteArray × Int × Int × Nat × ByteArray) := some (a0_0, a0_1, a0_2, a0_3, a0_4, a0_5, a0_6, a0_7)
set_option maxHeartbeats 8000000 in
set_option maxRecDepth 100000 in
theorem engrosslaw10_Of.calls (a0_0 : ByteArray) (a0_1 : Int) (a0_2 : Nat) (a0_3 : ByteArray) (a0_4 : Int) (a0_5 : Int) (a0_6 : Nat) (a0_7 : ByteArray) (r1 : ByteArray) (r2 : Int) (r3 : Nat) (r4 : ByteArray) (r5 : Int) (r6 : Int) (r7 : Nat) (r8 : ByteArray) (w : World) (h : engrosslaw10_Of.f a0_0 a0_1 a0_2 a0_3 a0_4 a0_5 a0_6 a0_7 = some (r1, r2, r3, r4, r5, r6, r7, r8)) :
  Calls Try.prog 35 #[.agg #[.string a0_0, .int .i64 a0_1, .float .f64 a0_2, .string a0_3, .int .i64 a0_4, .int .i64 a0_5, .float .f64 a0_6, .string a0_7]] w fun e w' => e = .returned (.agg #[.string r1, .int .i64 r2, .float .f64 r3, .string r4, .int .i64 r5, .int .i64 r6, .float .f64 r7, .string r8]) ∧ Below w.heap.size w w' := by
 have hu56 := Try.underlying56
 have hu62 := Try.underlying62
 have hu54 := Try.underlying54
 have HB := Aside0.mk (Below.refl w.heap.size w)
 have H : (some (a0_0, a0_1, a0_2, a0_3, a0_4, a0_5, a0_6, a0_7)) = some (r1, r2, r3, r4, r5, r6, r7, r8) := h
 clear h
 simp only [Option.some.injEq, Prod.mk.injEq] at H
 obtain ⟨rfl, rfl, rfl, rfl, rfl, rfl, rfl, rfl⟩ := H
 go_enter Try.func35, Try.ntmps35
 go_wp2_with (first | ((with_reducible refine gate_dst (N := 1) rfl ?_); refine box_event ?hg (N := 1) ?hd (cs := #[.string a0_0, .int .i64 a0_1, .float .f64 a0_2, .string a0_3, .int .i64 a0_4, .int .i64 a0_5, .float .f64 a0_6, .string a0_7]) (t := 56) ?hr ?_; (case hd => rfl); (case hg => rfl); (case hr => first | (go_simp; done) | (go_simp; rfl)); intro gb495 hg w2 hbox hb; have BK495 := Aside0.mk (hbox); have GW495 := bZ HB hg; have GE495 := bZ HB hg; replace HB := bW HB hb; clear hb hbox hg) | ((with_reducible refine gate_dst (N := 2) rfl ?_); refine box_event ?hg (N := 2) ?hd (cs := #[.string (⟨#[]⟩ : ByteArray), .int .i64 0, .float .f64 0, .string (⟨#[]⟩ : ByteArray), .int .i64 0, .int .i64 0, .float .f64 0, .string (⟨#[]⟩ : ByteArray)]) (t := 62) ?hr ?_; (case hd => rfl); (case hg => rfl); (case hr => first | (go_simp; done) | (go_simp; rfl)); intro gb496 hg w3 hbox hb; have BK496 := Aside0.mk (hbox); have GW496 := bZ HB hg; have GE496 := bZ HB hg; have NB495_496 := bL BK495 hg; have NB496_495 := bG BK495 hg; replace BK495 := bB BK495 hb; replace HB := bW HB hb; clear hb hbox hg; have hnb4 := NB495_496.out; have hnc4 := NB496_495.out; obtain ⟨hcz5_0, hcz5_1, hcz5_2, hcz5_3, hcz5_4, hcz5_5, hcz5_6, hcz5_7, hfz5_0, hfz5_1, hfz5_2, hfz5_3, hfz5_4, hfz5_5, hfz5_6, hfz5_7⟩ := bf8 (w := w3) BK495; obtain ⟨hcz6_0, hcz6_1, hcz6_2, hcz6_3, hcz6_4, hcz6_5, hcz6_6, hcz6_7, hfz6_0, hfz6_1, hfz6_2, hfz6_3, hfz6_4, hfz6_5, hfz6_6, hfz6_7⟩ := bf8 (w := w3) BK496))
 refine bodyPost_ret (results_cell_row rfl _ _ gb496 62 #[.string a0_0, .int .i64 a0_1, .float .f64 a0_2, .string a0_3, .int .i64 a0_4, .int .i64 a0_5, .float .f64 a0_6, .string a0_7] (0, 0) _ rfl (bR BK496) Try.underlying62 rfl (by kernel_rfl)) rfl ?_
 exact ⟨by first | rfl | (simp [errW_none, errW_some] <;> rfl) | (simp [*, errW_none, errW_some] <;> rfl), by repeat (first | (with_reducible first | exact HB.out | apply below_alloc | apply pw_below_drewN | apply below_drew1 | refine below_set ?_ GE495.out | refine below_set ?_ GE496.out) | exact HB.out)⟩
end Go.Proofs.Ytmmjpieafbjggaa.P
end
section
namespace Go.Proofs.Ytmmjpieafbjggaa.P
open Go.RowKit Go.Proofs.YtmmjpieafbjggaaW.PrintWords Go.Proofs.YtmmjpieafbjggaaW.PrintLast Go.Proofs.YtmmjpieafbjggaaW.PrintMore
attribute [local go_sem] max2_int min2_int max_two min_two max_three min_three max_four min_four   -- for this text's walks alone
attribute [local go_sem] x_str_gtr x_str_leq x_str_geq ext_bits ext_frombits ext_neg x_store_float Instr.field asAgg
set_option linter.unusedVariables false
set_option linter.unusedSimpArgs false
def engrosslaw11_Of.l0 : Nat → Int → Bool → List (S56) → List ByteArray → List Int → Bool → List (S62) → List ByteArray → List Int → Option (Bool × (List (S62)) × List ByteArray × List Int)
 | 0, _, _, _, _, _, _, _, _, _ => none
 | k + 1, x4, x498000, x498001, x498002, x498003, x500000, x500001, x500002, x500003 => if x4 < (x498001.length : Int) then (if 0 ≤ x4 then ((engrosslaw10_Of.f ((rd_T56 x498001 x4).f0) ((rd_T56 x498001 x4).f1.f0) ((rd_T56 x498001 x4).f1.f1) ((rd_T56 x498001 x4).f1.f2) ((rd_T56 x498001 x4).f2) ((rd_T56 x498001 x4).f3.f0) ((rd_T56 x498001 x4).f3.f1) ((rd_T56 x498001 x4).f3.f2)).bind fun bt501 => (if x500001.length < 1599289640401 then (engrosslaw11_Of.l0 k (wrap64 (x4 + 1)) x498000 x498001 x498002 x498003 x500000 (x500001 ++ [(⟨bt501.1, (⟨bt501.2.1, bt501.2.2.1, bt501.2.2.2.1⟩ : S54), bt501.2.2.2.2.1, (⟨bt501.2.2.2.2.2.1, bt501.2.2.2.2.2.2.1, bt501.2.2.2.2.2.2.2⟩ : S54)⟩ : S62)]) x500002 x500003) else (none))) else (none)) else (some (x500000, x500001, x500002, x500003))
def engrosslaw11_Of.f (k : Nat) (a0_0 : Bool) (l0_1 : List (S56)) (l0_2 : List ByteArray) (l0_3 : List Int) : Option (Bool × (List (S62)) × List ByteArray × List Int) := engrosslaw11_Of.l0 k 0 a0_0 l0_1 l0_2 l0_3 a0_0 ([] : List (S62)) l0_2 l0_3
def engrosslaw11_Of.T5 : Bool × List (List Nat × List Nat) := (true, [([], []), ([0], [0]), ([], []), ([2], [2]), ([], []), ([3, 4], [3, 4]), ([5], [5]), ([6], [6]), ([7], [7]), ([1, 8, 7], [1, 8]), ([0, 1, 2, 3, 4, 5, 6, 7, 8, 9], []), ([10, 9, 9, 0, 1, 2, 3, 4, 5, 6, 7, 8, 9], [9, 10])])
def engrosslaw11_Of.B5 : List Nat := [0, 1, 0, 4, 0, 28, 60, 124, 252, 511, 1023, 2047]
theorem engrosslaw11_Of.tab5 : rtab .any (opsOf Try.f17 5) = engrosslaw11_Of.T5 := by kernel_rfl
theorem engrosslaw11_Of.bits5 : waitsOk engrosslaw11_Of.T5.2 engrosslaw11_Of.B5 = true := by kernel_rfl
set_option maxHeartbeats 8000000 in
set_option maxRecDepth 100000 in
theorem engrosslaw11_Of.calls (k : Nat) (a0_0 : Bool) (A0_1 : Option Addr) (c0_1 : Nat) (l0_1 : List (S56)) (P0_2_ : Nat → Prop) (A0_2 : Option Addr) (c0_2 : Nat) (l0_2 : List ByteArray) (P0_3_ : Nat → Prop) (A0_3 : Option Addr) (c0_3 : Nat) (l0_3 : List Int) (r1 : Bool) (r2 : List (S62)) (r3 : List ByteArray) (r4 : List Int) (w : World) (hr0_1 : Kd.C k56 w A0_1 l0_1.length l0_1) (hc0_1 : l0_1.length ≤ c0_1) (hs0_2 : Kd.V Kd.string 9 w w.heap.size (fun k_ => P0_2_ k_) (.slice A0_2 l0_2.length c0_2) l0_2) (hs0_3 : Kd.V (Kd.int .i64) 3 w w.heap.size (fun k_ => P0_3_ k_) (.slice A0_3 l0_3.length c0_3) l0_3) (h : engrosslaw11_Of.f k a0_0 l0_1 l0_2 l0_3 = some (r1, r2, r3, r4)) :
  Calls Try.prog 17 #[.agg #[.bool a0_0, .slice A0_1 l0_1.length c0_1, .slice A0_2 l0_2.length c0_2, .slice A0_3 l0_3.length c0_3]] w fun e w' => ∃ v1_ v2_ v3_ : Value, e = .returned (.agg #[.bool r1, v1_, v2_, v3_]) ∧ Kd.R k62 62 w' w.heap.size (fun k_ => (w.heap.size ≤ k_)) v1_ r2 ∧ Kd.V Kd.string 9 w' w.heap.size (fun k_ => ((P0_2_ k_ ∨ P0_3_ k_) ∨ w.heap.size ≤ k_) ∧ some k_ ≠ (v1_ : Value).ownBlock) v2_ r3 ∧ Kd.V (Kd.int .i64) 3 w' w.heap.size (fun k_ => ((P0_2_ k_ ∨ P0_3_ k_) ∨ w.heap.size ≤ k_) ∧ some k_ ≠ (v1_ : Value).ownBlock) v3_ r4 ∧ Below w.heap.size w w' := by
 have hu26 := Try.underlying26
 have hu36 := Try.underlying36
 have hu56 := Try.underlying56
 have HR0_1 := Aside0.mk hr0_1
 have HC0_1 := Aside0.mk hc0_1
 clear hr0_1 hc0_1
 have HO0_2 := Aside0.mk (show Kd.V Kd.string 9 w w.heap.size (fun k_ => ((P0_2_ k_ ∨ P0_3_ k_) ∨ w.heap.size ≤ k_)) (.slice A0_2 l0_2.length c0_2) l0_2 from Kd.V_mono hs0_2 (fun k_ hk => .inl (.inl hk)))
 have HO0_3 := Aside0.mk (show Kd.V (Kd.int .i64) 3 w w.heap.size (fun k_ => ((P0_2_ k_ ∨ P0_3_ k_) ∨ w.heap.size ≤ k_)) (.slice A0_3 l0_3.length c0_3) l0_3 from Kd.V_mono hs0_3 (fun k_ hk => .inl (.inr hk)))
 have HB := Aside0.mk (Below.refl w.heap.size w)
 have H : (engrosslaw11_Of.l0 k 0 a0_0 l0_1 l0_2 l0_3 a0_0 ([] : List (S62)) l0_2 l0_3) = some (r1, r2, r3, r4) := h
 clear h
 have H' := Aside0.mk H
 clear H
 go_enter Try.func17, Try.ntmps17
 go_wp2_with (first | ((with_reducible refine gate_dst (N := 1) rfl ?_); refine box_event ?hg (N := 1) ?hd (cs := #[.bool a0_0, .slice A0_1 l0_1.length c0_1, .slice A0_2 l0_2.length c0_2, .slice A0_3 l0_3.length c0_3]) (t := 26) ?hr ?_; (case hd => rfl); (case hg => rfl); (case hr => first | (go_simp; done) | (go_simp; rfl)); intro gb497 hg w2 hbox hb; have BK497 := Aside0.mk (hbox); have GW497 := bZ HB hg; have GE497 := bZ HB hg; replace HO0_2 := Aside0.mk (Kd.V_below (Kd.V_elderB (by (with_reducible repeat (first | apply Kd.V_alloc | apply Kd.V_drewN | apply Kd.V_drew)); exact HO0_2.out) gb497 (Nat.le_of_eq hg.symm)) hb); replace HO0_3 := Aside0.mk (Kd.V_below (Kd.V_elderB (by (with_reducible repeat (first | apply Kd.V_alloc | apply Kd.V_drewN | apply Kd.V_drew)); exact HO0_3.out) gb497 (Nat.le_of_eq hg.symm)) hb); replace HB := bW HB hb; clear hb hbox hg) | ((with_reducible refine gate_dst (N := 2) rfl ?_); refine box_event ?hg (N := 2) ?hd (cs := #[.bool false, .slice none 0 0, .slice none 0 0, .slice none 0 0]) (t := 36) ?hr ?_; (case hd => rfl); (case hg => rfl); (case hr => first | (go_simp; done) | (go_simp; rfl)); intro gb498 hg w3 hbox hb; have BK498 := Aside0.mk (hbox); have GW498 := bZ HB hg; have GE498 := bZ HB hg; have NB497_498 := bL BK497 hg; have NB498_497 := bG BK497 hg; replace HO0_2 := Aside0.mk (Kd.V_below (Kd.V_elderB (by (with_reducible repeat (first | apply Kd.V_alloc | apply Kd.V_drewN | apply Kd.V_drew)); exact HO0_2.out) gb498 (Nat.le_of_eq hg.symm)) hb); replace HO0_3 := Aside0.mk (Kd.V_below (Kd.V_elderB (by (with_reducible repeat (first | apply Kd.V_alloc | apply Kd.V_drewN | apply Kd.V_drew)); exact HO0_3.out) gb498 (Nat.le_of_eq hg.symm)) hb); replace BK497 := bB BK497 hb; replace HB := bW HB hb; clear hb hbox hg; have hnb4 := NB497_498.out; have hnc4 := NB498_497.out; obtain ⟨hcz5_0, hcz5_1, hcz5_2, hcz5_3, hfz5_0, hfz5_1, hfz5_2, hfz5_3⟩ := bf4 (w := w3) BK497) | ((with_reducible refine gate_dst (N := 3) rfl ?_); refine box_event ?hg (N := 3) ?hd (cs := #[.bool false, .slice none 0 0, .slice none 0 0, .slice none 0 0]) (t := 36) ?hr ?_; (case hd => rfl); (case hg => rfl); (case hr => first | (go_simp; done) | (go_simp; rfl)); intro gb499 hg w6 hbox hb; have BK499 := Aside0.mk (hbox); have GW499 := bZ HB hg; have GE499 := bZ HB hg; have NB497_499 := bL BK497 hg; have NB499_497 := bG BK497 hg; have NB498_499 := bL BK498 hg; have NB499_498 := bG BK498 hg; replace HO0_2 := Aside0.mk (Kd.V_below (Kd.V_elderB (by (with_reducible repeat (first | apply Kd.V_alloc | apply Kd.V_drewN | apply Kd.V_drew)); exact HO0_2.out) gb499 (Nat.le_of_eq hg.symm)) hb); replace HO0_3 := Aside0.mk (Kd.V_below (Kd.V_elderB (by (with_reducible repeat (first | apply Kd.V_alloc | apply Kd.V_drewN | apply Kd.V_drew)); exact HO0_3.out) gb499 (Nat.le_of_eq hg.symm)) hb); replace BK497 := bB BK497 hb; replace BK498 := bB BK498 hb; replace HB := bW HB hb; clear hb hbox hg; have hnb7 := NB499_497.out; have hnc7 := NB497_499.out; have hnb8 := NB499_498.out; have hnc8 := NB498_499.out; obtain ⟨hcz9_0, hcz9_1, hcz9_2, hcz9_3, hfz9_0, hfz9_1, hfz9_2, hfz9_3⟩ := bf4 (w := w6) BK499))
 go_loopg [4] k (fun kq v4 w' => ∃ (x4_1 : Int) (x500001_1 : List (S62)) (u500001 : Value), v4 = .int .i64 x4_1 ∧ Aside0 (engrosslaw11_Of.l0 kq x4_1 a0_0 l0_1 l0_2 l0_3 a0_0 x500001_1 l0_2 l0_3 = some (r1, r2, r3, r4)) ∧ Aside0 (kq ≤ k) ∧ Aside0 (Kd.V Kd.string 9 w' w.heap.size (fun k_ => ((P0_2_ k_ ∨ P0_3_ k_) ∨ w.heap.size ≤ k_) ∧ some k_ ≠ (u500001 : Value).ownBlock ∧ k_ ≠ gb497 ∧ k_ ≠ gb498 ∧ k_ ≠ gb499) (.slice A0_2 l0_2.length c0_2) l0_2) ∧ Aside0 (Kd.V (Kd.int .i64) 3 w' w.heap.size (fun k_ => ((P0_2_ k_ ∨ P0_3_ k_) ∨ w.heap.size ≤ k_) ∧ some k_ ≠ (u500001 : Value).ownBlock ∧ k_ ≠ gb497 ∧ k_ ≠ gb498 ∧ k_ ≠ gb499) (.slice A0_3 l0_3.length c0_3) l0_3) ∧ Aside0 (Kd.R k62 62 w' w.heap.size (fun k_ => (w.heap.size ≤ k_)) u500001 x500001_1) ∧ Aside0 (Kd.V Kd.string 9 w' w.heap.size (fun k_ => ((P0_2_ k_ ∨ P0_3_ k_) ∨ w.heap.size ≤ k_) ∧ some k_ ≠ (u500001 : Value).ownBlock ∧ k_ ≠ gb497 ∧ k_ ≠ gb498 ∧ k_ ≠ gb499) (.slice A0_2 l0_2.length c0_2) l0_2) ∧ Aside0 (Kd.V (Kd.int .i64) 3 w' w.heap.size (fun k_ => ((P0_2_ k_ ∨ P0_3_ k_) ∨ w.heap.size ≤ k_) ∧ some k_ ≠ (u500001 : Value).ownBlock ∧ k_ ≠ gb497 ∧ k_ ≠ gb498 ∧ k_ ≠ gb499) (.slice A0_3 l0_3.length c0_3) l0_3) ∧ Aside0 (w'.heap[gb497]? = some (.cells #[.bool a0_0, (.slice A0_1 l0_1.length c0_1), (.slice A0_2 l0_2.length c0_2), (.slice A0_3 l0_3.length c0_3)] 26 (0, 0))) ∧ Aside0 (w'.heap[gb498]? = some (.cells #[.bool false, (.slice none 0 0), (.slice none 0 0), (.slice none 0 0)] 36 (0, 0))) ∧ Aside0 (w'.heap[gb499]? = some (.cells #[.bool a0_0, u500001, (.slice A0_2 l0_2.length c0_2), (.slice A0_3 l0_3.length c0_3)] 36 (0, 0))) ∧ Aside0 (Below w.heap.size w w'))
 case atStart => exact ⟨(0), (([] : List (S62))), (.slice none 0 0), (by first | rfl | (simp; done) | (simp [*]; done)), H', ⟨Nat.le_refl _⟩, ⟨by (with_reducible repeat (first | apply Kd.V_alloc | apply Kd.V_drewN | apply Kd.V_drew)); exact Kd.V_mono (Kd.V_far (p := ⟨gb499, 3, none⟩) (Kd.V_far (p := ⟨gb499, 2, none⟩) (Kd.V_far (p := ⟨gb499, 1, none⟩) (Kd.V_far (p := ⟨gb499, 0, none⟩) (Kd.V_mono HO0_2.out (fun k_ hk => (⟨hk, hk.2⟩ : _ ∧ k_ ≠ gb499))) (fun _ hk => hk.2) (.bool a0_0)) (fun _ hk => hk.2) (.slice none 0 0)) (fun _ hk => hk.2) (.slice A0_2 l0_2.length c0_2)) (fun _ hk => hk.2) (.slice A0_3 l0_3.length c0_3)) (fun _ hk => ⟨hk.1.1.1.1, ⟨(by simp [Value.ownBlock]), ⟨hk.1.1.1.2, ⟨hk.1.1.2, hk.1.2⟩⟩⟩⟩)⟩, ⟨by (with_reducible repeat (first | apply Kd.V_alloc | apply Kd.V_drewN | apply Kd.V_drew)); exact Kd.V_mono (Kd.V_far (p := ⟨gb499, 3, none⟩) (Kd.V_far (p := ⟨gb499, 2, none⟩) (Kd.V_far (p := ⟨gb499, 1, none⟩) (Kd.V_far (p := ⟨gb499, 0, none⟩) (Kd.V_mono HO0_3.out (fun k_ hk => (⟨hk, hk.2⟩ : _ ∧ k_ ≠ gb499))) (fun _ hk => hk.2) (.bool a0_0)) (fun _ hk => hk.2) (.slice none 0 0)) (fun _ hk => hk.2) (.slice A0_2 l0_2.length c0_2)) (fun _ hk => hk.2) (.slice A0_3 l0_3.length c0_3)) (fun _ hk => ⟨hk.1.1.1.1, ⟨(by simp [Value.ownBlock]), ⟨hk.1.1.1.2, ⟨hk.1.1.2, hk.1.2⟩⟩⟩⟩)⟩, ⟨by first | exact Kd.R_nil _ _ _ _ _ | exact Kd.N_nil _ _ _ _ _ | exact Kd.V_nil _ _ _ _ _ | exact Kd.Q_nil _ _ _ _ _ | exact Kd.S_nil _ _ _ _ _⟩, ⟨by (with_reducible repeat (first | apply Kd.V_alloc | apply Kd.V_drewN | apply Kd.V_drew)); exact Kd.V_mono (Kd.V_far (p := ⟨gb499, 3, none⟩) (Kd.V_far (p := ⟨gb499, 2, none⟩) (Kd.V_far (p := ⟨gb499, 1, none⟩) (Kd.V_far (p := ⟨gb499, 0, none⟩) (Kd.V_mono HO0_2.out (fun k_ hk => (⟨hk, hk.2⟩ : _ ∧ k_ ≠ gb499))) (fun _ hk => hk.2) (.bool a0_0)) (fun _ hk => hk.2) (.slice none 0 0)) (fun _ hk => hk.2) (.slice A0_2 l0_2.length c0_2)) (fun _ hk => hk.2) (.slice A0_3 l0_3.length c0_3)) (fun _ hk => ⟨hk.1.1.1.1, ⟨(by simp [Value.ownBlock]), ⟨hk.1.1.1.2, ⟨hk.1.1.2, hk.1.2⟩⟩⟩⟩)⟩, ⟨by (with_reducible repeat (first | apply Kd.V_alloc | apply Kd.V_drewN | apply Kd.V_drew)); exact Kd.V_mono (Kd.V_far (p := ⟨gb499, 3, none⟩) (Kd.V_far (p := ⟨gb499, 2, none⟩) (Kd.V_far (p := ⟨gb499, 1, none⟩) (Kd.V_far (p := ⟨gb499, 0, none⟩) (Kd.V_mono HO0_3.out (fun k_ hk => (⟨hk, hk.2⟩ : _ ∧ k_ ≠ gb499))) (fun _ hk => hk.2) (.bool a0_0)) (fun _ hk => hk.2) (.slice none 0 0)) (fun _ hk => hk.2) (.slice A0_2 l0_2.length c0_2)) (fun _ hk => hk.2) (.slice A0_3 l0_3.length c0_3)) (fun _ hk => ⟨hk.1.1.1.1, ⟨(by simp [Value.ownBlock]), ⟨hk.1.1.1.2, ⟨hk.1.1.2, hk.1.2⟩⟩⟩⟩)⟩, ⟨by (with_reducible repeat (first | refine blk_drewN ?_ _ | refine blk_drew ?_ | refine blk_alloc ?_ _)); refine blk_far ?_ NB497_499.out _; (with_reducible repeat (first | refine blk_drewN ?_ _ | refine blk_drew ?_ | refine blk_alloc ?_ _)); refine blk_far ?_ NB497_499.out _; (with_reducible repeat (first | refine blk_drewN ?_ _ | refine blk_drew ?_ | refine blk_alloc ?_ _)); refine blk_far ?_ NB497_499.out _; (with_reducible repeat (first | refine blk_drewN ?_ _ | refine blk_drew ?_ | refine blk_alloc ?_ _)); refine blk_far ?_ NB497_499.out _; (with_reducible repeat (first | refine blk_drewN ?_ _ | refine blk_drew ?_ | refine blk_alloc ?_ _)); exact BK497.out⟩, ⟨by (with_reducible repeat (first | refine blk_drewN ?_ _ | refine blk_drew ?_ | refine blk_alloc ?_ _)); refine blk_far ?_ NB498_499.out _; (with_reducible repeat (first | refine blk_drewN ?_ _ | refine blk_drew ?_ | refine blk_alloc ?_ _)); refine blk_far ?_ NB498_499.out _; (with_reducible repeat (first | refine blk_drewN ?_ _ | refine blk_drew ?_ | refine blk_alloc ?_ _)); refine blk_far ?_ NB498_499.out _; (with_reducible repeat (first | refine blk_drewN ?_ _ | refine blk_drew ?_ | refine blk_alloc ?_ _)); refine blk_far ?_ NB498_499.out _; (with_reducible repeat (first | refine blk_drewN ?_ _ | refine blk_drew ?_ | refine blk_alloc ?_ _)); exact BK498.out⟩, ⟨by (with_reducible repeat (first | refine blk_drewN ?_ _ | refine blk_drew ?_ | refine blk_alloc ?_ _)); refine blk_put (cs := #[.bool a0_0, .slice none 0 0, .slice A0_2 l0_2.length c0_2, .slice none 0 0]) ?_ 3 _ rfl; (with_reducible repeat (first | refine blk_drewN ?_ _ | refine blk_drew ?_ | refine blk_alloc ?_ _)); refine blk_put (cs := #[.bool a0_0, .slice none 0 0, .slice none 0 0, .slice none 0 0]) ?_ 2 _ rfl; (with_reducible repeat (first | refine blk_drewN ?_ _ | refine blk_drew ?_ | refine blk_alloc ?_ _)); refine blk_put (cs := #[.bool a0_0, .slice none 0 0, .slice none 0 0, .slice none 0 0]) ?_ 1 _ rfl; (with_reducible repeat (first | refine blk_drewN ?_ _ | refine blk_drew ?_ | refine blk_alloc ?_ _)); refine blk_put (cs := #[.bool false, .slice none 0 0, .slice none 0 0, .slice none 0 0]) ?_ 0 _ rfl; (with_reducible repeat (first | refine blk_drewN ?_ _ | refine blk_drew ?_ | refine blk_alloc ?_ _)); exact BK499.out⟩, ⟨by repeat (first | (with_reducible first | exact HB.out | apply below_alloc | apply pw_below_drewN | apply below_drew1 | refine below_set ?_ GE497.out | refine below_set ?_ GE498.out | refine below_set ?_ GE499.out) | exact HB.out)⟩⟩
 case round =>
  clear H'
  try clear c1
  try clear p2
  try clear c4
  try clear c7
  try clear c8
  try clear hcz5_0
  try clear hcz5_1
  try clear hcz5_2
  try clear hcz5_3
  try clear hcz9_0
  try clear hcz9_1
  try clear hcz9_2
  try clear hcz9_3
  try clear hfz5_0
  try clear hfz5_1
  try clear hfz5_2
  try clear hfz5_3
  try clear hfz9_0
  try clear hfz9_1
  try clear hfz9_2
  try clear hfz9_3
  obtain ⟨x4_1, x500001_1, u500001, rfl, HA, HK1, HO_498002, HO_498003, HO_500001, HO_500002, HO_500003, BK497, BK498, BK499, HB⟩ := hrel
  cases gk with
  | zero => exact absurd HA.out (by simp [engrosslaw11_Of.l0])
  | succ k1 =>
   have H := HA.out
   clear HA
   simp only [engrosslaw11_Of.l0] at H
   by_cases c10 : x4_1 < (l0_1.length : Int)
   ·rw [if_pos c10] at H
    have c10b0 : decide (x4_1 < (l0_1.length : Int)) = true := decide_eq_true c10
    clear c10
    by_cases c11 : 0 ≤ x4_1
    ·rw [if_pos c11] at H
     have c11b0 : decide (0 ≤ x4_1) = true := decide_eq_true c11
     clear c11
     replace H := Option.bind_eq_some_iff.mp H
     obtain ⟨⟨t501, t502, t503, t504, t505, t506, t507, t508⟩, A120, H⟩ := H
     replace H : (if x500001_1.length < 1599289640401 then (engrosslaw11_Of.l0 k1 (wrap64 (x4_1 + 1)) a0_0 l0_1 l0_2 l0_3 a0_0 (x500001_1 ++ [(⟨t501, (⟨t502, t503, t504⟩ : S54), t505, (⟨t506, t507, t508⟩ : S54)⟩ : S62)]) l0_2 l0_3) else (none)) = some (r1, r2, r3, r4) := H
     have A12 := Aside0.mk A120
     clear A120
     by_cases c13 : x500001_1.length < 1599289640401
     ·rw [if_pos c13] at H
      have LMc13 := Aside0.mk c13
      clear c13
      obtain ⟨y509, hy509⟩ : ∃ y_ : List (S62), y_ = (x500001_1 ++ [(⟨t501, (⟨t502, t503, t504⟩ : S54), t505, (⟨t506, t507, t508⟩ : S54)⟩ : S62)]) := ⟨_, rfl⟩
      replace H : (engrosslaw11_Of.l0 k1 (wrap64 (x4_1 + 1)) a0_0 l0_1 l0_2 l0_3 a0_0 y509 l0_2 l0_3) = some (r1, r2, r3, r4) := by first | (rw [hy509]; with_reducible exact H) | (have H2_ := (Option.bind_some _ _).symm.trans H; rw [hy509]; with_reducible exact H2_) | (have H2_ := (Option.bind_some _ _).symm.trans H; with_reducible exact H2_) | with_reducible exact H | (rw [hy509]; exact H) | exact H
      have Ny509 := Aside0.mk hy509
      clear hy509
      have H' := Aside0.mk H
      clear H
      have hnb14 := NB497_498.out
      have hnc14 := NB498_497.out
      have hnb15 := NB497_499.out
      have hnc15 := NB499_497.out
      obtain ⟨hcz16_0, hcz16_1, hcz16_2, hcz16_3, hfz16_0, hfz16_1, hfz16_2, hfz16_3⟩ := bf4 (w := wr) BK497
      try go_wp2
      replace HO_498002 := Aside0.mk (Kd.V_drew HO_498002.out)
      replace HO_498003 := Aside0.mk (Kd.V_drew HO_498003.out)
      replace HO_500001 := Aside0.mk (Kd.R_drew HO_500001.out)
      replace HO_500002 := Aside0.mk (Kd.V_drew HO_500002.out)
      replace HO_500003 := Aside0.mk (Kd.V_drew HO_500003.out)
      replace BK497 := Aside0.mk (blk_drew BK497.out)
      replace BK498 := Aside0.mk (blk_drew BK498.out)
      replace BK499 := Aside0.mk (blk_drew BK499.out)
      replace HB := Aside0.mk (below_drew1 HB.out)
      have p500 : 0 ≤ (x4_1 : Int) := of_decide_eq_true (by first | (with_reducible assumption) | assumption)
      have q500 : x4_1 < (l0_1.length : Int) := of_decide_eq_true (by first | (with_reducible assumption) | assumption)
      obtain ⟨ad500, e500, hx500_0, hx500_1, hx500_2, hx500_3, hx500_4, hx500_5, hx500_6, hx500_7⟩ := at_T56 HR0_1.out x4_1 p500 q500
      have hw500_7 := hx500_7
      have hw500_6 := hx500_6
      have hw500_5 := hx500_5
      have hw500_4 := hx500_4
      have hw500_3 := hx500_3
      have hw500_2 := hx500_2
      have hw500_1 := hx500_1
      have hw500_0 := hx500_0
      cases e500
      replace hx500_0 := (HB.out.cell (World.block_lt_of_cell? w _ hx500_0)).trans hx500_0
      replace hx500_1 := (HB.out.cell (World.block_lt_of_cell? w _ hx500_1)).trans hx500_1
      replace hx500_2 := (HB.out.cell (World.block_lt_of_cell? w _ hx500_2)).trans hx500_2
      replace hx500_3 := (HB.out.cell (World.block_lt_of_cell? w _ hx500_3)).trans hx500_3
      replace hx500_4 := (HB.out.cell (World.block_lt_of_cell? w _ hx500_4)).trans hx500_4
      replace hx500_5 := (HB.out.cell (World.block_lt_of_cell? w _ hx500_5)).trans hx500_5
      replace hx500_6 := (HB.out.cell (World.block_lt_of_cell? w _ hx500_6)).trans hx500_6
      replace hx500_7 := (HB.out.cell (World.block_lt_of_cell? w _ hx500_7)).trans hx500_7
      replace p500 := eq_true p500
      replace q500 := eq_true q500
      refine start_ (n := 12) (S := fun w' => w'.cell? ⟨gb499, 0, none⟩ = some (.bool a0_0) ∧ w'.cell? ⟨gb499, 1, none⟩ = some (u500001) ∧ w'.cell? ⟨gb499, 2, none⟩ = some (.slice A0_2 l0_2.length c0_2) ∧ w'.cell? ⟨gb499, 3, none⟩ = some (.slice A0_3 l0_3.length c0_3) ∧ w'.cell? ⟨gb497, 0, none⟩ = some (.bool a0_0) ∧ w'.cell? ⟨gb497, 1, none⟩ = some (.slice (some ad500) l0_1.length c0_1) ∧ w'.cell? ⟨gb497, 2, none⟩ = some (.slice A0_2 l0_2.length c0_2) ∧ w'.cell? ⟨gb497, 3, none⟩ = some (.slice A0_3 l0_3.length c0_3) ∧ w'.cell? (ad500.add ((x4_1).toNat * 8)) = some (.string ((rd_T56 l0_1 x4_1).f0)) ∧ w'.cell? ⟨(ad500.add ((x4_1).toNat * 8)).block, (ad500.add ((x4_1).toNat * 8)).off + 1, none⟩ = some (.int .i64 ((rd_T56 l0_1 x4_1).f1.f0)) ∧ w'.cell? ⟨(ad500.add ((x4_1).toNat * 8)).block, (ad500.add ((x4_1).toNat * 8)).off + 2, none⟩ = some (.float .f64 ((rd_T56 l0_1 x4_1).f1.f1)) ∧ w'.cell? ⟨(ad500.add ((x4_1).toNat * 8)).block, (ad500.add ((x4_1).toNat * 8)).off + 3, none⟩ = some (.string ((rd_T56 l0_1 x4_1).f1.f2)) ∧ w'.cell? ⟨(ad500.add ((x4_1).toNat * 8)).block, (ad500.add ((x4_1).toNat * 8)).off + 4, none⟩ = some (.int .i64 ((rd_T56 l0_1 x4_1).f2)) ∧ w'.cell? ⟨(ad500.add ((x4_1).toNat * 8)).block, (ad500.add ((x4_1).toNat * 8)).off + 5, none⟩ = some (.int .i64 ((rd_T56 l0_1 x4_1).f3.f0)) ∧ w'.cell? ⟨(ad500.add ((x4_1).toNat * 8)).block, (ad500.add ((x4_1).toNat * 8)).off + 6, none⟩ = some (.float .f64 ((rd_T56 l0_1 x4_1).f3.f1)) ∧ w'.cell? ⟨(ad500.add ((x4_1).toNat * 8)).block, (ad500.add ((x4_1).toNat * 8)).off + 7, none⟩ = some (.string ((rd_T56 l0_1 x4_1).f3.f2))) (ds := [11]) #[false, false, false, false, false, false, false, false, false, false, false, false] (by kernel_rfl) rfl rfl (bn4 BK499 (bn4 BK497 ⟨((HB.out.cell (World.block_lt_of_cell? w _ hw500_0)).trans hw500_0), ((HB.out.cell (World.block_lt_of_cell? w _ hw500_1)).trans hw500_1), ((HB.out.cell (World.block_lt_of_cell? w _ hw500_2)).trans hw500_2), ((HB.out.cell (World.block_lt_of_cell? w _ hw500_3)).trans hw500_3), ((HB.out.cell (World.block_lt_of_cell? w _ hw500_4)).trans hw500_4), ((HB.out.cell (World.block_lt_of_cell? w _ hw500_5)).trans hw500_5), ((HB.out.cell (World.block_lt_of_cell? w _ hw500_6)).trans hw500_6), ((HB.out.cell (World.block_lt_of_cell? w _ hw500_7)).trans hw500_7)⟩)) (fun hHeld => ?_); refine with_tabW engrosslaw11_Of.tab5 engrosslaw11_Of.bits5 (fun HT_ HW_ => ?_)
      generalize wr.drew = w17 at HO_498002 HO_498003 HO_500001 HO_500002 HO_500003 BK497 BK498 BK499 HB hx500_0 hx500_1 hx500_2 hx500_3 hx500_4 hx500_5 hx500_6 hx500_7 hHeld ⊢
      refine pure_ (i := 0) (N := some 19) (v := ?_) (a' := ?_) #[true, false, false, false, false, false, false, false, false, false, false, false] rfl rfl (any_of HT_.out (by kernel_rfl)) (fun _ _ _ h => h) (Or.inl ⟨by rfl, ?_⟩) ?_ ?_
      rotate_left
      ·intro w'
       go_simp
       with_reducible rfl
      rotate_left
      ·simp only [Act.put, List.setIfInBounds_toArray, List.set_cons_zero, List.set_cons_succ, i64_w, i32_w]
       rfl
      refine pure_ (i := 2) (N := some 21) (v := ?_) (a' := ?_) #[true, false, true, false, false, false, false, false, false, false, false, false] rfl rfl (any_of HT_.out (by kernel_rfl)) (fun _ _ _ h => h) (Or.inl ⟨by rfl, ?_⟩) ?_ ?_
      rotate_left
      ·intro w'
       go_simp
       with_reducible rfl
      rotate_left
      ·simp only [Act.put, List.setIfInBounds_toArray, List.set_cons_zero, List.set_cons_succ, i64_w, i32_w]
       rfl
      refine pure_ (i := 4) (N := some 23) (v := ?_) (a' := ?_) #[true, false, true, false, true, false, false, false, false, false, false, false] rfl rfl (any_of HT_.out (by kernel_rfl)) (fun _ _ _ h => h) (Or.inl ⟨by rfl, ?_⟩) ?_ ?_
      rotate_left
      ·intro w'
       go_simp
       with_reducible rfl
      rotate_left
      ·simp only [Act.put, List.setIfInBounds_toArray, List.set_cons_zero, List.set_cons_succ, i64_w, i32_w]
       rfl
      refine take_ (i := 1) (N := some 20) (v := ?_) (a' := ?_) #[true, true, true, false, true, false, false, false, false, false, false, false] rfl rfl (take_ofW HT_.out HW_.out (by kernel_rfl)) (fun _ _ _ h => h) (Or.inl ⟨by rfl, ?_⟩) hHeld ?_ ?_
      rotate_left
      ·rintro w' ⟨s0, s1, s2, s3, s4, s5, s6, s7, s8, s9, s10, s11, s12, s13, s14, s15⟩
       go_simp
       with_reducible rfl
      rotate_left
      ·simp only [Act.put, List.setIfInBounds_toArray, List.set_cons_zero, List.set_cons_succ, i64_w, i32_w]
       rfl
      refine take_ (i := 3) (N := some 22) (v := ?_) (a' := ?_) #[true, true, true, true, true, false, false, false, false, false, false, false] rfl rfl (take_ofW HT_.out HW_.out (by kernel_rfl)) (fun _ _ _ h => h) (Or.inl ⟨by rfl, ?_⟩) hHeld ?_ ?_
      rotate_left
      ·rintro w' ⟨s0, s1, s2, s3, s4, s5, s6, s7, s8, s9, s10, s11, s12, s13, s14, s15⟩
       go_simp
       with_reducible rfl
      rotate_left
      ·simp only [Act.put, List.setIfInBounds_toArray, List.set_cons_zero, List.set_cons_succ, i64_w, i32_w]
       rfl
      refine pure_ (i := 5) (N := some 24) (v := ?_) (a' := ?_) #[true, true, true, true, true, true, false, false, false, false, false, false] rfl rfl (any_of HT_.out (by kernel_rfl)) (fun _ _ _ h => h) (Or.inl ⟨by rfl, ?_⟩) ?_ ?_
      rotate_left
      ·intro w'
       go_simp
       with_reducible rfl
      rotate_left
      ·simp only [Act.put, List.setIfInBounds_toArray, List.set_cons_zero, List.set_cons_succ, i64_w, i32_w]
       rfl
      refine take_ (i := 6) (N := some 25) (v := ?_) (a' := ?_) #[true, true, true, true, true, true, true, false, false, false, false, false] rfl rfl (take_ofW HT_.out HW_.out (by kernel_rfl)) (fun _ _ _ h => h) (Or.inl ⟨by rfl, ?_⟩) hHeld ?_ ?_
      rotate_left
      ·rintro w' ⟨s0, s1, s2, s3, s4, s5, s6, s7, s8, s9, s10, s11, s12, s13, s14, s15⟩
       go_simp
       with_reducible rfl
      rotate_left
      ·simp only [Act.put, List.setIfInBounds_toArray, List.set_cons_zero, List.set_cons_succ, i64_w, i32_w]
       rfl
      refine one_ (i := 7) (N := some 26) #[true, true, true, true, true, true, true, true, false, false, false, false] rfl rfl (one_of HT_.out (by kernel_rfl)) (by decide) (fun K hK => ?_)
      refine goes_ Try.func35 (by kernel_rfl) rfl #[.agg #[.string ((rd_T56 l0_1 x4_1).f0), .int .i64 ((rd_T56 l0_1 x4_1).f1.f0), .float .f64 ((rd_T56 l0_1 x4_1).f1.f1), .string ((rd_T56 l0_1 x4_1).f1.f2), .int .i64 ((rd_T56 l0_1 x4_1).f2), .int .i64 ((rd_T56 l0_1 x4_1).f3.f0), .float .f64 ((rd_T56 l0_1 x4_1).f3.f1), .string ((rd_T56 l0_1 x4_1).f3.f2)]] (by rfl) rfl rfl (by (try simp only [List.map_toArray, List.map_cons, List.map_nil]); first | done | rfl | (simp only [List.length_drop, List.length_take]; rfl)) ?_
      with_reducible refine (engrosslaw10_Of.calls ((rd_T56 l0_1 x4_1).f0) ((rd_T56 l0_1 x4_1).f1.f0) ((rd_T56 l0_1 x4_1).f1.f1) ((rd_T56 l0_1 x4_1).f1.f2) ((rd_T56 l0_1 x4_1).f2) ((rd_T56 l0_1 x4_1).f3.f0) ((rd_T56 l0_1 x4_1).f3.f1) ((rd_T56 l0_1 x4_1).f3.f2) t501 t502 t503 t504 t505 t506 t507 t508 _ A12.out).mono ?_
      rintro e w18 ⟨rfl, hb⟩
      refine ⟨_, rfl, ?_⟩
      replace HO_498002 := Aside0.mk (Kd.V_below (by (with_reducible repeat (first | apply Kd.V_alloc | apply Kd.V_drewN | apply Kd.V_drew)); exact HO_498002.out) hb)
      replace HO_498003 := Aside0.mk (Kd.V_below (by (with_reducible repeat (first | apply Kd.V_alloc | apply Kd.V_drewN | apply Kd.V_drew)); exact HO_498003.out) hb)
      replace HO_500001 := Aside0.mk (Kd.R_below (by (with_reducible repeat (first | apply Kd.R_alloc | apply Kd.R_drewN | apply Kd.R_drew)); exact HO_500001.out) hb)
      replace HO_500002 := Aside0.mk (Kd.V_below (by (with_reducible repeat (first | apply Kd.V_alloc | apply Kd.V_drewN | apply Kd.V_drew)); exact HO_500002.out) hb)
      replace HO_500003 := Aside0.mk (Kd.V_below (by (with_reducible repeat (first | apply Kd.V_alloc | apply Kd.V_drewN | apply Kd.V_drew)); exact HO_500003.out) hb)
      replace BK497 := bB BK497 hb
      replace BK498 := bB BK498 hb
      replace BK499 := bB BK499 hb
      replace HB := bW HB hb
      (try clear hb)
      (try clear hb2)
      (try clear hk)
      (try clear hi)
      refine hK.out _ _ (bn4 BK499 (bn4 BK497 ⟨((HB.out.cell (World.block_lt_of_cell? w _ hw500_0)).trans hw500_0), ((HB.out.cell (World.block_lt_of_cell? w _ hw500_1)).trans hw500_1), ((HB.out.cell (World.block_lt_of_cell? w _ hw500_2)).trans hw500_2), ((HB.out.cell (World.block_lt_of_cell? w _ hw500_3)).trans hw500_3), ((HB.out.cell (World.block_lt_of_cell? w _ hw500_4)).trans hw500_4), ((HB.out.cell (World.block_lt_of_cell? w _ hw500_5)).trans hw500_5), ((HB.out.cell (World.block_lt_of_cell? w _ hw500_6)).trans hw500_6), ((HB.out.cell (World.block_lt_of_cell? w _ hw500_7)).trans hw500_7)⟩)) (fun hHeld => ?_)
      clear hK K
      refine norm_ (a' := ?_) ?_ ?_
      rotate_left
      ·show Act.put _ (some 26) _ = _
       simp only [Act.put, List.setIfInBounds_toArray, List.set_cons_zero, List.set_cons_succ, i64_w, i32_w]
       rfl
      refine one_ (i := 8) (N := some 27) #[true, true, true, true, true, true, true, true, true, false, false, false] rfl rfl (one_of HT_.out (by kernel_rfl)) (by decide) (fun K hK => ?_)
      refine value_ (w1 := ?_) (v := ?_) (by rfl) rfl ?_ ?_
      rotate_left 2
      ·go_simp
       constructor
       ·rfl
       ·rfl
      refine hK.out _ _ ⟨(blk_cell (blk_alloc BK499.out _) 0).trans rfl, (blk_cell (blk_alloc BK499.out _) 1).trans rfl, (blk_cell (blk_alloc BK499.out _) 2).trans rfl, (blk_cell (blk_alloc BK499.out _) 3).trans rfl, (blk_cell (blk_alloc BK497.out _) 0).trans rfl, (blk_cell (blk_alloc BK497.out _) 1).trans rfl, (blk_cell (blk_alloc BK497.out _) 2).trans rfl, (blk_cell (blk_alloc BK497.out _) 3).trans rfl, (World.cell?_alloc_lt _ _ _ (World.block_lt_of_cell? _ _ (((HB.out.cell (World.block_lt_of_cell? w _ hw500_0)).trans hw500_0)))).trans (((HB.out.cell (World.block_lt_of_cell? w _ hw500_0)).trans hw500_0)), (World.cell?_alloc_lt _ _ _ (World.block_lt_of_cell? _ _ (((HB.out.cell (World.block_lt_of_cell? w _ hw500_1)).trans hw500_1)))).trans (((HB.out.cell (World.block_lt_of_cell? w _ hw500_1)).trans hw500_1)), (World.cell?_alloc_lt _ _ _ (World.block_lt_of_cell? _ _ (((HB.out.cell (World.block_lt_of_cell? w _ hw500_2)).trans hw500_2)))).trans (((HB.out.cell (World.block_lt_of_cell? w _ hw500_2)).trans hw500_2)), (World.cell?_alloc_lt _ _ _ (World.block_lt_of_cell? _ _ (((HB.out.cell (World.block_lt_of_cell? w _ hw500_3)).trans hw500_3)))).trans (((HB.out.cell (World.block_lt_of_cell? w _ hw500_3)).trans hw500_3)), (World.cell?_alloc_lt _ _ _ (World.block_lt_of_cell? _ _ (((HB.out.cell (World.block_lt_of_cell? w _ hw500_4)).trans hw500_4)))).trans (((HB.out.cell (World.block_lt_of_cell? w _ hw500_4)).trans hw500_4)), (World.cell?_alloc_lt _ _ _ (World.block_lt_of_cell? _ _ (((HB.out.cell (World.block_lt_of_cell? w _ hw500_5)).trans hw500_5)))).trans (((HB.out.cell (World.block_lt_of_cell? w _ hw500_5)).trans hw500_5)), (World.cell?_alloc_lt _ _ _ (World.block_lt_of_cell? _ _ (((HB.out.cell (World.block_lt_of_cell? w _ hw500_6)).trans hw500_6)))).trans (((HB.out.cell (World.block_lt_of_cell? w _ hw500_6)).trans hw500_6)), (World.cell?_alloc_lt _ _ _ (World.block_lt_of_cell? _ _ (((HB.out.cell (World.block_lt_of_cell? w _ hw500_7)).trans hw500_7)))).trans (((HB.out.cell (World.block_lt_of_cell? w _ hw500_7)).trans hw500_7))⟩ (fun hHeld => ?_)
      clear hK K
      refine norm_ (a' := ?_) ?_ ?_
      rotate_left
      ·show Act.put _ (some 27) _ = _
       simp only [Act.put, List.setIfInBounds_toArray, List.set_cons_zero, List.set_cons_succ, i64_w, i32_w]
       rfl
      refine one_ (i := 9) (N := some 28) #[true, true, true, true, true, true, true, true, true, true, false, false] rfl rfl (one_of HT_.out (by kernel_rfl)) (by decide) (fun K hK => ?_)
      refine Kd.R_append_step k62 (w0 := w) w.heap.size (by rfl) (.tmp 20) (.tmp 27) 34 62 (.agg #[(.string ⟨#[]⟩), (.int .i64 0), (.float .f64 0), (.string ⟨#[]⟩), (.int .i64 0), (.int .i64 0), (.float .f64 0), (.string ⟨#[]⟩)]) 88 rfl Try.underlying34 info62 rfl (by decide) (by omega) u500001 x500001_1 (⟨t501, (⟨t502, t503, t504⟩ : S54), t505, (⟨t506, t507, t508⟩ : S54)⟩ : S62) [.string t501, .int .i64 t502, .float .f64 t503, .string t504, .int .i64 t505, .int .i64 t506, .float .f64 t507, .string t508] (fun k_ => (w.heap.size ≤ k_)) (fun _ => False) rfl rfl ?aP (fun _ hk => hk.elim) ?aF ?aO ?aB ?aS ?aL ?_
      (case aP => exact k62_mkM _ _ _ (⟨t501, (⟨t502, t503, t504⟩ : S54), t505, (⟨t506, t507, t508⟩ : S54)⟩ : S62))
      (case aB => exact (bC HB))
      (case aF => exact (fun k_ hk => (Nat.le_trans (below_size (bC HB)) hk)))
      (case aO => exact (by (with_reducible repeat (first | apply Kd.R_alloc | apply Kd.R_drewN | apply Kd.R_drew)); exact HO_500001.out))
      (case aS => exact (below_size (bC HB)))
      (case aL => have := LMc13.out; omega)
      intro v510 w19 ho hb hg hat
      rw [← Ny509.out] at ho
      have HO511 := Aside0.mk (ho)
      replace HO_498002 := Aside0.mk (Kd.V_afterv (ok := (fun k_ => ((P0_2_ k_ ∨ P0_3_ k_) ∨ w.heap.size ≤ k_) ∧ k_ ≠ gb497 ∧ k_ ≠ gb498 ∧ k_ ≠ gb499)) (by (with_reducible repeat (first | apply Kd.V_alloc | apply Kd.V_drewN | apply Kd.V_drew)); exact Kd.V_mono HO_498002.out (fun _ hk => ⟨⟨hk.1, ⟨hk.2.2.1, ⟨hk.2.2.2.1, hk.2.2.2.2⟩⟩⟩, hk.2.1⟩)) hg hat)
      replace HO_498003 := Aside0.mk (Kd.V_afterv (ok := (fun k_ => ((P0_2_ k_ ∨ P0_3_ k_) ∨ w.heap.size ≤ k_) ∧ k_ ≠ gb497 ∧ k_ ≠ gb498 ∧ k_ ≠ gb499)) (by (with_reducible repeat (first | apply Kd.V_alloc | apply Kd.V_drewN | apply Kd.V_drew)); exact Kd.V_mono HO_498003.out (fun _ hk => ⟨⟨hk.1, ⟨hk.2.2.1, ⟨hk.2.2.2.1, hk.2.2.2.2⟩⟩⟩, hk.2.1⟩)) hg hat)
      replace HO_500002 := Aside0.mk (Kd.V_afterv (ok := (fun k_ => ((P0_2_ k_ ∨ P0_3_ k_) ∨ w.heap.size ≤ k_) ∧ k_ ≠ gb497 ∧ k_ ≠ gb498 ∧ k_ ≠ gb499)) (by (with_reducible repeat (first | apply Kd.V_alloc | apply Kd.V_drewN | apply Kd.V_drew)); exact Kd.V_mono HO_500002.out (fun _ hk => ⟨⟨hk.1, ⟨hk.2.2.1, ⟨hk.2.2.2.1, hk.2.2.2.2⟩⟩⟩, hk.2.1⟩)) hg hat)
      replace HO_500003 := Aside0.mk (Kd.V_afterv (ok := (fun k_ => ((P0_2_ k_ ∨ P0_3_ k_) ∨ w.heap.size ≤ k_) ∧ k_ ≠ gb497 ∧ k_ ≠ gb498 ∧ k_ ≠ gb499)) (by (with_reducible repeat (first | apply Kd.V_alloc | apply Kd.V_drewN | apply Kd.V_drew)); exact Kd.V_mono HO_500003.out (fun _ hk => ⟨⟨hk.1, ⟨hk.2.2.1, ⟨hk.2.2.2.1, hk.2.2.2.2⟩⟩⟩, hk.2.1⟩)) hg hat)
      replace BK497 := Aside0.mk (blk_grown (bQ BK497) hg (Kd.R_ne HO_500001.out BK497.out (by decide)))
      replace BK498 := Aside0.mk (blk_grown (bQ BK498) hg (Kd.R_ne HO_500001.out BK498.out (by decide)))
      replace BK499 := Aside0.mk (blk_grown (bQ BK499) hg (Kd.R_ne HO_500001.out BK499.out (by decide)))
      replace HB := Aside0.mk (hb)
      clear HO_500001
      clear ho hb hg hat
      obtain ⟨Ao20, co20, eo20⟩ := Kd.R_slice HO511.out
      (first | subst eo20 | (injection eo20 with f1_ f2_ f3_; have f4_ := f1_.symm; have f5_ := f3_.symm; clear f1_ f2_ f3_; subst f4_; subst f5_))
      refine hK.out _ _ (bn4 BK499 (bn4 BK497 ⟨((HB.out.cell (World.block_lt_of_cell? w _ hw500_0)).trans hw500_0), ((HB.out.cell (World.block_lt_of_cell? w _ hw500_1)).trans hw500_1), ((HB.out.cell (World.block_lt_of_cell? w _ hw500_2)).trans hw500_2), ((HB.out.cell (World.block_lt_of_cell? w _ hw500_3)).trans hw500_3), ((HB.out.cell (World.block_lt_of_cell? w _ hw500_4)).trans hw500_4), ((HB.out.cell (World.block_lt_of_cell? w _ hw500_5)).trans hw500_5), ((HB.out.cell (World.block_lt_of_cell? w _ hw500_6)).trans hw500_6), ((HB.out.cell (World.block_lt_of_cell? w _ hw500_7)).trans hw500_7)⟩)) (fun hHeld => ?_)
      clear hK K
      refine norm_ (a' := ?_) ?_ ?_
      rotate_left
      ·show Act.put _ (some 28) _ = _
       simp only [Act.put, List.setIfInBounds_toArray, List.set_cons_zero, List.set_cons_succ, i64_w, i32_w]
       rfl
      refine pure_ (i := 10) (N := some 29) (v := ?_) (a' := ?_) #[true, true, true, true, true, true, true, true, true, true, true, false] rfl rfl (any_of HT_.out (by kernel_rfl)) (fun _ _ _ h => h) (Or.inl ⟨by rfl, ?_⟩) ?_ ?_
      rotate_left
      ·intro w'
       go_simp
       with_reducible rfl
      rotate_left
      ·simp only [Act.put, List.setIfInBounds_toArray, List.set_cons_zero, List.set_cons_succ, i64_w, i32_w]
       rfl
      refine last_ (i := 11) (N := none) #[true, true, true, true, true, true, true, true, true, true, true, true] rfl rfl (one_of HT_.out (by kernel_rfl)) (by decide) (fun K hK => ?_)
      have hs21 : w19.cell? ⟨gb499, 1, none⟩ = some (u500001) := (blk_cell BK499.out 1).trans rfl
      have hfs21 := blk_frozen BK499.out 1
      have hns21_0 := NB497_499.out
      have hns21_1 := NB498_499.out
      have hms21_0 := NB499_497.out
      have hms21_1 := NB499_498.out
      with_reducible refine skip_ (w1 := ?_) (by with_unfolding_all rfl) (by with_unfolding_all rfl) ?_ ?_
      rotate_left
      ·go_simp
       rfl
      refine hK.out _ _ ?_
      clear hK K
      refine done_ (done_of HT_.out (by kernel_rfl)) ?_
      try go_wp2
      go_roundg k1
      case measure => have := HK1.out; omega
      case rel => exact ⟨(wrap64 (x4_1 + 1)), (y509), (.slice Ao20 y509.length co20), (by first | rfl | (simp; done) | (simp [*]; done)), H', ⟨by have := HK1.out; omega⟩, ⟨by (with_reducible repeat (first | apply Kd.V_alloc | apply Kd.V_drewN | apply Kd.V_drew)); exact Kd.V_mono (Kd.V_far (p := ⟨gb499, 1, none⟩) (Kd.V_mono HO_498002.out (fun k_ hk => (⟨hk, hk.1.2.2.2⟩ : _ ∧ k_ ≠ gb499))) (fun _ hk => hk.2) (.slice Ao20 y509.length co20)) (fun _ hk => ⟨hk.1.1.1, ⟨hk.1.2, ⟨hk.1.1.2.1, ⟨hk.1.1.2.2.1, hk.1.1.2.2.2⟩⟩⟩⟩)⟩, ⟨by (with_reducible repeat (first | apply Kd.V_alloc | apply Kd.V_drewN | apply Kd.V_drew)); exact Kd.V_mono (Kd.V_far (p := ⟨gb499, 1, none⟩) (Kd.V_mono HO_498003.out (fun k_ hk => (⟨hk, hk.1.2.2.2⟩ : _ ∧ k_ ≠ gb499))) (fun _ hk => hk.2) (.slice Ao20 y509.length co20)) (fun _ hk => ⟨hk.1.1.1, ⟨hk.1.2, ⟨hk.1.1.2.1, ⟨hk.1.1.2.2.1, hk.1.1.2.2.2⟩⟩⟩⟩)⟩, ⟨by (with_reducible repeat (first | apply Kd.R_alloc | apply Kd.R_drewN | apply Kd.R_drew)); exact Kd.R_mono (Kd.R_far (p := ⟨gb499, 1, none⟩) (Kd.R_types HO511.out BK499.out (by decide)) (fun _ hk => hk.2) (.slice Ao20 y509.length co20)) (fun _ hk => hk.1)⟩, ⟨by (with_reducible repeat (first | apply Kd.V_alloc | apply Kd.V_drewN | apply Kd.V_drew)); exact Kd.V_mono (Kd.V_far (p := ⟨gb499, 1, none⟩) (Kd.V_mono HO_500002.out (fun k_ hk => (⟨hk, hk.1.2.2.2⟩ : _ ∧ k_ ≠ gb499))) (fun _ hk => hk.2) (.slice Ao20 y509.length co20)) (fun _ hk => ⟨hk.1.1.1, ⟨hk.1.2, ⟨hk.1.1.2.1, ⟨hk.1.1.2.2.1, hk.1.1.2.2.2⟩⟩⟩⟩)⟩, ⟨by (with_reducible repeat (first | apply Kd.V_alloc | apply Kd.V_drewN | apply Kd.V_drew)); exact Kd.V_mono (Kd.V_far (p := ⟨gb499, 1, none⟩) (Kd.V_mono HO_500003.out (fun k_ hk => (⟨hk, hk.1.2.2.2⟩ : _ ∧ k_ ≠ gb499))) (fun _ hk => hk.2) (.slice Ao20 y509.length co20)) (fun _ hk => ⟨hk.1.1.1, ⟨hk.1.2, ⟨hk.1.1.2.1, ⟨hk.1.1.2.2.1, hk.1.1.2.2.2⟩⟩⟩⟩)⟩, ⟨by (with_reducible repeat (first | refine blk_drewN ?_ _ | refine blk_drew ?_ | refine blk_alloc ?_ _)); refine blk_far ?_ NB497_499.out _; (with_reducible repeat (first | refine blk_drewN ?_ _ | refine blk_drew ?_ | refine blk_alloc ?_ _)); exact BK497.out⟩, ⟨by (with_reducible repeat (first | refine blk_drewN ?_ _ | refine blk_drew ?_ | refine blk_alloc ?_ _)); refine blk_far ?_ NB498_499.out _; (with_reducible repeat (first | refine blk_drewN ?_ _ | refine blk_drew ?_ | refine blk_alloc ?_ _)); exact BK498.out⟩, ⟨by (with_reducible repeat (first | refine blk_drewN ?_ _ | refine blk_drew ?_ | refine blk_alloc ?_ _)); refine blk_put (cs := #[.bool a0_0, u500001, .slice A0_2 l0_2.length c0_2, .slice A0_3 l0_3.length c0_3]) ?_ 1 _ rfl; (with_reducible repeat (first | refine blk_drewN ?_ _ | refine blk_drew ?_ | refine blk_alloc ?_ _)); exact BK499.out⟩, ⟨by repeat (first | (with_reducible first | exact HB.out | apply below_alloc | apply pw_below_drewN | apply below_drew1 | refine below_set ?_ GE497.out | refine below_set ?_ GE498.out | refine below_set ?_ GE499.out) | exact HB.out)⟩⟩
     ·rw [if_neg c13] at H
      exact absurd H (by simp)
    ·rw [if_neg c11] at H
     exact absurd H (by simp)
   ·rw [if_neg c10] at H
    have c10b0 : decide (x4_1 < (l0_1.length : Int)) = false := decide_eq_false c10
    clear c10
    simp only [Option.some.injEq, Prod.mk.injEq] at H
    obtain ⟨rfl, rfl, rfl, rfl⟩ := H
    have hnb22 := NB497_498.out
    have hnc22 := NB498_497.out
    have hnb23 := NB497_499.out
    have hnc23 := NB499_497.out
    obtain ⟨hcz24_0, hcz24_1, hcz24_2, hcz24_3, hfz24_0, hfz24_1, hfz24_2, hfz24_3⟩ := bf4 (w := wr) BK497
    have hnb25 := NB499_498.out
    have hnc25 := NB498_499.out
    obtain ⟨hcz26_0, hcz26_1, hcz26_2, hcz26_3, hfz26_0, hfz26_1, hfz26_2, hfz26_3⟩ := bf4 (w := wr) BK499
    obtain ⟨hcz27_0, hcz27_1, hcz27_2, hcz27_3, hfz27_0, hfz27_1, hfz27_2, hfz27_3⟩ := bf4 (w := wr) BK498
    obtain ⟨Ao28, co28, eo28⟩ := Kd.R_slice HO_500001.out
    subst eo28
    go_wp2
    refine bodyPost_ret (results_cell_row rfl _ _ gb498 36 #[.bool a0_0, .slice Ao28 x500001_1.length co28, .slice A0_2 l0_2.length c0_2, .slice A0_3 l0_3.length c0_3] (0, 0) _ rfl (bR BK498) Try.underlying36 rfl (by kernel_rfl)) rfl ?_
    exact ⟨_, _, _, by first | rfl | (simp [errW_none, errW_some] <;> rfl) | (simp [*, errW_none, errW_some] <;> rfl), by (with_reducible repeat (first | apply Kd.R_alloc | apply Kd.R_drewN | apply Kd.R_drew)); exact Kd.R_mono (Kd.R_far (p := ⟨gb498, 3, none⟩) (Kd.R_far (p := ⟨gb498, 2, none⟩) (Kd.R_far (p := ⟨gb498, 1, none⟩) (Kd.R_far (p := ⟨gb498, 0, none⟩) (Kd.R_types HO_500001.out BK498.out (by decide)) (fun _ hk => hk.2) (.bool a0_0)) (fun _ hk => hk.2) (.slice Ao28 x500001_1.length co28)) (fun _ hk => hk.2) (.slice A0_2 l0_2.length c0_2)) (fun _ hk => hk.2) (.slice A0_3 l0_3.length c0_3)) (fun _ hk => hk.1), by (with_reducible repeat (first | apply Kd.V_alloc | apply Kd.V_drewN | apply Kd.V_drew)); exact Kd.V_mono (Kd.V_far (p := ⟨gb498, 3, none⟩) (Kd.V_far (p := ⟨gb498, 2, none⟩) (Kd.V_far (p := ⟨gb498, 1, none⟩) (Kd.V_far (p := ⟨gb498, 0, none⟩) (Kd.V_mono HO_500002.out (fun k_ hk => (⟨hk, hk.2.2.2.1⟩ : _ ∧ k_ ≠ gb498))) (fun _ hk => hk.2) (.bool a0_0)) (fun _ hk => hk.2) (.slice Ao28 x500001_1.length co28)) (fun _ hk => hk.2) (.slice A0_2 l0_2.length c0_2)) (fun _ hk => hk.2) (.slice A0_3 l0_3.length c0_3)) (fun _ hk => ⟨hk.1.1, hk.1.2.1⟩), by (with_reducible repeat (first | apply Kd.V_alloc | apply Kd.V_drewN | apply Kd.V_drew)); exact Kd.V_mono (Kd.V_far (p := ⟨gb498, 3, none⟩) (Kd.V_far (p := ⟨gb498, 2, none⟩) (Kd.V_far (p := ⟨gb498, 1, none⟩) (Kd.V_far (p := ⟨gb498, 0, none⟩) (Kd.V_mono HO_500003.out (fun k_ hk => (⟨hk, hk.2.2.2.1⟩ : _ ∧ k_ ≠ gb498))) (fun _ hk => hk.2) (.bool a0_0)) (fun _ hk => hk.2) (.slice Ao28 x500001_1.length co28)) (fun _ hk => hk.2) (.slice A0_2 l0_2.length c0_2)) (fun _ hk => hk.2) (.slice A0_3 l0_3.length c0_3)) (fun _ hk => ⟨hk.1.1, hk.1.2.1⟩), by repeat (first | (with_reducible first | exact HB.out | apply below_alloc | apply pw_below_drewN | apply below_drew1 | refine below_set ?_ GE497.out | refine below_set ?_ GE498.out | refine below_set ?_ GE499.out) | exact HB.out)⟩
end Go.Proofs.Ytmmjpieafbjggaa.P
end
section
namespace Go.Proofs.Ytmmjpieafbjggaa.P
open Go.RowKit Go.Proofs.YtmmjpieafbjggaaW.PrintWords Go.Proofs.YtmmjpieafbjggaaW.PrintLast Go.Proofs.YtmmjpieafbjggaaW.PrintMore
attribute [local go_sem] max2_int min2_int max_two min_two max_three min_three max_four min_four   -- for this text's walks alone
attribute [local go_sem] x_str_gtr x_str_leq x_str_geq ext_bits ext_frombits ext_neg x_store_float Instr.field asAgg
set_option linter.unusedVariables false
set_option linter.unusedSimpArgs false
mutual
def engrosslaw11_NodeKids.j0 : Nat → Int → ByteArray → Bool → Option (Bool)
 | 0, _, _, _ => none
 | k + 1, x0, x1, x22 => if x22 = true then (some true) else (engrosslaw11_NodeKids.l0 k x0 x1 0 false ([] : List ByteArray) ([] : List Int))
def engrosslaw11_NodeKids.l0 : Nat → Int → ByteArray → Int → Bool → List ByteArray → List Int → Option (Bool)
 | 0, _, _, _, _, _, _ => none
 | k + 1, x0, x1, x7, x865000, x865002, x865003 => if x7 < x0 then (if x865003.length < 17592186044416 then ((some (x865003 ++ [wrap64 (2 + x7)] : List Int)).bind fun y865 => (if x7 > 0 then (if x865002.length < 8796093022208 then (engrosslaw11_NodeKids.l0 k x0 x1 (wrap64 (x7 + 1)) x865000 (x865002 ++ [strOfNums (([(wrap64 (97 + x7)) % 256] : List Int))]) y865) else (none)) else (engrosslaw11_NodeKids.l0 k x0 x1 (wrap64 (x7 + 1)) x865000 x865002 y865))) else (none)) else ((engrosslaw11_Of.f k x865000 ([] : List (S56)) x865002 x865003).bind fun bt874 => ((node_Kid.f k bt874.1 bt874.2.1 bt874.2.2.1 bt874.2.2.2 x1).bind fun t884 => (if t884 < 0 then (none) else (if t884 ≥ x0 then (none) else (if t884 = 0 then (if t884 = (wrap64 (x0 - 1)) then (some true) else (if 0 ≤ t884 then (if t884 < (x865002.length : Int) then (some (Op.bytesLess x1.toList ((rdOf ByteArray.empty x865002 t884).toList))) else (none)) else (none))) else (if 0 ≤ (wrap64 (t884 - 1)) then (if (wrap64 (t884 - 1)) < (x865002.length : Int) then (if ((Op.bytesLess x1.toList ((rdOf ByteArray.empty x865002 (wrap64 (t884 - 1))).toList)) = true) then (none) else (if t884 = (wrap64 (x0 - 1)) then (some true) else (if 0 ≤ t884 then (if t884 < (x865002.length : Int) then (some (Op.bytesLess x1.toList ((rdOf ByteArray.empty x865002 t884).toList))) else (none)) else (none)))) else (none)) else (none)))))))
end
def engrosslaw11_NodeKids.f (k : Nat) (a0 : Int) (a1 : ByteArray) : Option (Bool) := (engrosslaw11_begun.f k).bind fun t863 => (if t863 = true then (if a0 < 1 then (engrosslaw11_NodeKids.j0 k a0 a1 true) else (if a0 > 20 then (engrosslaw11_NodeKids.j0 k a0 a1 true) else (engrosslaw11_NodeKids.j0 k a0 a1 (decide ((a1.size : Int) > 16))))) else (none))
set_option maxHeartbeats 8000000 in
set_option maxRecDepth 100000 in
theorem engrosslaw11_NodeKids.calls (k : Nat) (a0 : Int) (a1 : ByteArray) (r : Bool) (w : World) (h : engrosslaw11_NodeKids.f k a0 a1 = some r) :
  Calls Try.prog 8 #[.int .i64 a0, .string a1] w fun e w' => e = .returned (.bool r) ∧ Below w.heap.size w w' := by
 have hu26 := Try.underlying26
 have HB := Aside0.mk (Below.refl w.heap.size w)
 have H : ((engrosslaw11_begun.f k).bind fun t863 => (if t863 = true then (if a0 < 1 then (engrosslaw11_NodeKids.j0 k a0 a1 true) else (if a0 > 20 then (engrosslaw11_NodeKids.j0 k a0 a1 true) else (engrosslaw11_NodeKids.j0 k a0 a1 (decide ((a1.size : Int) > 16))))) else (none))) = some r := h
 clear h
 replace H := Option.bind_eq_some_iff.mp H
 obtain ⟨t863, A30, H⟩ := H
 replace H : (if t863 = true then (if a0 < 1 then (engrosslaw11_NodeKids.j0 k a0 a1 true) else (if a0 > 20 then (engrosslaw11_NodeKids.j0 k a0 a1 true) else (engrosslaw11_NodeKids.j0 k a0 a1 (decide ((a1.size : Int) > 16))))) else (none)) = some r := H
 have A3 := Aside0.mk A30
 clear A30
 by_cases c4 : t863 = true
 ·subst c4
  have H1 : (if a0 < 1 then (engrosslaw11_NodeKids.j0 k a0 a1 true) else (if a0 > 20 then (engrosslaw11_NodeKids.j0 k a0 a1 true) else (engrosslaw11_NodeKids.j0 k a0 a1 (decide ((a1.size : Int) > 16))))) = some r := by rw [if_pos rfl] at H; exact H
  clear H
  have H := H1
  clear H1
  have HC5 := Aside0.mk H
  clear H
  go_enter Try.func8, Try.ntmps8
  go_upto_region 4 with (first | ((with_reducible refine gate_callee (f := 11) rfl ?_); refine goesL_ (some 9) rfl rfl Try.func11 (by kernel_rfl) rfl #[] rfl (by (try simp only [List.map_toArray, List.map_cons, List.map_nil]); first | done | rfl | (simp only [List.length_drop, List.length_take]; rfl)) ?_; (with_reducible refine (engrosslaw11_begun.calls k  true _ A3.out).mono ?_); rintro e w6 ⟨rfl, hb⟩; refine ⟨_, rfl, ?_⟩; replace HB := bW HB hb; (try clear hb); (try clear hb2); (try clear hk); (try clear hi)))
  (try simp only [Act.put, List.setIfInBounds_toArray, List.set_cons_zero, List.set_cons_succ])
  go_cut [22] (fun v22 wc => ∃ (kq : Nat) (x22_4 : Bool), v22 = .bool x22_4 ∧ Aside0 (engrosslaw11_NodeKids.j0 kq a0 a1 x22_4 = some r) ∧ Aside0 (kq ≤ k) ∧ Aside0 (Below w.heap.size w wc))
  case first =>
   have H := HC5.out
   clear HC5
   by_cases c7 : a0 < 1
   ·rw [if_pos c7] at H
    have c7b0 : decide (a0 < 1) = true := decide_eq_true c7
    clear c7
    (first | rw [c7b0] | (simp only [i64_w, i32_w]; rw [c7b0]) | skip)
    have H' := Aside0.mk H
    clear H
    go_wp2
    go_meet
    case rel => exact ⟨_, (true), (by first | rfl | (simp; done) | (simp [*]; done)), H', ⟨by first | omega | exact Nat.le_refl _⟩, ⟨by repeat (first | (with_reducible first | exact HB.out | apply below_alloc | apply pw_below_drewN | apply below_drew1) | exact HB.out)⟩⟩
   ·rw [if_neg c7] at H
    have c7b0 : decide (a0 < 1) = false := decide_eq_false c7
    clear c7
    (first | rw [c7b0] | (simp only [i64_w, i32_w]; rw [c7b0]) | skip)
    by_cases c8 : a0 > 20
    ·rw [if_pos c8] at H
     have c8b0 : decide (20 < a0) = true := decide_eq_true c8
     clear c8
     have H' := Aside0.mk H
     clear H
     go_wp2
     go_meet
     case rel => exact ⟨_, (true), (by first | rfl | (simp; done) | (simp [*]; done)), H', ⟨by first | omega | exact Nat.le_refl _⟩, ⟨by repeat (first | (with_reducible first | exact HB.out | apply below_alloc | apply pw_below_drewN | apply below_drew1) | exact HB.out)⟩⟩
    ·rw [if_neg c8] at H
     have c8b0 : decide (20 < a0) = false := decide_eq_false c8
     clear c8
     have H' := Aside0.mk H
     clear H
     go_wp2
     go_meet
     case rel => exact ⟨_, (decide ((a1.size : Int) > 16)), (by first | rfl | (simp; done) | (simp [*]; done)), H', ⟨by first | omega | exact Nat.le_refl _⟩, ⟨by repeat (first | (with_reducible first | exact HB.out | apply below_alloc | apply pw_below_drewN | apply below_drew1) | exact HB.out)⟩⟩
  case rest =>
   clear HC5
   try clear c1
   try clear p2
   try clear c4
   try clear c7
   try clear c7b0
   try clear c8
   try clear c8b0
   obtain ⟨kq, x22_4, rfl, HA, HJ4, HB⟩ := hcut
   cases kq with
   | zero => exact absurd HA.out (by simp [engrosslaw11_NodeKids.j0])
   | succ kj4 =>
    have H := HA.out
    clear HA
    simp only [engrosslaw11_NodeKids.j0] at H
    by_cases c9 : x22_4 = true
    ·subst c9
     have H1 : (some true) = some r := by rw [if_pos rfl] at H; exact H
     clear H
     have H := H1
     clear H1
     obtain rfl := Option.some.inj H
     go_wp2
     go_ret
     exact ⟨by first | rfl | (simp [errW_none, errW_some] <;> rfl) | (simp [*, errW_none, errW_some] <;> rfl), by repeat (first | (with_reducible first | exact HB.out | apply below_alloc | apply pw_below_drewN | apply below_drew1) | exact HB.out)⟩
    ·replace c9 := Bool.eq_false_iff.mpr c9
     subst c9
     have H1 : (engrosslaw11_NodeKids.l0 kj4 a0 a1 0 false ([] : List ByteArray) ([] : List Int)) = some r := by rw [if_neg (show ¬ (false = true) by decide)] at H; exact H
     clear H
     have H := H1
     clear H1
     have H' := Aside0.mk H
     clear H
     go_wp2_with (first | ((with_reducible refine gate_dst (N := 6) rfl ?_); (try (refine gate_guard (by rfl) ?_; dsimp only)); refine box_event ?hg (N := 6) ?hd (cs := #[.bool false, .slice none 0 0, .slice none 0 0, .slice none 0 0]) (t := 26) ?hr ?_; (case hd => rfl); (case hg => rfl); (case hr => first | (go_simp; done) | (go_simp; rfl)); intro gb864 hg w10 hbox hb; have BK864 := Aside0.mk (hbox); have GW864 := bZ HB hg; have GE864 := bZ HB hg; replace HB := bW HB hb; clear hb hbox hg; obtain ⟨hcz11_0, hcz11_1, hcz11_2, hcz11_3, hfz11_0, hfz11_1, hfz11_2, hfz11_3⟩ := bf4 (w := w10) BK864))
     go_loopg [7] kj4 (fun kq v7 w' => ∃ (x7_2 : Int) (x865002_2 : List ByteArray) (x865003_2 : List Int) (u865002 : Value) (u865003 : Value), v7 = .int .i64 x7_2 ∧ Aside0 (engrosslaw11_NodeKids.l0 kq a0 a1 x7_2 false x865002_2 x865003_2 = some r) ∧ Aside0 (kq ≤ kj4) ∧ Aside0 (Kd.R Kd.string 9 w' w.heap.size (fun _ => True) u865002 x865002_2) ∧ Aside0 (Kd.R (Kd.int .i64) 3 w' w.heap.size (fun _ => True) u865003 x865003_2) ∧ Aside0 (w'.heap[gb864]? = some (.cells #[.bool false, (.slice none 0 0), u865002, u865003] 26 (0, 0))) ∧ Aside0 (Below w.heap.size w w'))
     case atStart => exact ⟨(0), (([] : List ByteArray)), (([] : List Int)), (.slice none 0 0), (.slice none 0 0), (by first | rfl | (simp; done) | (simp [*]; done)), H', ⟨Nat.le_refl _⟩, ⟨by first | exact Kd.R_nil _ _ _ _ _ | exact Kd.N_nil _ _ _ _ _ | exact Kd.V_nil _ _ _ _ _ | exact Kd.Q_nil _ _ _ _ _ | exact Kd.S_nil _ _ _ _ _⟩, ⟨by first | exact Kd.R_nil _ _ _ _ _ | exact Kd.N_nil _ _ _ _ _ | exact Kd.V_nil _ _ _ _ _ | exact Kd.Q_nil _ _ _ _ _ | exact Kd.S_nil _ _ _ _ _⟩, ⟨by (with_reducible repeat (first | refine blk_drewN ?_ _ | refine blk_drew ?_ | refine blk_alloc ?_ _)); refine blk_put (cs := #[.bool false, .slice none 0 0, .slice none 0 0, .slice none 0 0]) ?_ 3 _ rfl; (with_reducible repeat (first | refine blk_drewN ?_ _ | refine blk_drew ?_ | refine blk_alloc ?_ _)); refine blk_put (cs := #[.bool false, .slice none 0 0, .slice none 0 0, .slice none 0 0]) ?_ 2 _ rfl; (with_reducible repeat (first | refine blk_drewN ?_ _ | refine blk_drew ?_ | refine blk_alloc ?_ _)); refine blk_put (cs := #[.bool false, .slice none 0 0, .slice none 0 0, .slice none 0 0]) ?_ 1 _ rfl; (with_reducible repeat (first | refine blk_drewN ?_ _ | refine blk_drew ?_ | refine blk_alloc ?_ _)); refine blk_put (cs := #[.bool false, .slice none 0 0, .slice none 0 0, .slice none 0 0]) ?_ 0 _ rfl; (with_reducible repeat (first | refine blk_drewN ?_ _ | refine blk_drew ?_ | refine blk_alloc ?_ _)); exact BK864.out⟩, ⟨by repeat (first | (with_reducible first | exact HB.out | apply below_alloc | apply pw_below_drewN | apply below_drew1 | refine below_set ?_ GE864.out) | exact HB.out)⟩⟩
     case round =>
      clear H'
      try clear c1
      try clear p2
      try clear c4
      try clear c7
      try clear c7b0
      try clear c8
      try clear c8b0
      try clear c9
      try clear c11
      try clear hcz11_0
      try clear hcz11_1
      try clear hcz11_2
      try clear hcz11_3
      try clear hfz11_0
      try clear hfz11_1
      try clear hfz11_2
      try clear hfz11_3
      try clear p2
      obtain ⟨x7_2, x865002_2, x865003_2, u865002, u865003, rfl, HA, HK2, HO_865002, HO_865003, BK864, HB⟩ := hrel
      cases gk with
      | zero => exact absurd HA.out (by simp [engrosslaw11_NodeKids.l0])
      | succ k2 =>
       have H := HA.out
       clear HA
       simp only [engrosslaw11_NodeKids.l0] at H
       by_cases c12 : x7_2 < a0
       ·rw [if_pos c12] at H
        have c12b0 : decide (x7_2 < a0) = true := decide_eq_true c12
        clear c12
        by_cases c13 : x865003_2.length < 17592186044416
        ·rw [if_pos c13] at H
         have LMc13 := Aside0.mk c13
         clear c13
         obtain ⟨y865, hy865⟩ : ∃ y_ : List Int, y_ = (x865003_2 ++ [wrap64 (2 + x7_2)]) := ⟨_, rfl⟩
         replace H : (if x7_2 > 0 then (if x865002_2.length < 8796093022208 then (engrosslaw11_NodeKids.l0 k2 a0 a1 (wrap64 (x7_2 + 1)) false (x865002_2 ++ [strOfNums (([(wrap64 (97 + x7_2)) % 256] : List Int))]) y865) else (none)) else (engrosslaw11_NodeKids.l0 k2 a0 a1 (wrap64 (x7_2 + 1)) false x865002_2 y865)) = some r := by first | (rw [hy865]; with_reducible exact H) | (have H2_ := (Option.bind_some _ _).symm.trans H; rw [hy865]; with_reducible exact H2_) | (have H2_ := (Option.bind_some _ _).symm.trans H; with_reducible exact H2_) | with_reducible exact H | (rw [hy865]; exact H) | exact H
         have Ny865 := Aside0.mk hy865
         clear hy865
         by_cases c14 : x7_2 > 0
         ·rw [if_pos c14] at H
          have c14b0 : decide (0 < x7_2) = true := decide_eq_true c14
          clear c14
          obtain ⟨y868, hy868⟩ : ∃ y_ : List Int, y_ = (([(wrap64 (97 + x7_2)) % 256] : List Int)) := ⟨_, rfl⟩
          replace H : (if x865002_2.length < 8796093022208 then (engrosslaw11_NodeKids.l0 k2 a0 a1 (wrap64 (x7_2 + 1)) false (x865002_2 ++ [strOfNums y868]) y865) else (none)) = some r := by first | (rw [hy868]; with_reducible exact H) | (have H2_ := (Option.bind_some _ _).symm.trans H; rw [hy868]; with_reducible exact H2_) | (have H2_ := (Option.bind_some _ _).symm.trans H; with_reducible exact H2_) | with_reducible exact H | (rw [hy868]; exact H) | exact H
          have Ny868 := Aside0.mk hy868
          clear hy868
          by_cases c15 : x865002_2.length < 8796093022208
          ·rw [if_pos c15] at H
           have LMc15 := Aside0.mk c15
           clear c15
           obtain ⟨y871, hy871⟩ : ∃ y_ : List ByteArray, y_ = (x865002_2 ++ [strOfNums y868]) := ⟨_, rfl⟩
           replace H : (engrosslaw11_NodeKids.l0 k2 a0 a1 (wrap64 (x7_2 + 1)) false y871 y865) = some r := by first | (rw [hy871]; with_reducible exact H) | (have H2_ := (Option.bind_some _ _).symm.trans H; rw [hy871]; with_reducible exact H2_) | (have H2_ := (Option.bind_some _ _).symm.trans H; with_reducible exact H2_) | with_reducible exact H | (rw [hy871]; exact H) | exact H
           have Ny871 := Aside0.mk hy871
           clear hy871
           have H' := Aside0.mk H
           clear H
           obtain ⟨hcz16_0, hcz16_1, hcz16_2, hcz16_3, hfz16_0, hfz16_1, hfz16_2, hfz16_3⟩ := bf4 (w := wr) BK864
           go_wp2_with (first | ((with_reducible refine gate_builtin (b := .append) (xs := #[.tmp 30, .tmp 33]) rfl ?_); (try (refine gate_guard (by rfl) ?_; dsimp only)); at_builtin; refine Kd.R_append (Kd.int .i64) (w0 := w) w.heap.size rfl (.tmp 30) (.tmp 33) 24 3 (.int .i64 0) 8 rfl Try.underlying24 info3 rfl (by decide) (by omega) u865003 x865003_2 (wrap64 (2 + x7_2)) [.int .i64 (wrap64 (2 + x7_2))] (fun _ => True) (fun _ => False) rfl rfl ?aP (fun _ hk => hk.elim) ?aF ?aO ?aB ?aS ?aL ?_; (case aP => exact rfl); (case aB => exact (bC HB)); (case aF => exact (fun _ _ => trivial)); (case aO => exact (by (with_reducible repeat (first | apply Kd.R_alloc | apply Kd.R_drewN | apply Kd.R_drew)); exact HO_865003.out)); (case aS => exact (below_size (bC HB))); (case aL => have := LMc13.out; omega); intro v866 w17 ho hb hg hat; rw [← Ny865.out] at ho; have HO867 := Aside0.mk (ho); replace HO_865002 := Aside0.mk (Kd.R_over' (by (with_reducible repeat (first | apply Kd.R_alloc | apply Kd.R_drewN | apply Kd.R_drew)); exact HO_865002.out) (Kd.R_typed (by (with_reducible repeat (first | apply Kd.R_alloc | apply Kd.R_drewN | apply Kd.R_drew)); exact HO_865003.out)) (by decide) hg); replace BK864 := Aside0.mk (blk_grown (bQ BK864) hg (Kd.R_ne HO_865003.out BK864.out (by decide))); replace HB := Aside0.mk (hb); clear HO_865003; clear ho hb hg hat; obtain ⟨Ao18, co18, eo18⟩ := Kd.R_slice HO867.out; subst eo18; obtain ⟨hcz19_0, hcz19_1, hcz19_2, hcz19_3, hfz19_0, hfz19_1, hfz19_2, hfz19_3⟩ := bf4 (w := w17) BK864) | ((with_reducible refine gate_dst (N := 43) rfl ?_); (try (refine gate_guard (by rfl) ?_; dsimp only)); refine Kd.R_lit (Kd.int .u8) _ 5 ?hg (N := 43) ?hd (xs := ([(wrap64 (97 + x7_2)) % 256] : List Int)) (inner := [.int .u8 ((wrap64 (97 + x7_2)) % 256)]) (ok := fun _ => True) (okp := fun _ => True) ?hr ?hp (fun _ hk => hk) trivial (Below.refl _ _) (Nat.le_refl _) (by simp) ?_; (case hd => rfl); (case hg => rfl); (case hr => first | (go_simp; done) | (go_simp; rfl)); (case hp => exact (Reps.one (show Kd.M (Kd.int .u8) _ _ _ ((wrap64 (97 + x7_2)) % 256) [.int .u8 ((wrap64 (97 + x7_2)) % 256)] from rfl) (Reps.none _ _))); intro v869 w20 ho21 hb hg_ hnew_; clear hg_ hnew_; (first | rw [← Ny868.out] at ho21 | (simp only [Int.reduceToNat] at ho21; rw [← Ny868.out] at ho21)); have HO870 := Aside0.mk (Kd.R_lower ho21 (below_size (bC HB))); replace HO_865002 := Aside0.mk (Kd.R_below (by (with_reducible repeat (first | apply Kd.R_alloc | apply Kd.R_drewN | apply Kd.R_drew)); exact (Kd.R_mono (Kd.R_far (p := ⟨gb864, 3, none⟩) (Kd.R_types HO_865002.out BK864.out (by decide)) (fun _ hk => hk.2) (.slice Ao18 y865.length co18)) (fun _ h_ => h_.1))) hb); replace HO867 := Aside0.mk (Kd.R_below (by (with_reducible repeat (first | apply Kd.R_alloc | apply Kd.R_drewN | apply Kd.R_drew)); exact (Kd.R_mono (Kd.R_far (p := ⟨gb864, 3, none⟩) (Kd.R_types HO867.out BK864.out (by decide)) (fun _ hk => hk.2) (.slice Ao18 y865.length co18)) (fun _ h_ => h_.1))) hb); replace BK864 := Aside0.mk (blk_below (g := gb864) (o := .cells #[.bool false, .slice none 0 0, u865002, .slice Ao18 y865.length co18] 26 (0, 0)) (bR BK864) hb); replace HB := bW HB hb; clear hb ho21; have hcv22 := Kd.x_R_string (P := Try.prog) Try.underlying30 Try.underlying5 Try.underlying9 (HO870.out)) | ((with_reducible refine gate_builtin (b := .append) (xs := #[.tmp 39, .tmp 45]) rfl ?_); (try (refine gate_guard (by rfl) ?_; dsimp only)); at_builtin; refine Kd.R_append Kd.string (w0 := w) w.heap.size rfl (.tmp 39) (.tmp 45) 23 9 (.string ⟨#[]⟩) 16 rfl Try.underlying23 info9 rfl (by decide) (by omega) u865002 x865002_2 (strOfNums y868) [.string (strOfNums y868)] (fun _ => True) (fun _ => False) rfl rfl ?aP (fun _ hk => hk.elim) ?aF ?aO ?aB ?aS ?aL ?_; (case aP => exact rfl); (case aB => exact (bC HB)); (case aF => exact (fun _ _ => trivial)); (case aO => exact (by (with_reducible repeat (first | apply Kd.R_alloc | apply Kd.R_drewN | apply Kd.R_drew)); exact HO_865002.out)); (case aS => exact (below_size (bC HB))); (case aL => have := LMc15.out; omega); intro v872 w23 ho hb hg hat; rw [← Ny871.out] at ho; have HO873 := Aside0.mk (ho); replace BK864 := Aside0.mk (blk_grown (bQ BK864) hg (Kd.R_ne HO_865002.out BK864.out (by decide))); replace HO867 := Aside0.mk (Kd.R_over' (by (with_reducible repeat (first | apply Kd.R_alloc | apply Kd.R_drewN | apply Kd.R_drew)); exact HO867.out) (Kd.R_typed (by (with_reducible repeat (first | apply Kd.R_alloc | apply Kd.R_drewN | apply Kd.R_drew)); exact HO_865002.out)) (by decide) hg); replace HO870 := Aside0.mk (Kd.R_over' (by (with_reducible repeat (first | apply Kd.R_alloc | apply Kd.R_drewN | apply Kd.R_drew)); exact HO870.out) (Kd.R_typed (by (with_reducible repeat (first | apply Kd.R_alloc | apply Kd.R_drewN | apply Kd.R_drew)); exact HO_865002.out)) (by decide) hg); replace HB := Aside0.mk (hb); clear HO_865002; clear ho hb hg hat; obtain ⟨Ao24, co24, eo24⟩ := Kd.R_slice HO873.out; subst eo24; obtain ⟨hcz25_0, hcz25_1, hcz25_2, hcz25_3, hfz25_0, hfz25_1, hfz25_2, hfz25_3⟩ := bf4 (w := w23) BK864))
           go_roundg k2
           case measure => have := HJ4.out; have := HK2.out; omega
           case rel => exact ⟨(wrap64 (x7_2 + 1)), (y871), (y865), (.slice Ao24 y871.length co24), (.slice Ao18 y865.length co18), (by first | rfl | (simp; done) | (simp [*]; done)), H', ⟨by have := HJ4.out; have := HK2.out; omega⟩, ⟨by (with_reducible repeat (first | apply Kd.R_alloc | apply Kd.R_drewN | apply Kd.R_drew)); exact Kd.R_mono (Kd.R_far (p := ⟨gb864, 2, none⟩) (Kd.R_types HO873.out BK864.out (by decide)) (fun _ hk => hk.2) (.slice Ao24 y871.length co24)) (fun _ hk => trivial)⟩, ⟨by (with_reducible repeat (first | apply Kd.R_alloc | apply Kd.R_drewN | apply Kd.R_drew)); exact Kd.R_mono (Kd.R_far (p := ⟨gb864, 2, none⟩) (Kd.R_types HO867.out BK864.out (by decide)) (fun _ hk => hk.2) (.slice Ao24 y871.length co24)) (fun _ hk => trivial)⟩, ⟨by (with_reducible repeat (first | refine blk_drewN ?_ _ | refine blk_drew ?_ | refine blk_alloc ?_ _)); refine blk_put (cs := #[.bool false, .slice none 0 0, u865002, .slice Ao18 y865.length co18]) ?_ 2 _ rfl; (with_reducible repeat (first | refine blk_drewN ?_ _ | refine blk_drew ?_ | refine blk_alloc ?_ _)); exact BK864.out⟩, ⟨by repeat (first | (with_reducible first | exact HB.out | apply below_alloc | apply pw_below_drewN | apply below_drew1 | refine below_set ?_ GE864.out) | exact HB.out)⟩⟩
          ·rw [if_neg c15] at H
           exact absurd H (by simp)
         ·rw [if_neg c14] at H
          have c14b0 : decide (0 < x7_2) = false := decide_eq_false c14
          clear c14
          have H' := Aside0.mk H
          clear H
          obtain ⟨hcz26_0, hcz26_1, hcz26_2, hcz26_3, hfz26_0, hfz26_1, hfz26_2, hfz26_3⟩ := bf4 (w := wr) BK864
          go_wp2_with (first | ((with_reducible refine gate_builtin (b := .append) (xs := #[.tmp 30, .tmp 33]) rfl ?_); (try (refine gate_guard (by rfl) ?_; dsimp only)); at_builtin; refine Kd.R_append (Kd.int .i64) (w0 := w) w.heap.size rfl (.tmp 30) (.tmp 33) 24 3 (.int .i64 0) 8 rfl Try.underlying24 info3 rfl (by decide) (by omega) u865003 x865003_2 (wrap64 (2 + x7_2)) [.int .i64 (wrap64 (2 + x7_2))] (fun _ => True) (fun _ => False) rfl rfl ?aP (fun _ hk => hk.elim) ?aF ?aO ?aB ?aS ?aL ?_; (case aP => exact rfl); (case aB => exact (bC HB)); (case aF => exact (fun _ _ => trivial)); (case aO => exact (by (with_reducible repeat (first | apply Kd.R_alloc | apply Kd.R_drewN | apply Kd.R_drew)); exact HO_865003.out)); (case aS => exact (below_size (bC HB))); (case aL => have := LMc13.out; omega); intro v866 w27 ho hb hg hat; rw [← Ny865.out] at ho; have HO867 := Aside0.mk (ho); replace HO_865002 := Aside0.mk (Kd.R_over' (by (with_reducible repeat (first | apply Kd.R_alloc | apply Kd.R_drewN | apply Kd.R_drew)); exact HO_865002.out) (Kd.R_typed (by (with_reducible repeat (first | apply Kd.R_alloc | apply Kd.R_drewN | apply Kd.R_drew)); exact HO_865003.out)) (by decide) hg); replace BK864 := Aside0.mk (blk_grown (bQ BK864) hg (Kd.R_ne HO_865003.out BK864.out (by decide))); replace HB := Aside0.mk (hb); clear HO_865003; clear ho hb hg hat; obtain ⟨Ao28, co28, eo28⟩ := Kd.R_slice HO867.out; subst eo28; obtain ⟨hcz29_0, hcz29_1, hcz29_2, hcz29_3, hfz29_0, hfz29_1, hfz29_2, hfz29_3⟩ := bf4 (w := w27) BK864))
          go_roundg k2
          case measure => have := HJ4.out; have := HK2.out; omega
          case rel => exact ⟨(wrap64 (x7_2 + 1)), (x865002_2), (y865), (u865002), (.slice Ao28 y865.length co28), (by first | rfl | (simp; done) | (simp [*]; done)), H', ⟨by have := HJ4.out; have := HK2.out; omega⟩, ⟨by (with_reducible repeat (first | apply Kd.R_alloc | apply Kd.R_drewN | apply Kd.R_drew)); exact Kd.R_mono (Kd.R_far (p := ⟨gb864, 3, none⟩) (Kd.R_types HO_865002.out BK864.out (by decide)) (fun _ hk => hk.2) (.slice Ao28 y865.length co28)) (fun _ hk => trivial)⟩, ⟨by (with_reducible repeat (first | apply Kd.R_alloc | apply Kd.R_drewN | apply Kd.R_drew)); exact Kd.R_mono (Kd.R_far (p := ⟨gb864, 3, none⟩) (Kd.R_types HO867.out BK864.out (by decide)) (fun _ hk => hk.2) (.slice Ao28 y865.length co28)) (fun _ hk => trivial)⟩, ⟨by (with_reducible repeat (first | refine blk_drewN ?_ _ | refine blk_drew ?_ | refine blk_alloc ?_ _)); refine blk_put (cs := #[.bool false, .slice none 0 0, u865002, u865003]) ?_ 3 _ rfl; (with_reducible repeat (first | refine blk_drewN ?_ _ | refine blk_drew ?_ | refine blk_alloc ?_ _)); exact BK864.out⟩, ⟨by repeat (first | (with_reducible first | exact HB.out | apply below_alloc | apply pw_below_drewN | apply below_drew1 | refine below_set ?_ GE864.out) | exact HB.out)⟩⟩
        ·rw [if_neg c13] at H
         exact absurd H (by simp)
       ·rw [if_neg c12] at H
        have c12b0 : decide (x7_2 < a0) = false := decide_eq_false c12
        clear c12
        replace H := Option.bind_eq_some_iff.mp H
        obtain ⟨⟨t874, t875, t878, t881⟩, A300, H⟩ := H
        replace H : ((node_Kid.f k2 t874 t875 t878 t881 a1).bind fun t884 => (if t884 < 0 then (none) else (if t884 ≥ a0 then (none) else (if t884 = 0 then (if t884 = (wrap64 (a0 - 1)) then (some true) else (if 0 ≤ t884 then (if t884 < (x865002_2.length : Int) then (some (Op.bytesLess a1.toList ((rdOf ByteArray.empty x865002_2 t884).toList))) else (none)) else (none))) else (if 0 ≤ (wrap64 (t884 - 1)) then (if (wrap64 (t884 - 1)) < (x865002_2.length : Int) then (if ((Op.bytesLess a1.toList ((rdOf ByteArray.empty x865002_2 (wrap64 (t884 - 1))).toList)) = true) then (none) else (if t884 = (wrap64 (a0 - 1)) then (some true) else (if 0 ≤ t884 then (if t884 < (x865002_2.length : Int) then (some (Op.bytesLess a1.toList ((rdOf ByteArray.empty x865002_2 t884).toList))) else (none)) else (none)))) else (none)) else (none)))))) = some r := H
        have A30 := Aside0.mk A300
        clear A300
        replace H := Option.bind_eq_some_iff.mp H
        obtain ⟨t884, A310, H⟩ := H
        replace H : (if t884 < 0 then (none) else (if t884 ≥ a0 then (none) else (if t884 = 0 then (if t884 = (wrap64 (a0 - 1)) then (some true) else (if 0 ≤ t884 then (if t884 < (x865002_2.length : Int) then (some (Op.bytesLess a1.toList ((rdOf ByteArray.empty x865002_2 t884).toList))) else (none)) else (none))) else (if 0 ≤ (wrap64 (t884 - 1)) then (if (wrap64 (t884 - 1)) < (x865002_2.length : Int) then (if ((Op.bytesLess a1.toList ((rdOf ByteArray.empty x865002_2 (wrap64 (t884 - 1))).toList)) = true) then (none) else (if t884 = (wrap64 (a0 - 1)) then (some true) else (if 0 ≤ t884 then (if t884 < (x865002_2.length : Int) then (some (Op.bytesLess a1.toList ((rdOf ByteArray.empty x865002_2 t884).toList))) else (none)) else (none)))) else (none)) else (none))))) = some r := H
        have A31 := Aside0.mk A310
        clear A310
        by_cases c32 : t884 < 0
        ·rw [if_pos c32] at H
         exact absurd H (by simp)
        ·rw [if_neg c32] at H
         have c32b0 : decide (t884 < 0) = false := decide_eq_false c32
         clear c32
         by_cases c33 : t884 ≥ a0
         ·rw [if_pos c33] at H
          exact absurd H (by simp)
         ·rw [if_neg c33] at H
          have c33b0 : decide (a0 ≤ t884) = false := decide_eq_false c33
          clear c33
          by_cases c34 : t884 = 0
          ·rw [if_pos c34] at H
           have c34b0 : (t884 == 0) = true := beq_iff_eq.mpr c34
           have c34b1 : (t884 != 0) = false := bne_eq_false_iff_eq.mpr c34
           clear c34
           by_cases c35 : t884 = (wrap64 (a0 - 1))
           ·rw [if_pos c35] at H
            have c35b0 : (t884 == (wrap64 (a0 - 1))) = true := beq_iff_eq.mpr c35
            have c35b1 : (t884 != (wrap64 (a0 - 1))) = false := bne_eq_false_iff_eq.mpr c35
            clear c35
            obtain rfl := Option.some.inj H
            obtain ⟨hcz36_0, hcz36_1, hcz36_2, hcz36_3, hfz36_0, hfz36_1, hfz36_2, hfz36_3⟩ := bf4 (w := wr) BK864
            obtain ⟨Ao37, co37, eo37⟩ := Kd.R_slice HO_865002.out
            subst eo37
            obtain ⟨Ao38, co38, eo38⟩ := Kd.R_slice HO_865003.out
            subst eo38
            go_wp2_with (first | (go_at_call 17; refine calls_of_args (args' := #[.agg #[.bool false, .slice none ([] : List (S56)).length 0, .slice Ao37 x865002_2.length co37, .slice Ao38 x865003_2.length co38]]) (by first | rfl | ((try simp only [List.map_toArray, List.map_cons, List.map_nil]); rfl)) ?_; (with_reducible refine (engrosslaw11_Of.calls k2 false _ _ ([] : List (S56)) (fun k_ => some k_ = (.slice Ao37 x865002_2.length co37 : Value).ownBlock) _ _ x865002_2 (fun k_ => some k_ = (.slice Ao38 x865003_2.length co38 : Value).ownBlock) _ _ x865003_2 t874 t875 t878 t881 _ ?side1 ?side2 ?side3 ?side4 A30.out).mono ?_); (case side1 => exact Kd.C_nil _ _); (case side2 => exact Nat.le_refl _); (case side3 => exact Kd.R_V (Kd.R_tight rfl (Kd.R_types (Kd.R_apart' (HO_865002.out) (Kd.R_typed HO_865003.out) (by decide)) BK864.out (by decide)))); (case side4 => exact Kd.R_V (Kd.R_tight rfl (Kd.R_types (Kd.R_apart' (HO_865003.out) (Kd.R_typed HO_865002.out) (by decide)) BK864.out (by decide)))); rintro e w39 ⟨v876, v879, v882, rfl, ho0, ho1, ho2, hb⟩; have HO877 := Aside0.mk (Kd.R_lower (Kd.R_mono (ok' := fun k_ => True) ho0 (fun _ hk_ => trivial)) (below_size (bC HB))); have HO880 := Aside0.mk (Kd.V_lower (Kd.V_mono (ok' := fun k_ => some k_ ≠ (v876 : Value).ownBlock ∧ k_ ≠ gb864) ho1 (fun k_ hk_ => ⟨hk_.2, Or.elim hk_.1 (fun hs_ => Or.elim hs_ (fun hs_ => ((Kd.R_types (Kd.R_apart' (HO_865002.out) (Kd.R_typed HO_865003.out) (by decide)) BK864.out (by decide)).1 k_ hs_.symm).2) (fun hs_ => ((Kd.R_types (Kd.R_apart' (HO_865003.out) (Kd.R_typed HO_865002.out) (by decide)) BK864.out (by decide)).1 k_ hs_.symm).2)) (fun hn_ => (Kd.freshB (bQ BK864) k_ hn_))⟩)) (below_size (bC HB))); have HO883 := Aside0.mk (Kd.V_lower (Kd.V_mono (ok' := fun k_ => some k_ ≠ (v876 : Value).ownBlock ∧ k_ ≠ gb864) ho2 (fun k_ hk_ => ⟨hk_.2, Or.elim hk_.1 (fun hs_ => Or.elim hs_ (fun hs_ => ((Kd.R_types (Kd.R_apart' (HO_865002.out) (Kd.R_typed HO_865003.out) (by decide)) BK864.out (by decide)).1 k_ hs_.symm).2) (fun hs_ => ((Kd.R_types (Kd.R_apart' (HO_865003.out) (Kd.R_typed HO_865002.out) (by decide)) BK864.out (by decide)).1 k_ hs_.symm).2)) (fun hn_ => (Kd.freshB (bQ BK864) k_ hn_))⟩)) (below_size (bC HB))); replace HO_865002 := Aside0.mk (Kd.R_below (by (with_reducible repeat (first | apply Kd.R_alloc | apply Kd.R_drewN | apply Kd.R_drew)); exact HO_865002.out) hb); replace HO_865003 := Aside0.mk (Kd.R_below (by (with_reducible repeat (first | apply Kd.R_alloc | apply Kd.R_drewN | apply Kd.R_drew)); exact HO_865003.out) hb); replace BK864 := bB BK864 hb; replace HB := bW HB hb; (try clear hb); (try clear hb2); (try clear hk); (try clear hi); (try clear ho0); (try clear ho1); (try clear ho2); obtain ⟨Ao40, co40, eo40⟩ := Kd.R_slice HO877.out; subst eo40; obtain ⟨Ao41, co41, eo41⟩ := Kd.V_slice HO880.out; subst eo41; obtain ⟨Ao42, co42, eo42⟩ := Kd.V_slice HO883.out; subst eo42) | ((with_reducible refine gate_callee (f := 20) rfl ?_); refine goesL_ (some 51) rfl rfl Try.func20 (by kernel_rfl) rfl #[.agg #[.bool t874, .slice Ao40 t875.length co40, .slice Ao41 t878.length co41, .slice Ao42 t881.length co42], .string a1] rfl (by (try simp only [List.map_toArray, List.map_cons, List.map_nil]); first | done | rfl | (simp only [List.length_drop, List.length_take]; rfl)) ?_; (with_reducible refine (node_Kid.calls k2 t874 _ _ t875 _ _ t878 _ _ t881 a1 t884 _ ?side1 ?side2 ?side3 ?side4 ?side5 ?side6 A31.out).mono ?_); (case side1 => repeat (first | exact (Kd.R_reads' HO877.out).2.2 | (with_reducible refine Kd.C_alloc ?_ _) | (with_reducible refine Kd.C_drewN ?_ _) | (with_reducible refine Kd.C_drew ?_))); (case side2 => exact (Kd.R_reads' HO877.out).2.1); (case side3 => repeat (first | exact (Kd.V_reads' HO880.out).2.2 | (with_reducible refine Kd.C_alloc ?_ _) | (with_reducible refine Kd.C_drewN ?_ _) | (with_reducible refine Kd.C_drew ?_))); (case side4 => exact (Kd.V_reads' HO880.out).2.1); (case side5 => repeat (first | exact (Kd.V_reads' HO883.out).2.2 | (with_reducible refine Kd.C_alloc ?_ _) | (with_reducible refine Kd.C_drewN ?_ _) | (with_reducible refine Kd.C_drew ?_))); (case side6 => exact (Kd.V_reads' HO883.out).2.1); rintro e w43 ⟨rfl, hb⟩; refine ⟨_, rfl, ?_⟩; replace HO_865002 := Aside0.mk (Kd.R_below (by (with_reducible repeat (first | apply Kd.R_alloc | apply Kd.R_drewN | apply Kd.R_drew)); exact HO_865002.out) hb); replace HO_865003 := Aside0.mk (Kd.R_below (by (with_reducible repeat (first | apply Kd.R_alloc | apply Kd.R_drewN | apply Kd.R_drew)); exact HO_865003.out) hb); replace HO877 := Aside0.mk (Kd.R_below (by (with_reducible repeat (first | apply Kd.R_alloc | apply Kd.R_drewN | apply Kd.R_drew)); exact HO877.out) hb); replace HO880 := Aside0.mk (Kd.V_below (by (with_reducible repeat (first | apply Kd.V_alloc | apply Kd.V_drewN | apply Kd.V_drew)); exact HO880.out) hb); replace HO883 := Aside0.mk (Kd.V_below (by (with_reducible repeat (first | apply Kd.V_alloc | apply Kd.V_drewN | apply Kd.V_drew)); exact HO883.out) hb); replace BK864 := bB BK864 hb; replace HB := bW HB hb; (try clear hb); (try clear hb2); (try clear hk); (try clear hi)))
            go_ret
            exact ⟨by first | rfl | (simp [errW_none, errW_some] <;> rfl) | (simp [*, errW_none, errW_some] <;> rfl), by repeat (first | (with_reducible first | exact HB.out | apply below_alloc | apply pw_below_drewN | apply below_drew1 | refine below_set ?_ GE864.out) | exact HB.out)⟩
           ·rw [if_neg c35] at H
            have c35b0 : (t884 == (wrap64 (a0 - 1))) = false := beq_eq_false_iff_ne.mpr c35
            have c35b1 : (t884 != (wrap64 (a0 - 1))) = true := bne_iff_ne.mpr c35
            by_cases c44 : 0 ≤ t884
            ·rw [if_pos c44] at H
             have c44b0 : decide (0 ≤ t884) = true := decide_eq_true c44
             clear c44
             by_cases c45 : t884 < (x865002_2.length : Int)
             ·rw [if_pos c45] at H
              have c45b0 : decide (t884 < (x865002_2.length : Int)) = true := decide_eq_true c45
              clear c45
              obtain rfl := Option.some.inj H
              obtain ⟨hcz46_0, hcz46_1, hcz46_2, hcz46_3, hfz46_0, hfz46_1, hfz46_2, hfz46_3⟩ := bf4 (w := wr) BK864
              obtain ⟨Ao47, co47, eo47⟩ := Kd.R_slice HO_865002.out
              subst eo47
              obtain ⟨Ao48, co48, eo48⟩ := Kd.R_slice HO_865003.out
              subst eo48
              go_wp2_with (first | (go_at_call 17; refine calls_of_args (args' := #[.agg #[.bool false, .slice none ([] : List (S56)).length 0, .slice Ao47 x865002_2.length co47, .slice Ao48 x865003_2.length co48]]) (by first | rfl | ((try simp only [List.map_toArray, List.map_cons, List.map_nil]); rfl)) ?_; (with_reducible refine (engrosslaw11_Of.calls k2 false _ _ ([] : List (S56)) (fun k_ => some k_ = (.slice Ao47 x865002_2.length co47 : Value).ownBlock) _ _ x865002_2 (fun k_ => some k_ = (.slice Ao48 x865003_2.length co48 : Value).ownBlock) _ _ x865003_2 t874 t875 t878 t881 _ ?side1 ?side2 ?side3 ?side4 A30.out).mono ?_); (case side1 => exact Kd.C_nil _ _); (case side2 => exact Nat.le_refl _); (case side3 => exact Kd.R_V (Kd.R_tight rfl (Kd.R_types (Kd.R_apart' (HO_865002.out) (Kd.R_typed HO_865003.out) (by decide)) BK864.out (by decide)))); (case side4 => exact Kd.R_V (Kd.R_tight rfl (Kd.R_types (Kd.R_apart' (HO_865003.out) (Kd.R_typed HO_865002.out) (by decide)) BK864.out (by decide)))); rintro e w49 ⟨v876, v879, v882, rfl, ho0, ho1, ho2, hb⟩; have HO877 := Aside0.mk (Kd.R_lower (Kd.R_mono (ok' := fun k_ => True) ho0 (fun _ hk_ => trivial)) (below_size (bC HB))); have HO880 := Aside0.mk (Kd.V_lower (Kd.V_mono (ok' := fun k_ => some k_ ≠ (v876 : Value).ownBlock ∧ k_ ≠ gb864) ho1 (fun k_ hk_ => ⟨hk_.2, Or.elim hk_.1 (fun hs_ => Or.elim hs_ (fun hs_ => ((Kd.R_types (Kd.R_apart' (HO_865002.out) (Kd.R_typed HO_865003.out) (by decide)) BK864.out (by decide)).1 k_ hs_.symm).2) (fun hs_ => ((Kd.R_types (Kd.R_apart' (HO_865003.out) (Kd.R_typed HO_865002.out) (by decide)) BK864.out (by decide)).1 k_ hs_.symm).2)) (fun hn_ => (Kd.freshB (bQ BK864) k_ hn_))⟩)) (below_size (bC HB))); have HO883 := Aside0.mk (Kd.V_lower (Kd.V_mono (ok' := fun k_ => some k_ ≠ (v876 : Value).ownBlock ∧ k_ ≠ gb864) ho2 (fun k_ hk_ => ⟨hk_.2, Or.elim hk_.1 (fun hs_ => Or.elim hs_ (fun hs_ => ((Kd.R_types (Kd.R_apart' (HO_865002.out) (Kd.R_typed HO_865003.out) (by decide)) BK864.out (by decide)).1 k_ hs_.symm).2) (fun hs_ => ((Kd.R_types (Kd.R_apart' (HO_865003.out) (Kd.R_typed HO_865002.out) (by decide)) BK864.out (by decide)).1 k_ hs_.symm).2)) (fun hn_ => (Kd.freshB (bQ BK864) k_ hn_))⟩)) (below_size (bC HB))); replace HO_865002 := Aside0.mk (Kd.R_below (by (with_reducible repeat (first | apply Kd.R_alloc | apply Kd.R_drewN | apply Kd.R_drew)); exact HO_865002.out) hb); replace HO_865003 := Aside0.mk (Kd.R_below (by (with_reducible repeat (first | apply Kd.R_alloc | apply Kd.R_drewN | apply Kd.R_drew)); exact HO_865003.out) hb); replace BK864 := bB BK864 hb; replace HB := bW HB hb; (try clear hb); (try clear hb2); (try clear hk); (try clear hi); (try clear ho0); (try clear ho1); (try clear ho2); obtain ⟨Ao50, co50, eo50⟩ := Kd.R_slice HO877.out; subst eo50; obtain ⟨Ao51, co51, eo51⟩ := Kd.V_slice HO880.out; subst eo51; obtain ⟨Ao52, co52, eo52⟩ := Kd.V_slice HO883.out; subst eo52) | ((with_reducible refine gate_callee (f := 20) rfl ?_); refine goesL_ (some 51) rfl rfl Try.func20 (by kernel_rfl) rfl #[.agg #[.bool t874, .slice Ao50 t875.length co50, .slice Ao51 t878.length co51, .slice Ao52 t881.length co52], .string a1] rfl (by (try simp only [List.map_toArray, List.map_cons, List.map_nil]); first | done | rfl | (simp only [List.length_drop, List.length_take]; rfl)) ?_; (with_reducible refine (node_Kid.calls k2 t874 _ _ t875 _ _ t878 _ _ t881 a1 t884 _ ?side1 ?side2 ?side3 ?side4 ?side5 ?side6 A31.out).mono ?_); (case side1 => repeat (first | exact (Kd.R_reads' HO877.out).2.2 | (with_reducible refine Kd.C_alloc ?_ _) | (with_reducible refine Kd.C_drewN ?_ _) | (with_reducible refine Kd.C_drew ?_))); (case side2 => exact (Kd.R_reads' HO877.out).2.1); (case side3 => repeat (first | exact (Kd.V_reads' HO880.out).2.2 | (with_reducible refine Kd.C_alloc ?_ _) | (with_reducible refine Kd.C_drewN ?_ _) | (with_reducible refine Kd.C_drew ?_))); (case side4 => exact (Kd.V_reads' HO880.out).2.1); (case side5 => repeat (first | exact (Kd.V_reads' HO883.out).2.2 | (with_reducible refine Kd.C_alloc ?_ _) | (with_reducible refine Kd.C_drewN ?_ _) | (with_reducible refine Kd.C_drew ?_))); (case side6 => exact (Kd.V_reads' HO883.out).2.1); rintro e w53 ⟨rfl, hb⟩; refine ⟨_, rfl, ?_⟩; replace HO_865002 := Aside0.mk (Kd.R_below (by (with_reducible repeat (first | apply Kd.R_alloc | apply Kd.R_drewN | apply Kd.R_drew)); exact HO_865002.out) hb); replace HO_865003 := Aside0.mk (Kd.R_below (by (with_reducible repeat (first | apply Kd.R_alloc | apply Kd.R_drewN | apply Kd.R_drew)); exact HO_865003.out) hb); replace HO877 := Aside0.mk (Kd.R_below (by (with_reducible repeat (first | apply Kd.R_alloc | apply Kd.R_drewN | apply Kd.R_drew)); exact HO877.out) hb); replace HO880 := Aside0.mk (Kd.V_below (by (with_reducible repeat (first | apply Kd.V_alloc | apply Kd.V_drewN | apply Kd.V_drew)); exact HO880.out) hb); replace HO883 := Aside0.mk (Kd.V_below (by (with_reducible repeat (first | apply Kd.V_alloc | apply Kd.V_drewN | apply Kd.V_drew)); exact HO883.out) hb); replace BK864 := bB BK864 hb; replace HB := bW HB hb; (try clear hb); (try clear hb2); (try clear hk); (try clear hi); obtain ⟨hcz54_0, hcz54_1, hcz54_2, hcz54_3, hfz54_0, hfz54_1, hfz54_2, hfz54_3⟩ := bf4 (w := w53) BK864; have p885 : 0 ≤ (t884 : Int) := of_decide_eq_true (by first | (with_reducible assumption) | assumption); have q885 : t884 < (x865002_2.length : Int) := of_decide_eq_true (by first | (with_reducible assumption) | assumption); obtain ⟨ad885, e885, hx885_0⟩ := Kd.at_string (Kd.R_reads' HO_865002.out).2.2 t884 p885 q885; cases e885; replace p885 := eq_true p885; replace q885 := eq_true q885))
              go_ret
              exact ⟨by first | rfl | (simp [errW_none, errW_some] <;> rfl) | (simp [*, errW_none, errW_some] <;> rfl), by repeat (first | (with_reducible first | exact HB.out | apply below_alloc | apply pw_below_drewN | apply below_drew1 | refine below_set ?_ GE864.out) | exact HB.out)⟩
             ·rw [if_neg c45] at H
              exact absurd H (by simp)
            ·rw [if_neg c44] at H
             exact absurd H (by simp)
          ·rw [if_neg c34] at H
           have c34b0 : (t884 == 0) = false := beq_eq_false_iff_ne.mpr c34
           have c34b1 : (t884 != 0) = true := bne_iff_ne.mpr c34
           obtain ⟨ji55, hji55⟩ : ∃ j_ : Int, (wrap64 (t884 - 1)) = j_ := ⟨_, rfl⟩
           replace H : (if 0 ≤ (ji55) then (if (ji55) < (x865002_2.length : Int) then (if ((Op.bytesLess a1.toList ((rdOf ByteArray.empty x865002_2 (ji55)).toList)) = true) then (none) else (if t884 = (wrap64 (a0 - 1)) then (some true) else (if 0 ≤ t884 then (if t884 < (x865002_2.length : Int) then (some (Op.bytesLess a1.toList ((rdOf ByteArray.empty x865002_2 t884).toList))) else (none)) else (none)))) else (none)) else (none)) = some r := by first | (rw [hji55] at H; exact H) | (simp only [hji55] at H ⊢; exact H)
           (try rw [hji55] at A30)
           (try rw [hji55] at A31)
           have hji55w : (IntKind.i64.wrap (t884 - 1)) = ji55 := (i64_w _).trans hji55
           by_cases c56 : 0 ≤ (ji55)
           ·rw [if_pos c56] at H
            have c56b0 : decide (0 ≤ (ji55)) = true := decide_eq_true c56
            clear c56
            by_cases c57 : (ji55) < (x865002_2.length : Int)
            ·rw [if_pos c57] at H
             have c57b0 : decide ((ji55) < (x865002_2.length : Int)) = true := decide_eq_true c57
             clear c57
             by_cases c58 : ((Op.bytesLess a1.toList ((rdOf ByteArray.empty x865002_2 (ji55)).toList)) = true)
             ·rw [if_pos c58] at H
              exact absurd H (by simp)
             ·rw [if_neg c58] at H
              have c58b0 : (Op.bytesLess a1.toList ((rdOf ByteArray.empty x865002_2 (ji55)).toList)) = false := by simpa using c58
              clear c58
              by_cases c59 : t884 = (wrap64 (a0 - 1))
              ·rw [if_pos c59] at H
               have c59b0 : (t884 == (wrap64 (a0 - 1))) = true := beq_iff_eq.mpr c59
               have c59b1 : (t884 != (wrap64 (a0 - 1))) = false := bne_eq_false_iff_eq.mpr c59
               clear c59
               obtain rfl := Option.some.inj H
               obtain ⟨hcz60_0, hcz60_1, hcz60_2, hcz60_3, hfz60_0, hfz60_1, hfz60_2, hfz60_3⟩ := bf4 (w := wr) BK864
               obtain ⟨Ao61, co61, eo61⟩ := Kd.R_slice HO_865002.out
               subst eo61
               obtain ⟨Ao62, co62, eo62⟩ := Kd.R_slice HO_865003.out
               subst eo62
               go_wp2_with (first | (go_at_call 17; refine calls_of_args (args' := #[.agg #[.bool false, .slice none ([] : List (S56)).length 0, .slice Ao61 x865002_2.length co61, .slice Ao62 x865003_2.length co62]]) (by first | rfl | ((try simp only [List.map_toArray, List.map_cons, List.map_nil]); rfl)) ?_; (with_reducible refine (engrosslaw11_Of.calls k2 false _ _ ([] : List (S56)) (fun k_ => some k_ = (.slice Ao61 x865002_2.length co61 : Value).ownBlock) _ _ x865002_2 (fun k_ => some k_ = (.slice Ao62 x865003_2.length co62 : Value).ownBlock) _ _ x865003_2 t874 t875 t878 t881 _ ?side1 ?side2 ?side3 ?side4 A30.out).mono ?_); (case side1 => exact Kd.C_nil _ _); (case side2 => exact Nat.le_refl _); (case side3 => exact Kd.R_V (Kd.R_tight rfl (Kd.R_types (Kd.R_apart' (HO_865002.out) (Kd.R_typed HO_865003.out) (by decide)) BK864.out (by decide)))); (case side4 => exact Kd.R_V (Kd.R_tight rfl (Kd.R_types (Kd.R_apart' (HO_865003.out) (Kd.R_typed HO_865002.out) (by decide)) BK864.out (by decide)))); rintro e w63 ⟨v876, v879, v882, rfl, ho0, ho1, ho2, hb⟩; have HO877 := Aside0.mk (Kd.R_lower (Kd.R_mono (ok' := fun k_ => True) ho0 (fun _ hk_ => trivial)) (below_size (bC HB))); have HO880 := Aside0.mk (Kd.V_lower (Kd.V_mono (ok' := fun k_ => some k_ ≠ (v876 : Value).ownBlock ∧ k_ ≠ gb864) ho1 (fun k_ hk_ => ⟨hk_.2, Or.elim hk_.1 (fun hs_ => Or.elim hs_ (fun hs_ => ((Kd.R_types (Kd.R_apart' (HO_865002.out) (Kd.R_typed HO_865003.out) (by decide)) BK864.out (by decide)).1 k_ hs_.symm).2) (fun hs_ => ((Kd.R_types (Kd.R_apart' (HO_865003.out) (Kd.R_typed HO_865002.out) (by decide)) BK864.out (by decide)).1 k_ hs_.symm).2)) (fun hn_ => (Kd.freshB (bQ BK864) k_ hn_))⟩)) (below_size (bC HB))); have HO883 := Aside0.mk (Kd.V_lower (Kd.V_mono (ok' := fun k_ => some k_ ≠ (v876 : Value).ownBlock ∧ k_ ≠ gb864) ho2 (fun k_ hk_ => ⟨hk_.2, Or.elim hk_.1 (fun hs_ => Or.elim hs_ (fun hs_ => ((Kd.R_types (Kd.R_apart' (HO_865002.out) (Kd.R_typed HO_865003.out) (by decide)) BK864.out (by decide)).1 k_ hs_.symm).2) (fun hs_ => ((Kd.R_types (Kd.R_apart' (HO_865003.out) (Kd.R_typed HO_865002.out) (by decide)) BK864.out (by decide)).1 k_ hs_.symm).2)) (fun hn_ => (Kd.freshB (bQ BK864) k_ hn_))⟩)) (below_size (bC HB))); replace HO_865002 := Aside0.mk (Kd.R_below (by (with_reducible repeat (first | apply Kd.R_alloc | apply Kd.R_drewN | apply Kd.R_drew)); exact HO_865002.out) hb); replace HO_865003 := Aside0.mk (Kd.R_below (by (with_reducible repeat (first | apply Kd.R_alloc | apply Kd.R_drewN | apply Kd.R_drew)); exact HO_865003.out) hb); replace BK864 := bB BK864 hb; replace HB := bW HB hb; (try clear hb); (try clear hb2); (try clear hk); (try clear hi); (try clear ho0); (try clear ho1); (try clear ho2); obtain ⟨Ao64, co64, eo64⟩ := Kd.R_slice HO877.out; subst eo64; obtain ⟨Ao65, co65, eo65⟩ := Kd.V_slice HO880.out; subst eo65; obtain ⟨Ao66, co66, eo66⟩ := Kd.V_slice HO883.out; subst eo66) | ((with_reducible refine gate_callee (f := 20) rfl ?_); refine goesL_ (some 51) rfl rfl Try.func20 (by kernel_rfl) rfl #[.agg #[.bool t874, .slice Ao64 t875.length co64, .slice Ao65 t878.length co65, .slice Ao66 t881.length co66], .string a1] rfl (by (try simp only [List.map_toArray, List.map_cons, List.map_nil]); first | done | rfl | (simp only [List.length_drop, List.length_take]; rfl)) ?_; (with_reducible refine (node_Kid.calls k2 t874 _ _ t875 _ _ t878 _ _ t881 a1 t884 _ ?side1 ?side2 ?side3 ?side4 ?side5 ?side6 A31.out).mono ?_); (case side1 => repeat (first | exact (Kd.R_reads' HO877.out).2.2 | (with_reducible refine Kd.C_alloc ?_ _) | (with_reducible refine Kd.C_drewN ?_ _) | (with_reducible refine Kd.C_drew ?_))); (case side2 => exact (Kd.R_reads' HO877.out).2.1); (case side3 => repeat (first | exact (Kd.V_reads' HO880.out).2.2 | (with_reducible refine Kd.C_alloc ?_ _) | (with_reducible refine Kd.C_drewN ?_ _) | (with_reducible refine Kd.C_drew ?_))); (case side4 => exact (Kd.V_reads' HO880.out).2.1); (case side5 => repeat (first | exact (Kd.V_reads' HO883.out).2.2 | (with_reducible refine Kd.C_alloc ?_ _) | (with_reducible refine Kd.C_drewN ?_ _) | (with_reducible refine Kd.C_drew ?_))); (case side6 => exact (Kd.V_reads' HO883.out).2.1); rintro e w67 ⟨rfl, hb⟩; refine ⟨_, rfl, ?_⟩; replace HO_865002 := Aside0.mk (Kd.R_below (by (with_reducible repeat (first | apply Kd.R_alloc | apply Kd.R_drewN | apply Kd.R_drew)); exact HO_865002.out) hb); replace HO_865003 := Aside0.mk (Kd.R_below (by (with_reducible repeat (first | apply Kd.R_alloc | apply Kd.R_drewN | apply Kd.R_drew)); exact HO_865003.out) hb); replace HO877 := Aside0.mk (Kd.R_below (by (with_reducible repeat (first | apply Kd.R_alloc | apply Kd.R_drewN | apply Kd.R_drew)); exact HO877.out) hb); replace HO880 := Aside0.mk (Kd.V_below (by (with_reducible repeat (first | apply Kd.V_alloc | apply Kd.V_drewN | apply Kd.V_drew)); exact HO880.out) hb); replace HO883 := Aside0.mk (Kd.V_below (by (with_reducible repeat (first | apply Kd.V_alloc | apply Kd.V_drewN | apply Kd.V_drew)); exact HO883.out) hb); replace BK864 := bB BK864 hb; replace HB := bW HB hb; (try clear hb); (try clear hb2); (try clear hk); (try clear hi); obtain ⟨hcz68_0, hcz68_1, hcz68_2, hcz68_3, hfz68_0, hfz68_1, hfz68_2, hfz68_3⟩ := bf4 (w := w67) BK864; have p886 : 0 ≤ ((ji55) : Int) := of_decide_eq_true (by first | (with_reducible assumption) | assumption); have q886 : (ji55) < (x865002_2.length : Int) := of_decide_eq_true (by first | (with_reducible assumption) | assumption); obtain ⟨ad886, e886, hx886_0⟩ := Kd.at_string (Kd.R_reads' HO_865002.out).2.2 (ji55) p886 q886; cases e886; replace p886 := eq_true p886; replace q886 := eq_true q886))
               go_ret
               exact ⟨by first | rfl | (simp [errW_none, errW_some] <;> rfl) | (simp only [← hji55]; first | rfl | (simp [errW_none, errW_some] <;> rfl)) | (simp [*, errW_none, errW_some] <;> rfl), by repeat (first | (with_reducible first | exact HB.out | apply below_alloc | apply pw_below_drewN | apply below_drew1 | refine below_set ?_ GE864.out) | exact HB.out)⟩
              ·rw [if_neg c59] at H
               have c59b0 : (t884 == (wrap64 (a0 - 1))) = false := beq_eq_false_iff_ne.mpr c59
               have c59b1 : (t884 != (wrap64 (a0 - 1))) = true := bne_iff_ne.mpr c59
               by_cases c69 : 0 ≤ t884
               ·rw [if_pos c69] at H
                have c69b0 : decide (0 ≤ t884) = true := decide_eq_true c69
                clear c69
                by_cases c70 : t884 < (x865002_2.length : Int)
                ·rw [if_pos c70] at H
                 have c70b0 : decide (t884 < (x865002_2.length : Int)) = true := decide_eq_true c70
                 clear c70
                 obtain rfl := Option.some.inj H
                 obtain ⟨hcz71_0, hcz71_1, hcz71_2, hcz71_3, hfz71_0, hfz71_1, hfz71_2, hfz71_3⟩ := bf4 (w := wr) BK864
                 obtain ⟨Ao72, co72, eo72⟩ := Kd.R_slice HO_865002.out
                 subst eo72
                 obtain ⟨Ao73, co73, eo73⟩ := Kd.R_slice HO_865003.out
                 subst eo73
                 go_wp2_with (first | (go_at_call 17; refine calls_of_args (args' := #[.agg #[.bool false, .slice none ([] : List (S56)).length 0, .slice Ao72 x865002_2.length co72, .slice Ao73 x865003_2.length co73]]) (by first | rfl | ((try simp only [List.map_toArray, List.map_cons, List.map_nil]); rfl)) ?_; (with_reducible refine (engrosslaw11_Of.calls k2 false _ _ ([] : List (S56)) (fun k_ => some k_ = (.slice Ao72 x865002_2.length co72 : Value).ownBlock) _ _ x865002_2 (fun k_ => some k_ = (.slice Ao73 x865003_2.length co73 : Value).ownBlock) _ _ x865003_2 t874 t875 t878 t881 _ ?side1 ?side2 ?side3 ?side4 A30.out).mono ?_); (case side1 => exact Kd.C_nil _ _); (case side2 => exact Nat.le_refl _); (case side3 => exact Kd.R_V (Kd.R_tight rfl (Kd.R_types (Kd.R_apart' (HO_865002.out) (Kd.R_typed HO_865003.out) (by decide)) BK864.out (by decide)))); (case side4 => exact Kd.R_V (Kd.R_tight rfl (Kd.R_types (Kd.R_apart' (HO_865003.out) (Kd.R_typed HO_865002.out) (by decide)) BK864.out (by decide)))); rintro e w74 ⟨v876, v879, v882, rfl, ho0, ho1, ho2, hb⟩; have HO877 := Aside0.mk (Kd.R_lower (Kd.R_mono (ok' := fun k_ => True) ho0 (fun _ hk_ => trivial)) (below_size (bC HB))); have HO880 := Aside0.mk (Kd.V_lower (Kd.V_mono (ok' := fun k_ => some k_ ≠ (v876 : Value).ownBlock ∧ k_ ≠ gb864) ho1 (fun k_ hk_ => ⟨hk_.2, Or.elim hk_.1 (fun hs_ => Or.elim hs_ (fun hs_ => ((Kd.R_types (Kd.R_apart' (HO_865002.out) (Kd.R_typed HO_865003.out) (by decide)) BK864.out (by decide)).1 k_ hs_.symm).2) (fun hs_ => ((Kd.R_types (Kd.R_apart' (HO_865003.out) (Kd.R_typed HO_865002.out) (by decide)) BK864.out (by decide)).1 k_ hs_.symm).2)) (fun hn_ => (Kd.freshB (bQ BK864) k_ hn_))⟩)) (below_size (bC HB))); have HO883 := Aside0.mk (Kd.V_lower (Kd.V_mono (ok' := fun k_ => some k_ ≠ (v876 : Value).ownBlock ∧ k_ ≠ gb864) ho2 (fun k_ hk_ => ⟨hk_.2, Or.elim hk_.1 (fun hs_ => Or.elim hs_ (fun hs_ => ((Kd.R_types (Kd.R_apart' (HO_865002.out) (Kd.R_typed HO_865003.out) (by decide)) BK864.out (by decide)).1 k_ hs_.symm).2) (fun hs_ => ((Kd.R_types (Kd.R_apart' (HO_865003.out) (Kd.R_typed HO_865002.out) (by decide)) BK864.out (by decide)).1 k_ hs_.symm).2)) (fun hn_ => (Kd.freshB (bQ BK864) k_ hn_))⟩)) (below_size (bC HB))); replace HO_865002 := Aside0.mk (Kd.R_below (by (with_reducible repeat (first | apply Kd.R_alloc | apply Kd.R_drewN | apply Kd.R_drew)); exact HO_865002.out) hb); replace HO_865003 := Aside0.mk (Kd.R_below (by (with_reducible repeat (first | apply Kd.R_alloc | apply Kd.R_drewN | apply Kd.R_drew)); exact HO_865003.out) hb); replace BK864 := bB BK864 hb; replace HB := bW HB hb; (try clear hb); (try clear hb2); (try clear hk); (try clear hi); (try clear ho0); (try clear ho1); (try clear ho2); obtain ⟨Ao75, co75, eo75⟩ := Kd.R_slice HO877.out; subst eo75; obtain ⟨Ao76, co76, eo76⟩ := Kd.V_slice HO880.out; subst eo76; obtain ⟨Ao77, co77, eo77⟩ := Kd.V_slice HO883.out; subst eo77) | ((with_reducible refine gate_callee (f := 20) rfl ?_); refine goesL_ (some 51) rfl rfl Try.func20 (by kernel_rfl) rfl #[.agg #[.bool t874, .slice Ao75 t875.length co75, .slice Ao76 t878.length co76, .slice Ao77 t881.length co77], .string a1] rfl (by (try simp only [List.map_toArray, List.map_cons, List.map_nil]); first | done | rfl | (simp only [List.length_drop, List.length_take]; rfl)) ?_; (with_reducible refine (node_Kid.calls k2 t874 _ _ t875 _ _ t878 _ _ t881 a1 t884 _ ?side1 ?side2 ?side3 ?side4 ?side5 ?side6 A31.out).mono ?_); (case side1 => repeat (first | exact (Kd.R_reads' HO877.out).2.2 | (with_reducible refine Kd.C_alloc ?_ _) | (with_reducible refine Kd.C_drewN ?_ _) | (with_reducible refine Kd.C_drew ?_))); (case side2 => exact (Kd.R_reads' HO877.out).2.1); (case side3 => repeat (first | exact (Kd.V_reads' HO880.out).2.2 | (with_reducible refine Kd.C_alloc ?_ _) | (with_reducible refine Kd.C_drewN ?_ _) | (with_reducible refine Kd.C_drew ?_))); (case side4 => exact (Kd.V_reads' HO880.out).2.1); (case side5 => repeat (first | exact (Kd.V_reads' HO883.out).2.2 | (with_reducible refine Kd.C_alloc ?_ _) | (with_reducible refine Kd.C_drewN ?_ _) | (with_reducible refine Kd.C_drew ?_))); (case side6 => exact (Kd.V_reads' HO883.out).2.1); rintro e w78 ⟨rfl, hb⟩; refine ⟨_, rfl, ?_⟩; replace HO_865002 := Aside0.mk (Kd.R_below (by (with_reducible repeat (first | apply Kd.R_alloc | apply Kd.R_drewN | apply Kd.R_drew)); exact HO_865002.out) hb); replace HO_865003 := Aside0.mk (Kd.R_below (by (with_reducible repeat (first | apply Kd.R_alloc | apply Kd.R_drewN | apply Kd.R_drew)); exact HO_865003.out) hb); replace HO877 := Aside0.mk (Kd.R_below (by (with_reducible repeat (first | apply Kd.R_alloc | apply Kd.R_drewN | apply Kd.R_drew)); exact HO877.out) hb); replace HO880 := Aside0.mk (Kd.V_below (by (with_reducible repeat (first | apply Kd.V_alloc | apply Kd.V_drewN | apply Kd.V_drew)); exact HO880.out) hb); replace HO883 := Aside0.mk (Kd.V_below (by (with_reducible repeat (first | apply Kd.V_alloc | apply Kd.V_drewN | apply Kd.V_drew)); exact HO883.out) hb); replace BK864 := bB BK864 hb; replace HB := bW HB hb; (try clear hb); (try clear hb2); (try clear hk); (try clear hi); obtain ⟨hcz79_0, hcz79_1, hcz79_2, hcz79_3, hfz79_0, hfz79_1, hfz79_2, hfz79_3⟩ := bf4 (w := w78) BK864; have p886 : 0 ≤ ((ji55) : Int) := of_decide_eq_true (by first | (with_reducible assumption) | assumption); have q886 : (ji55) < (x865002_2.length : Int) := of_decide_eq_true (by first | (with_reducible assumption) | assumption); obtain ⟨ad886, e886, hx886_0⟩ := Kd.at_string (Kd.R_reads' HO_865002.out).2.2 (ji55) p886 q886; cases e886; replace p886 := eq_true p886; replace q886 := eq_true q886; have p887 : 0 ≤ (t884 : Int) := of_decide_eq_true (by first | (with_reducible assumption) | assumption); have q887 : t884 < (x865002_2.length : Int) := of_decide_eq_true (by first | (with_reducible assumption) | assumption); obtain ⟨ad887, e887, hx887_0⟩ := Kd.at_string (Kd.R_reads' HO_865002.out).2.2 t884 p887 q887; obtain rfl : ad886 = ad887 := (by injection e887); replace p887 := eq_true p887; replace q887 := eq_true q887))
                 go_ret
                 exact ⟨by first | rfl | (simp [errW_none, errW_some] <;> rfl) | (simp only [← hji55]; first | rfl | (simp [errW_none, errW_some] <;> rfl)) | (simp [*, errW_none, errW_some] <;> rfl), by repeat (first | (with_reducible first | exact HB.out | apply below_alloc | apply pw_below_drewN | apply below_drew1 | refine below_set ?_ GE864.out) | exact HB.out)⟩
                ·rw [if_neg c70] at H
                 exact absurd H (by simp)
               ·rw [if_neg c69] at H
                exact absurd H (by simp)
            ·rw [if_neg c57] at H
             exact absurd H (by simp)
           ·rw [if_neg c56] at H
            exact absurd H (by simp)
 ·replace c4 := Bool.eq_false_iff.mpr c4
  subst c4
  have H1 : (none) = some r := by rw [if_neg (show ¬ (false = true) by decide)] at H; exact H
  clear H
  have H := H1
  clear H1
  exact absurd H (by simp)
/-- THE ONE PURE STATEMENT of engrosslaw11_NodeKids: yours. -/
def engrosslaw11_NodeKids.Pure : Prop := ∀ (a0 : Int) (a1 : ByteArray), (Lit.int .i64 a0).wf = true → a1.size ≤ 140737488351232 → ∃ k, engrosslaw11_NodeKids.f k a0 a1 = some true
theorem engrosslaw11_NodeKids.walk (P : engrosslaw11_NodeKids.Pure) (a0 : Int) (a1 : ByteArray) (w : World) (w0 : (Lit.int .i64 a0).wf = true) (w1 : a1.size ≤ 140737488351232) :
  Calls Try.prog 8 #[.int .i64 a0, .string a1] w fun e w' => e = .returned (.bool true) ∧ Below w.heap.size w w' := by
 obtain ⟨k, h⟩ := P a0 a1 w0 w1
 refine (engrosslaw11_NodeKids.calls k a0 a1 true w h).mono ?_
 rintro e w' ⟨rfl, hd⟩
 exact ⟨rfl, hd⟩
end Go.Proofs.Ytmmjpieafbjggaa.P
end
section
set_option linter.unusedVariables false
set_option linter.unusedSimpArgs false
namespace Go.Proofs.Ytmmjpieafbjggaa.Pure
open Go.RowKit Go.Proofs.YtmmjpieafbjggaaW.PrintWords Go.Proofs.YtmmjpieafbjggaaW.PrintLast
/-- The n low bytes of u, the highest first. -/
def be : Nat → Nat → List Int
  | 0, _ => []
  | n + 1, u => ((u / 256 ^ n % 256 : Nat) : Int) :: be n u
end Go.Proofs.Ytmmjpieafbjggaa.Pure
end
section
set_option linter.unusedVariables false
set_option linter.unusedSimpArgs false
namespace Go.Proofs.Ytmmjpieafbjggaa.P
open Go.RowKit Go.Proofs.YtmmjpieafbjggaaW.PrintWords
theorem sw : Ieee.double.signWeight = 9223372036854775808 := by decide
theorem ir : Ieee.double.infRung = 9218868437227405312 := by decide
theorem bd : Ieee.double.binade = 4503599627370496 := by decide
theorem read_nan {a : Nat} (h : 9218868437227405312 < a % 9223372036854775808) : ∃ s f, Ieee.double.read a = .nan s f := by
  unfold Ieee.Format.read
  rw [sw, ir, bd]
  dsimp only
  rw [if_neg (by omega), if_neg (by omega), if_neg (by omega)]
  exact ⟨_, _, rfl⟩
theorem read_num {a : Nat} (h : a % 9223372036854775808 ≤ 9218868437227405312) : ∀ s f, Ieee.double.read a ≠ .nan s f := by
  intro s f
  unfold Ieee.Format.read
  rw [sw, ir, bd]
  dsimp only
  by_cases h1 : a % 9223372036854775808 < 4503599627370496
  · rw [if_pos h1]; simp
  · rw [if_neg h1]
    by_cases h2 : a % 9223372036854775808 < 9218868437227405312
    · rw [if_pos h2]; simp
    · rw [if_neg h2, if_pos (by omega)]; simp
theorem order_nan {x y : Nat} (h : 9218868437227405312 < x % 9223372036854775808) : FloatKind.f64.format.order x y = none := by
  obtain ⟨s, f, e⟩ := read_nan h
  show (Ieee.double.read x).order (Ieee.double.read y) = none
  rw [e]
  cases Ieee.double.read y <;> rfl
theorem order_self {x : Nat} (h : x % 9223372036854775808 ≤ 9218868437227405312) : FloatKind.f64.format.order x x = some .eq := by
  have hr := read_num h
  show (Ieee.double.read x).order (Ieee.double.read x) = some .eq
  cases e : Ieee.double.read x with
  | number s m i => simp [Ieee.Datum.order]
  | infinity s => simp [Ieee.Datum.order]
  | nan s f => exact absurd e (hr s f)
theorem self_ne (x : Nat) : (FloatKind.f64.format.order x x != some .eq) = decide (9218868437227405312 < x % 9223372036854775808) := by
  by_cases h : 9218868437227405312 < x % 9223372036854775808
  · rw [order_nan h, decide_eq_true h]; rfl
  · rw [order_self (by omega), decide_eq_false h]; rfl
end Go.Proofs.Ytmmjpieafbjggaa.P
end
section
set_option linter.unusedVariables false
set_option linter.unusedSimpArgs false
namespace Go.Proofs.Ytmmjpieafbjggaa.Pure
open Go.RowKit Go.Proofs.Ytmmjpieafbjggaa.P Go.Proofs.YtmmjpieafbjggaaW.PrintWords Go.Proofs.YtmmjpieafbjggaaW.PrintLast Go.Proofs.YtmmjpieafbjggaaW.PrintMore
theorem clean_is (a : Nat) : float_Clean.f a = some (if 9218868437227405312 < a % 9223372036854775808 then 9221120237041090560 else a) := by
  unfold float_Clean.f math_IsNaN.f
  rw [self_ne]
  simp only [Option.bind_some, decide_eq_true_eq]
  split <;> rfl
theorem w64' {x : Int} (h : -9223372036854775808 ≤ x ∧ x ≤ 9223372036854775807) : wrap64 x = x := by unfold wrap64; omega
end Go.Proofs.Ytmmjpieafbjggaa.Pure
end
section
set_option linter.unusedVariables false
set_option linter.unusedSimpArgs false
namespace Go.Proofs.Ytmmjpieafbjggaa.Pure
open Go.RowKit Go.Proofs.YtmmjpieafbjggaaW.PrintWords Go.Proofs.YtmmjpieafbjggaaW.PrintLast
/-- The bytes of a natural number. -/
def enc (u : Nat) : List Int := if h : u < 128 then [(u : Int)] else ((u % 128 + 128 : Nat) : Int) :: enc (u / 128)
termination_by u
end Go.Proofs.Ytmmjpieafbjggaa.Pure
end
section
set_option linter.unusedVariables false
set_option linter.unusedSimpArgs false
namespace Go.Proofs.Ytmmjpieafbjggaa.Pure
open Go.RowKit Go.Proofs.Ytmmjpieafbjggaa.P Go.Proofs.YtmmjpieafbjggaaW.PrintWords Go.Proofs.YtmmjpieafbjggaaW.PrintLast Go.Proofs.YtmmjpieafbjggaaW.PrintMore
theorem w64 {x : Int} (h : -9223372036854775808 ≤ x ∧ x ≤ 9223372036854775807) : wrap64 x = x := by unfold wrap64; omega
end Go.Proofs.Ytmmjpieafbjggaa.Pure
end
section
set_option linter.unusedVariables false
set_option linter.unusedSimpArgs false
namespace Go.Proofs.Ytmmjpieafbjggaa.Pure
open Go.RowKit Go.Proofs.Ytmmjpieafbjggaa.P Go.Proofs.YtmmjpieafbjggaaW.PrintWords Go.Proofs.YtmmjpieafbjggaaW.PrintLast Go.Proofs.YtmmjpieafbjggaaW.PrintMore
/-- All NaNs one. -/
def cl (f : Nat) : Nat := if 9218868437227405312 < f % 9223372036854775808 then 9221120237041090560 else f
/-- May a value be? -/
def mayV (kd : Int) (f : Nat) (s : ByteArray) : Bool :=
  if kd = 0 then decide (f = 0) && decide (s.toList = []) else if kd = 1 then decide (s.toList = []) && decide (cl f = f) else if kd = 2 then decide (f = 0) && decide (s.size ≤ 20) else false
theorem may_is (kd : Int) (f : Nat) (s : ByteArray) : datum_May.f kd f s = some (mayV kd f s) := by
  unfold datum_May.f mayV datum_zero.f
  simp only [Option.bind_some]
  by_cases h0 : kd = 0
  · rw [if_pos h0, if_pos h0]
    by_cases hf : f = 0
    · subst hf
      rw [if_pos (by rfl)]
      congr 1
      rw [Bool.eq_iff_iff]
      simp
    · rw [if_neg (by simp; omega)]
      simp [hf]
  · rw [if_neg h0, if_neg h0]
    by_cases h1 : kd = 1
    · rw [if_pos h1, if_pos h1]
      by_cases hs : s.toList = []
      · rw [if_pos hs, clean_is]
        simp only [Option.bind_some]
        congr 1
        rw [Bool.eq_iff_iff]
        unfold cl
        simp only [hs, decide_true, Bool.true_and, beq_iff_eq, decide_eq_true_eq]
        omega
      · rw [if_neg hs]
        simp [hs]
    · rw [if_neg h1, if_neg h1]
      by_cases h2 : kd = 2
      · rw [if_pos h2, if_pos h2]
        by_cases hf : f = 0
        · subst hf
          rw [if_pos (by rfl)]
          congr 1
          rw [Bool.eq_iff_iff]
          simp
          omega
        · rw [if_neg (by simp; omega)]
          simp [hf]
      · rw [if_neg h2, if_neg h2]
theorem cut_mid {l : List Int} {n : Nat} : (l.take (n + 8)).drop n = (l.drop n).take 8 := by
  rw [List.drop_take]
  congr 1
  omega
end Go.Proofs.Ytmmjpieafbjggaa.Pure
end
section
set_option linter.unusedVariables false
set_option linter.unusedSimpArgs false
namespace Go.Proofs.Ytmmjpieafbjggaa.Pure
open Go.RowKit Go.Proofs.Ytmmjpieafbjggaa.P Go.Proofs.YtmmjpieafbjggaaW.PrintWords Go.Proofs.YtmmjpieafbjggaaW.PrintLast Go.Proofs.YtmmjpieafbjggaaW.PrintMore
/-- May a text be a key? -/
def mayK (s : ByteArray) : Bool := decide (1 ≤ s.size) && decide (s.size ≤ 16)
theorem list_nil_iff (s : ByteArray) : s.toList = ([] : List UInt8) ↔ s.size = 0 := by
  rw [Go.ByteArray.toList_eq]
  constructor
  · intro h
    have := congrArg List.length h
    rw [Array.length_toList] at this
    exact this
  · intro h
    refine List.eq_nil_of_length_eq_zero ?_
    rw [Array.length_toList]
    exact h
theorem maykey_is (s : ByteArray) : key_May.f s = some (mayK s) := by
  unfold key_May.f mayK
  by_cases h : s.toList = ([] : List UInt8)
  · rw [if_pos h]
    have := (list_nil_iff s).1 h
    simp [this]
  · rw [if_neg h]
    have h0 : ¬ s.size = 0 := fun e => h ((list_nil_iff s).2 e)
    congr 1
    rw [Bool.eq_iff_iff]
    simp only [decide_eq_true_eq, Bool.and_eq_true]
    omega
/-- May a cell be? -/
def mayC (s : ByteArray) (kd : Int) (f : Nat) (t : ByteArray) (x : Int) (kd' : Int) (f' : Nat) (t' : ByteArray) : Bool :=
  mayK s && mayV kd f t && mayV kd' f' t' && decide (0 ≤ x) && decide (x ≤ 1099511627776) && (decide (0 < x) || decide (kd' = 0) && decide (kd ≠ 0))
theorem maycell_is (s : ByteArray) (kd : Int) (f : Nat) (t : ByteArray) (x : Int) (kd' : Int) (f' : Nat) (t' : ByteArray) {k : Nat} (hk : 1 ≤ k) : cell_May.f k s kd f t x kd' f' t' = some (mayC s kd f t x kd' f' t') := by
  obtain ⟨k, rfl⟩ : ∃ m, k = m + 1 := ⟨k - 1, by omega⟩
  unfold cell_May.f mayC
  rw [maykey_is, may_is, may_is]
  simp only [Option.bind_some, cell_May.j0, cell_none.f]
  cases mayK s
  · simp
  · cases mayV kd f t
    · simp
    · cases mayV kd' f' t'
      · simp
      · simp only [if_true, Bool.true_and]
        by_cases h0 : x < 0
        · rw [if_pos h0, decide_eq_false (show ¬ 0 ≤ x by omega)]; simp
        · rw [if_neg h0, decide_eq_true (show 0 ≤ x by omega)]
          by_cases h1 : x > 1099511627776
          · rw [decide_eq_true h1, decide_eq_false (show ¬ x ≤ 1099511627776 by omega)]; simp
          · rw [decide_eq_false h1, decide_eq_true (show x ≤ 1099511627776 by omega)]
            by_cases h2 : x > 0
            · simp [h2]
            · rw [if_neg (by decide), if_neg h2, decide_eq_false (show ¬ 0 < x by omega)]
              by_cases h3 : kd' = 0
              · simp only [h3, decide_true, Bool.true_and, Bool.false_or, if_true]
                by_cases h4 : kd = 0
                · simp [h4]
                · simp [h4]
              · simp [h3]
theorem toList_inj {s s' : ByteArray} (h : s.toList = s'.toList) : s = s' := by
  rw [Go.ByteArray.toList_eq, Go.ByteArray.toList_eq] at h
  exact ByteArray.ext (Array.toList_inj.1 h)
end Go.Proofs.Ytmmjpieafbjggaa.Pure
end
section
set_option linter.unusedVariables false
set_option linter.unusedSimpArgs false
namespace Go.Proofs.Ytmmjpieafbjggaa.Pure
open Go.RowKit Go.Proofs.Ytmmjpieafbjggaa.P Go.Proofs.YtmmjpieafbjggaaW.PrintWords Go.Proofs.YtmmjpieafbjggaaW.PrintLast Go.Proofs.YtmmjpieafbjggaaW.PrintMore
theorem drop_step {α : Type} {l : List α} {c : α} {cs : List α} {i : Nat} (h : l.drop i = c :: cs) : ∃ hlt : i < l.length, l[i] = c ∧ l.drop (i + 1) = cs := by
  have hlt : i < l.length := by
    have := congrArg List.length h
    simp at this
    omega
  have := List.getElem_cons_drop hlt
  rw [h] at this
  exact ⟨hlt, List.cons.inj this⟩
theorem drop_nil {α : Type} {l : List α} {i : Nat} (h : l.drop i = []) : l.length ≤ i := List.drop_eq_nil_iff.1 h
/-- What stands ahead of a place. -/
def prevO {α : Type} (l : List α) (i : Nat) : Option α := if i = 0 then none else l[i - 1]?
theorem prevO_zero {α : Type} (l : List α) : prevO l 0 = none := rfl
theorem prevO_succ {α : Type} {l : List α} {c : α} {cs : List α} {i : Nat} (h : l.drop i = c :: cs) : prevO l (i + 1) = some c := by
  obtain ⟨hlt, h1, _⟩ := drop_step h
  unfold prevO
  rw [if_neg (by omega), Nat.add_sub_cancel, List.getElem?_eq_getElem hlt, h1]
theorem prevO_pos {α : Type} {l : List α} {i : Nat} (h0 : 0 < i) (h1 : i ≤ l.length) : ∃ hlt : i - 1 < l.length, prevO l i = some (l[i - 1]'hlt) := by
  refine ⟨by omega, ?_⟩
  unfold prevO
  rw [if_neg (by omega), List.getElem?_eq_getElem (by omega)]
theorem rd62 {l : List S62} {i : Nat} (h : i < l.length) : rd_T62 l (i : Int) = l[i] := by
  unfold rd_T62
  simp [List.getD, h]
theorem rd56 {l : List S56} {i : Nat} (h : i < l.length) : rd_T56 l (i : Int) = l[i] := by
  unfold rd_T56
  simp [List.getD, h]
theorem rdS {l : List ByteArray} {i : Nat} (h : i < l.length) : rdOf ByteArray.empty l (i : Int) = l[i] := by
  unfold rdOf
  simp [List.getD, h]
theorem rdI {l : List Int} {i : Nat} (h : i < l.length) : rd l (i : Int) = l[i] := by
  unfold rd
  simp [List.getD, h]
def mayCell (x : S62) : Bool := mayC x.f0 x.f1.f0 x.f1.f1 x.f1.f2 x.f2 x.f3.f0 x.f3.f1 x.f3.f2
/-- Below a key, if there is one ahead. -/
def ltO (p : Option ByteArray) (s : ByteArray) : Bool := match p with | none => true | some q => Op.bytesLess q.toList s.toList
def goodC : Option ByteArray → List S62 → Bool
 | _, [] => true
 | p, x :: xs => mayCell x && (ltO p x.f0 && goodC (some x.f0) xs)
def goodK : Option ByteArray → List ByteArray → Bool
 | _, [] => true
 | p, x :: xs => mayK x && (ltO p x && goodK (some x) xs)
def goodI (l : List Int) : Bool := l.all fun n => decide (2 ≤ n) && decide (n < 32)
/-- May a node be? -/
def mayN (leaf : Bool) (cs : List S62) (keys : List ByteArray) (kids : List Int) : Bool :=
  if leaf = true then goodC none cs && (decide (keys.length = 0) && decide (kids.length = 0))
  else decide (cs.length = 0) && (goodK none keys && (goodI kids && (decide (1 ≤ kids.length) && (decide (kids.length ≤ 32) && decide (keys.length + 1 = kids.length)))))
theorem mayn_l0 (l : List S62) (keys : List ByteArray) (kids : List Int) (hl : l.length ≤ 1000) (cs : List S62) : ∀ (k i : Nat), l.drop i = cs → cs.length + 10 < k →
    node_May.l0 k l (l.length : Int) (i : Int) true l keys kids = some (goodC ((prevO l i).map S62.f0) cs && (decide (keys.length = 0) && decide (kids.length = 0))) := by
  induction cs with
  | nil =>
    intro k i hd hk
    obtain ⟨k, rfl⟩ : ∃ m, k = m + 1 := ⟨k - 1, by omega⟩
    have hi := drop_nil hd
    simp only [node_May.l0]
    rw [if_neg (by omega), if_pos trivial]
    simp only [goodC, Bool.true_and]
    by_cases h0 : keys.length = 0
    · rw [if_pos (by omega), decide_eq_true h0, Bool.true_and]
      congr 1
      rw [Bool.eq_iff_iff]
      simp only [beq_iff_eq, decide_eq_true_eq]
      omega
    · rw [if_neg (by omega), decide_eq_false h0, Bool.false_and]
  | cons c cs ih =>
    intro k i hd hk
    obtain ⟨k, rfl⟩ : ∃ m, k = m + 1 := ⟨k - 1, by omega⟩
    obtain ⟨hlt, hc, hd2⟩ := drop_step hd
    simp only [List.length_cons] at hk
    simp only [node_May.l0]
    rw [if_pos (by omega), if_pos (by omega), if_pos (by omega), if_pos trivial, rd62 hlt, hc, maycell_is _ _ _ _ _ _ _ _ (by omega), w64 (x := (i : Int) + 1) (by omega), show (i : Int) + 1 = ((i + 1 : Nat) : Int) from rfl]
    simp only [Option.bind_some, goodC]
    have hih := ih k (i + 1) hd2 (by omega)
    rw [prevO_succ hd] at hih
    show (if mayCell c = true then _ else _) = _
    cases hm : mayCell c
    · rw [if_neg (by decide)]
      simp
    · rw [if_pos rfl]
      by_cases h0 : 0 < i
      · obtain ⟨hlt', hp⟩ := prevO_pos (l := l) h0 (by omega)
        rw [if_pos (by omega), w64 (x := (i : Int) - 1) (by omega), show (i : Int) - 1 = ((i - 1 : Nat) : Int) by omega, if_pos (by omega), if_pos (by omega), rd62 hlt', hp]
        simp only [Option.map_some, ltO]
        by_cases hb : Op.bytesLess (l[i - 1].f0).toList (c.f0).toList = true
        · rw [if_pos hb, hih, hb]
          simp
        · rw [if_neg hb, Bool.eq_false_iff.2 hb]
          simp
      · have hi0 : i = 0 := by omega
        subst hi0
        rw [if_neg (by omega), hih, prevO_zero]
        simp [ltO]
theorem mayn_l2 (l : List Int) (keys : List ByteArray) (cs : List S62) (hl : l.length ≤ 1000) (ks : List Int) : ∀ (k i : Nat), l.drop i = ks → ks.length + 2 < k →
    node_May.l2 k l (l.length : Int) (i : Int) false cs keys l = some (goodI ks && (decide (1 ≤ l.length) && (decide (l.length ≤ 32) && decide (keys.length + 1 = l.length)))) := by
  induction ks with
  | nil =>
    intro k i hd hk
    obtain ⟨k, rfl⟩ : ∃ m, k = m + 1 := ⟨k - 1, by omega⟩
    have hi := drop_nil hd
    simp only [node_May.l2]
    rw [if_neg (by omega), w64 (x := (l.length : Int) - 1) (by omega)]
    simp only [goodI, List.all_nil, Bool.true_and]
    by_cases h1 : 1 ≤ l.length
    · rw [if_pos (by omega), decide_eq_true h1, Bool.true_and]
      by_cases h2 : l.length ≤ 32
      · rw [if_pos (by omega), decide_eq_true h2, Bool.true_and]
        congr 1
        rw [Bool.eq_iff_iff]
        simp only [beq_iff_eq, decide_eq_true_eq]
        omega
      · rw [if_neg (by omega), decide_eq_false h2, Bool.false_and]
    · rw [if_neg (by omega), decide_eq_false h1, Bool.false_and]
  | cons c ks ih =>
    intro k i hd hk
    obtain ⟨k, rfl⟩ : ∃ m, k = m + 1 := ⟨k - 1, by omega⟩
    obtain ⟨hlt, hc, hd2⟩ := drop_step hd
    simp only [List.length_cons] at hk
    simp only [node_May.l2]
    have hih := ih k (i + 1) hd2 (by omega)
    rw [if_pos (by omega), if_pos (by omega), if_pos (by omega), rdI hlt, hc, w64 (x := (i : Int) + 1) (by omega), show (i : Int) + 1 = ((i + 1 : Nat) : Int) from rfl, hih]
    simp only [goodI, List.all_cons]
    by_cases h2 : c < 2
    · rw [if_pos h2, decide_eq_false (show ¬ 2 ≤ c by omega)]
      simp
    · rw [if_neg h2, decide_eq_true (show 2 ≤ c by omega)]
      by_cases h3 : c ≥ 32
      · rw [if_pos h3, decide_eq_false (show ¬ c < 32 by omega)]
        simp
      · rw [if_neg h3, decide_eq_true (show c < 32 by omega)]
        simp
theorem mayn_l1 (l : List ByteArray) (kids : List Int) (cs : List S62) (hl : l.length ≤ 1000) (hl2 : kids.length ≤ 1000) (ks : List ByteArray) : ∀ (k i : Nat), l.drop i = ks → ks.length + kids.length + 10 < k →
    node_May.l1 k l (l.length : Int) (i : Int) false cs l kids = some (goodK (prevO l i) ks && (goodI kids && (decide (1 ≤ kids.length) && (decide (kids.length ≤ 32) && decide (l.length + 1 = kids.length))))) := by
  induction ks with
  | nil =>
    intro k i hd hk
    obtain ⟨k, rfl⟩ : ∃ m, k = m + 1 := ⟨k - 1, by omega⟩
    have hi := drop_nil hd
    simp only [node_May.l1]
    rw [if_neg (by omega)]
    have h := mayn_l2 kids l cs hl2 kids k 0 rfl (by omega)
    rw [show ((0 : Nat) : Int) = 0 from rfl] at h
    rw [h]
    simp [goodK]
  | cons c ks ih =>
    intro k i hd hk
    obtain ⟨k, rfl⟩ : ∃ m, k = m + 1 := ⟨k - 1, by omega⟩
    obtain ⟨hlt, hc, hd2⟩ := drop_step hd
    simp only [List.length_cons] at hk
    simp only [node_May.l1]
    have hih := ih k (i + 1) hd2 (by omega)
    rw [prevO_succ hd] at hih
    rw [if_pos (by omega), if_pos (by omega), if_pos (by omega), rdS hlt, hc, maykey_is, w64 (x := (i : Int) + 1) (by omega), show (i : Int) + 1 = ((i + 1 : Nat) : Int) from rfl]
    simp only [Option.bind_some, goodK]
    cases hm : mayK c
    · rw [if_neg (by decide)]
      simp
    · rw [if_pos rfl]
      by_cases h0 : 0 < i
      · obtain ⟨hlt', hp⟩ := prevO_pos (l := l) h0 (by omega)
        rw [if_pos (by omega), w64 (x := (i : Int) - 1) (by omega), show (i : Int) - 1 = ((i - 1 : Nat) : Int) by omega, if_pos (by omega), if_pos (by omega), rdS hlt', hp]
        simp only [ltO]
        by_cases hb : Op.bytesLess (l[i - 1]).toList c.toList = true
        · rw [if_pos hb, hih, hb]
          simp
        · rw [if_neg hb, Bool.eq_false_iff.2 hb]
          simp
      · have hi0 : i = 0 := by omega
        subst hi0
        rw [if_neg (by omega), hih, prevO_zero]
        simp [ltO]
theorem maynode_is (leaf : Bool) (cs : List S62) (keys : List ByteArray) (kids : List Int) (h1 : cs.length ≤ 1000) (h2 : keys.length ≤ 1000) (h3 : kids.length ≤ 1000) {k : Nat} (hk : 4000 ≤ k) :
    node_May.f k leaf cs keys kids = some (mayN leaf cs keys kids) := by
  unfold node_May.f mayN
  cases leaf
  · rw [if_neg (by decide)]
    obtain ⟨k, rfl⟩ : ∃ m, k = m + 1 := ⟨k - 1, by omega⟩
    cases cs with
    | nil =>
      simp only [node_May.l0, List.length_nil]
      rw [if_neg (by decide), if_neg (by decide)]
      have h := mayn_l1 keys kids [] h2 h3 keys k 0 rfl (by omega)
      rw [show ((0 : Nat) : Int) = 0 from rfl, prevO_zero] at h
      rw [h]
      simp
    | cons c cs =>
      simp only [node_May.l0]
      rw [if_pos (by simp only [List.length_cons]; omega), if_pos (by decide), if_pos (by simp only [List.length_cons]; omega), if_neg (by decide)]
      simp
  · rw [if_pos rfl]
    have h := mayn_l0 cs keys kids h1 cs k 0 rfl (by omega)
    rw [show ((0 : Nat) : Int) = 0 from rfl, prevO_zero] at h
    exact h
theorem mayN_inner {cs : List S62} {keys : List ByteArray} {kids : List Int} (h : mayN false cs keys kids = true) : cs = [] ∧ goodK none keys = true ∧ goodI kids = true ∧ 1 ≤ kids.length ∧ kids.length ≤ 32 ∧ keys.length + 1 = kids.length := by
  unfold mayN at h
  rw [if_neg (by decide)] at h
  simp only [Bool.and_eq_true, decide_eq_true_eq] at h
  exact ⟨List.eq_nil_of_length_eq_zero h.1, h.2.1, h.2.2.1, h.2.2.2.1, h.2.2.2.2.1, h.2.2.2.2.2⟩
def toC (x : S56) : S62 := ⟨x.f0, x.f1, x.f2, x.f3⟩
theorem ofn_l0 (leaf : Bool) (l : List S56) (keys : List ByteArray) (kids : List Int) (hl : l.length ≤ 1000) (cs : List S56) : ∀ (k i : Nat) (acc : List S62), l.drop i = cs → cs.length + 2 < k → acc.length ≤ i →
    engrosslaw11_Of.l0 k (i : Int) leaf l keys kids leaf acc keys kids = some (leaf, acc ++ cs.map toC, keys, kids) := by
  induction cs with
  | nil =>
    intro k i acc hd hk ha
    obtain ⟨k, rfl⟩ : ∃ m, k = m + 1 := ⟨k - 1, by omega⟩
    have hi := drop_nil hd
    simp only [engrosslaw11_Of.l0]
    rw [if_neg (by omega)]
    simp
  | cons c cs ih =>
    intro k i acc hd hk ha
    obtain ⟨k, rfl⟩ : ∃ m, k = m + 1 := ⟨k - 1, by omega⟩
    obtain ⟨hlt, hc, hd2⟩ := drop_step hd
    simp only [List.length_cons] at hk
    simp only [engrosslaw11_Of.l0]
    rw [if_pos (by omega), if_pos (by omega), rd56 hlt, hc]
    simp only [engrosslaw10_Of.f, Option.bind_some]
    rw [if_pos (by omega), w64 (x := (i : Int) + 1) (by omega), show (i : Int) + 1 = ((i + 1 : Nat) : Int) from rfl]
    have := ih k (i + 1) (acc ++ [toC c]) hd2 (by omega) (by rw [List.length_append]; simp; omega)
    rw [show (⟨c.f0, (⟨c.f1.f0, c.f1.f1, c.f1.f2⟩ : S54), c.f2, (⟨c.f3.f0, c.f3.f1, c.f3.f2⟩ : S54)⟩ : S62) = toC c from rfl, this]
    simp
theorem ofn_is (leaf : Bool) (l : List S56) (keys : List ByteArray) (kids : List Int) (hl : l.length ≤ 1000) {k : Nat} (hk : 1010 ≤ k) : engrosslaw11_Of.f k leaf l keys kids = some (leaf, l.map toC, keys, kids) := by
  unfold engrosslaw11_Of.f
  have := ofn_l0 leaf l keys kids hl l k 0 [] rfl (by omega) (by simp)
  rw [show ((0 : Nat) : Int) = 0 from rfl] at this
  rw [this]
  simp
end Go.Proofs.Ytmmjpieafbjggaa.Pure
end
section
set_option linter.unusedVariables false
set_option linter.unusedSimpArgs false
namespace Go.Proofs.Ytmmjpieafbjggaa.Pure
open Go.RowKit Go.Proofs.YtmmjpieafbjggaaW.PrintWords Go.Proofs.YtmmjpieafbjggaaW.PrintLast Go.Proofs.YtmmjpieafbjggaaW.PrintMore
theorem less_irr (l : List UInt8) : Op.bytesLess l l = false := by
  induction l with
  | nil => rfl
  | cons a l ih => simp [Op.bytesLess, ih]
theorem less_cons (a b : UInt8) (l m : List UInt8) : Op.bytesLess (a :: l) (b :: m) = true ↔ a < b ∨ a = b ∧ Op.bytesLess l m = true := by
  simp [Op.bytesLess]
theorem less_tri (l : List UInt8) : ∀ m, Op.bytesLess l m = true ∨ l = m ∨ Op.bytesLess m l = true := by
  induction l with
  | nil => intro m; cases m with
    | nil => exact .inr (.inl rfl)
    | cons b m => exact .inl rfl
  | cons a l ih =>
    intro m
    cases m with
    | nil => exact .inr (.inr rfl)
    | cons b m =>
      rw [less_cons, less_cons]
      have : a < b ∨ a = b ∨ b < a := by
        rw [UInt8.lt_iff_toNat_lt, UInt8.lt_iff_toNat_lt, ← UInt8.toNat_inj]
        omega
      rcases this with h | h | h
      · exact .inl (.inl h)
      · subst h
        rcases ih m with h | h | h
        · exact .inl (.inr ⟨rfl, h⟩)
        · exact .inr (.inl (by rw [h]))
        · exact .inr (.inr (.inr ⟨rfl, h⟩))
      · exact .inr (.inr (.inl h))
theorem less_trans (l : List UInt8) : ∀ m n, Op.bytesLess l m = true → Op.bytesLess m n = true → Op.bytesLess l n = true := by
  induction l with
  | nil => intro m n h1 h2; cases n with
    | nil => cases m <;> cases h2
    | cons c n => rfl
  | cons a l ih =>
    intro m n h1 h2
    cases m with
    | nil => cases h1
    | cons b m =>
      cases n with
      | nil => cases h2
      | cons c n =>
        rw [less_cons] at h1 h2 ⊢
        rcases h1 with h1 | ⟨rfl, h1⟩
        · rcases h2 with h2 | ⟨rfl, h2⟩
          · left; rw [UInt8.lt_iff_toNat_lt] at h1 h2 ⊢; omega
          · exact .inl h1
        · rcases h2 with h2 | ⟨rfl, h2⟩
          · exact .inl h2
          · exact .inr ⟨rfl, ih _ _ h1 h2⟩
theorem less_asym {l m : List UInt8} (h : Op.bytesLess l m = true) : Op.bytesLess m l = false := by
  cases e : Op.bytesLess m l with
  | false => rfl
  | true => have := less_trans _ _ _ h e; rw [less_irr] at this; cases this
theorem le_trans' {l m n : List UInt8} (h1 : Op.bytesLess m l = false) (h2 : Op.bytesLess n m = false) : Op.bytesLess n l = false := by
  rcases less_tri l m with h | h | h
  · rcases less_tri m n with g | g | g
    · exact less_asym (less_trans _ _ _ h g)
    · subst g; exact less_asym h
    · rw [g] at h2; cases h2
  · subst h; exact h2
  · rw [h] at h1; cases h1
end Go.Proofs.Ytmmjpieafbjggaa.Pure
end
section
set_option linter.unusedVariables false
set_option linter.unusedSimpArgs false
namespace Go.Proofs.Ytmmjpieafbjggaa.Pure
open Go.RowKit Go.Proofs.Ytmmjpieafbjggaa.P Go.Proofs.YtmmjpieafbjggaaW.PrintWords Go.Proofs.YtmmjpieafbjggaaW.PrintLast Go.Proofs.YtmmjpieafbjggaaW.PrintMore
/-- Texts, each below the next ones. -/
def Rise (l : List ByteArray) : Prop := ∀ (i j : Nat) (hi : i < l.length) (hj : j < l.length), i < j → Op.bytesLess l[i].toList l[j].toList = true
theorem rise_cons {c : ByteArray} {cs : List ByteArray} (h : ∀ x ∈ cs, Op.bytesLess c.toList x.toList = true) (hr : Rise cs) : Rise (c :: cs) := by
  intro i j hi hj hij
  cases j with
  | zero => omega
  | succ j =>
    simp only [List.length_cons] at hi hj
    cases i with
    | zero => exact h _ (List.getElem_mem (by omega))
    | succ i => exact hr i j (by omega) (by omega) (by omega)
theorem good_rise : ∀ {l : List ByteArray} {p : Option ByteArray}, goodK p l = true → Rise l ∧ ∀ q, p = some q → ∀ x ∈ l, Op.bytesLess q.toList x.toList = true
 | [], _, _ => ⟨fun i j hi => by simp at hi, fun q _ x hx => by cases hx⟩
 | c :: cs, p, h => by
  simp only [goodK, Bool.and_eq_true] at h
  obtain ⟨_, h2, h3⟩ := h
  obtain ⟨r1, r2⟩ := good_rise h3
  refine ⟨rise_cons (r2 c rfl) r1, fun q hq x hx => ?_⟩
  subst hq
  simp only [ltO] at h2
  rcases List.mem_cons.1 hx with e | hx
  · rw [e]; exact h2
  · exact less_trans _ _ _ h2 (r2 c rfl x hx)
theorem nans (s : ByteArray) : cmp_isNaN_string.f s = some false := by
  unfold cmp_isNaN_string.f
  simp
theorem nans2 (s : ByteArray) : slices_isNaN_string.f s = some false := by
  unfold slices_isNaN_string.f
  simp
theorem cless (a b : ByteArray) : cmp_Less_string.f a b = some (Op.bytesLess a.toList b.toList) := by
  unfold cmp_Less_string.f
  rw [nans]
  simp only [Option.bind_some]
  rw [if_neg (by decide)]
theorem mid_is {lo hi : Nat} (h : lo ≤ 1000) (h2 : hi ≤ 1000) : wrap64 ((IntKind.u64.wrap (wrap64 ((lo : Int) + (hi : Int)))) / 2) = (((lo + hi) / 2 : Nat) : Int) := by
  rw [w64 (x := (lo : Int) + hi) (by omega), IntKind.wrap_u64, w64 (by omega)]
  omega
theorem bs_l0 (l : List ByteArray) (x : ByteArray) (hr : Rise l) (hl : l.length ≤ 1000) (d : Nat) : ∀ (k lo hi : Nat), hi - lo ≤ d → lo ≤ hi → hi ≤ l.length → d + 2 < k →
    (∀ (j : Nat) (h : j < l.length), j < lo → Op.bytesLess l[j].toList x.toList = true) → (∀ (j : Nat) (h : j < l.length), hi ≤ j → Op.bytesLess l[j].toList x.toList = false) →
    ∃ (i : Nat) (y : Bool), slices_BinarySearch_string_string.l0 k l x (l.length : Int) (lo : Int) (hi : Int) = some ((i : Int), y) ∧ i ≤ l.length ∧
      (∀ (j : Nat) (h : j < l.length), j < i → Op.bytesLess l[j].toList x.toList = true) ∧ (∀ (j : Nat) (h : j < l.length), i ≤ j → Op.bytesLess l[j].toList x.toList = false) ∧
      (y = true ↔ ∃ h : i < l.length, l[i] = x) := by
  induction d with
  | zero =>
    intro k lo hi hd hlh hhl hk h1 h2
    obtain ⟨k, rfl⟩ : ∃ m, k = m + 1 := ⟨k - 1, by omega⟩
    have hE : lo = hi := by omega
    subst hE
    simp only [slices_BinarySearch_string_string.l0]
    rw [if_neg (by omega)]
    by_cases hn : lo < l.length
    · rw [if_pos (by omega), if_pos (by omega), if_pos (by omega), rdS hn]
      by_cases he : l[lo].toList = x.toList
      · rw [if_pos he]
        exact ⟨lo, true, rfl, by omega, h1, h2, iff_of_true rfl ⟨hn, toList_inj he⟩⟩
      · rw [if_neg he, nans2]
        simp only [Option.bind_some]
        rw [if_neg (by decide)]
        refine ⟨lo, false, rfl, by omega, h1, h2, iff_of_false (by decide) ?_⟩
        rintro ⟨_, e⟩
        exact he (by rw [e])
    · rw [if_neg (by omega)]
      refine ⟨lo, false, rfl, by omega, h1, h2, iff_of_false (by decide) ?_⟩
      rintro ⟨e, _⟩
      exact hn e
  | succ d ih =>
    intro k lo hi hd hlh hhl hk h1 h2
    by_cases hE : lo = hi
    · exact ih k lo hi (by omega) hlh hhl (by omega) h1 h2
    · obtain ⟨k, rfl⟩ : ∃ m, k = m + 1 := ⟨k - 1, by omega⟩
      have hm : (lo + hi) / 2 < l.length := by omega
      simp only [slices_BinarySearch_string_string.l0]
      rw [if_pos (by omega), mid_is (by omega) (by omega), if_pos (by omega), if_pos (by omega), rdS hm, cless]
      simp only [Option.bind_some]
      by_cases hb : Op.bytesLess (l[(lo + hi) / 2]).toList x.toList = true
      · rw [if_pos hb, w64 (x := (((lo + hi) / 2 : Nat) : Int) + 1) (by omega), show (((lo + hi) / 2 : Nat) : Int) + 1 = (((lo + hi) / 2 + 1 : Nat) : Int) from rfl]
        refine ih k ((lo + hi) / 2 + 1) hi (by omega) (by omega) hhl (by omega) ?_ h2
        intro j hj hlt
        by_cases he : j = (lo + hi) / 2
        · subst he; exact hb
        · exact less_trans _ _ _ (hr j ((lo + hi) / 2) hj hm (by omega)) hb
      · rw [if_neg hb]
        refine ih k lo ((lo + hi) / 2) (by omega) (by omega) (by omega) (by omega) h1 ?_
        intro j hj hle
        by_cases he : j = (lo + hi) / 2
        · subst he; exact Bool.eq_false_iff.2 hb
        · cases hc : Op.bytesLess l[j].toList x.toList with
          | false => rfl
          | true => exact absurd (less_trans _ _ _ (hr ((lo + hi) / 2) j hm hj (by omega)) hc) hb
/-- How many keys are at most a key: the kid it is led to. -/
theorem kid_is {keys : List ByteArray} {kids : List Int} (x : ByteArray) (hm : mayN false [] keys kids = true) {k : Nat} (hk : 4002 ≤ k) :
    ∃ c : Nat, node_Kid.f k false [] keys kids x = some (c : Int) ∧ c ≤ keys.length ∧ (∀ (j : Nat) (h : j < keys.length), j < c → Op.bytesLess x.toList keys[j].toList = false) ∧
      (∀ (j : Nat) (h : j < keys.length), c ≤ j → Op.bytesLess x.toList keys[j].toList = true) := by
  obtain ⟨k, rfl⟩ : ∃ m, k = m + 1 := ⟨k - 1, by omega⟩
  obtain ⟨_, g1, g2, n1, n2, n3⟩ := mayN_inner hm
  have hr := (good_rise g1).1
  obtain ⟨i, y, he, hi, h1, h2, h3⟩ := bs_l0 keys x hr (by omega) keys.length k 0 keys.length (by omega) (by omega) (by omega) (by omega) (fun j h hj => by omega) (fun j h hj => by omega)
  unfold node_Kid.f
  rw [if_neg (by decide), maynode_is false [] keys kids (by simp) (by omega) (by omega) (by omega), hm]
  simp only [Option.bind_some, node_Kid.j0]
  rw [if_neg (by decide)]
  unfold slices_BinarySearch_string_string.f
  rw [show ((0 : Nat) : Int) = 0 from rfl] at he
  rw [he]
  simp only [Option.bind_some]
  by_cases hy : y = true
  · obtain ⟨hlt, hx⟩ := h3.1 hy
    rw [if_pos hy, w64 (x := (i : Int) + 1) (by omega)]
    refine ⟨i + 1, rfl, by omega, fun j h hj => ?_, fun j h hj => ?_⟩
    · by_cases hji : j = i
      · subst hji; rw [hx]; exact less_irr _
      · exact less_asym (h1 j h (by omega))
    · rw [← hx]; exact hr i j hlt h (by omega)
  · rw [if_neg hy]
    refine ⟨i, rfl, hi, fun j h hj => less_asym (h1 j h hj), fun j h hj => ?_⟩
    rcases less_tri x.toList keys[j].toList with g | g | g
    · exact g
    · exfalso
      have hxj : keys[j] = x := toList_inj g.symm
      by_cases hji : j = i
      · subst hji; exact hy (h3.2 ⟨h, hxj⟩)
      · have := hr i j (by omega) h (by omega)
        rw [hxj, h2 i (by omega) (Nat.le_refl _)] at this
        cases this
    · rw [h2 j h hj] at g
      cases g
end Go.Proofs.Ytmmjpieafbjggaa.Pure
end
section
set_option linter.unusedVariables false
set_option linter.unusedSimpArgs false
namespace Go.Proofs.Ytmmjpieafbjggaa.Pure
open Go.RowKit Go.Proofs.Ytmmjpieafbjggaa.P Go.Proofs.YtmmjpieafbjggaaW.PrintWords Go.Proofs.YtmmjpieafbjggaaW.PrintLast Go.Proofs.YtmmjpieafbjggaaW.PrintMore
theorem begun11 {k : Nat} (hk : 100 ≤ k) : engrosslaw11_begun.f k = some true :=
  at_rounds (g := fun k => engrosslaw11_begun.f k) (fun k => engrosslaw11_begun.mono k) hk (show engrosslaw11_begun.f 100 = some true by decide +kernel)
end Go.Proofs.Ytmmjpieafbjggaa.Pure
end
section
set_option linter.unusedVariables false
set_option linter.unusedSimpArgs false
namespace Go.Proofs.Ytmmjpieafbjggaa.Pure
open Go.RowKit Go.Proofs.Ytmmjpieafbjggaa.P Go.Proofs.YtmmjpieafbjggaaW.PrintWords Go.Proofs.YtmmjpieafbjggaaW.PrintLast Go.Proofs.YtmmjpieafbjggaaW.PrintMore
def keysK (n : Nat) : List ByteArray := (List.range (n - 1)).map fun j : Nat => strOfNums ([98 + (j : Int)] : List Int)
def kidsK (n : Nat) : List Int := (List.range n).map fun j : Nat => 2 + (j : Int)
theorem keysK_len (n : Nat) : (keysK n).length = n - 1 := by simp [keysK]
theorem kidsK_len (n : Nat) : (kidsK n).length = n := by simp [kidsK]
theorem keysK_succ {i : Nat} (h : 0 < i) (hi : i ≤ 20) : keysK i ++ [strOfNums ([(wrap64 (97 + (i : Int))) % 256] : List Int)] = keysK (i + 1) := by
  obtain ⟨j, rfl⟩ : ∃ j, i = j + 1 := ⟨i - 1, by omega⟩
  unfold keysK
  rw [w64 (by omega), Nat.add_sub_cancel, Nat.add_sub_cancel, List.range_succ, List.map_append, List.map_cons, List.map_nil]
  congr 4
  omega
theorem kidsK_succ {i : Nat} (hi : i ≤ 20) : kidsK i ++ [wrap64 (2 + (i : Int))] = kidsK (i + 1) := by
  unfold kidsK
  rw [w64 (by omega), List.range_succ, List.map_append, List.map_cons, List.map_nil]
theorem mayK_all : ∀ n, n < 21 → 1 ≤ n → mayN false [] (keysK n) (kidsK n) = true := by decide +kernel
theorem kids_l0 (n : Nat) (h1 : 1 ≤ n) (h2 : n ≤ 20) (key : ByteArray) (d : Nat) : ∀ (k i : Nat), n - i = d → i ≤ n → d + 5000 < k →
    engrosslaw11_NodeKids.l0 k (n : Int) key (i : Int) false (keysK i) (kidsK i) = some true := by
  induction d with
  | zero =>
    intro k i hd hi hk
    obtain ⟨k, rfl⟩ : ∃ m, k = m + 1 := ⟨k - 1, by omega⟩
    obtain rfl : i = n := by omega
    have hm := mayK_all i (by omega) h1
    obtain ⟨c, hc, hcl, ha, hb⟩ := kid_is key hm (k := k) (by omega)
    have hl := keysK_len i
    simp only [engrosslaw11_NodeKids.l0]
    rw [if_neg (by omega), ofn_is false [] (keysK i) (kidsK i) (by simp) (by omega)]
    simp only [Option.bind_some, List.map_nil]
    rw [hc]
    simp only [Option.bind_some]
    rw [if_neg (by omega), if_neg (by omega), w64 (x := (i : Int) - 1) (by omega)]
    by_cases h0 : c = 0
    · rw [if_pos (by omega)]
      by_cases h3 : (c : Int) = (i : Int) - 1
      · rw [if_pos h3]
      · have hlt : c < (keysK i).length := by omega
        rw [if_neg h3, if_pos (by omega), if_pos (by omega), rdS hlt, hb c hlt (Nat.le_refl _)]
    · have hlt' : c - 1 < (keysK i).length := by omega
      rw [if_neg (by omega), w64 (x := (c : Int) - 1) (by omega), show (c : Int) - 1 = ((c - 1 : Nat) : Int) by omega, if_pos (by omega), if_pos (by omega), rdS hlt', if_neg (by rw [ha (c - 1) hlt' (by omega)]; decide)]
      by_cases h3 : (c : Int) = (i : Int) - 1
      · rw [if_pos h3]
      · have hlt : c < (keysK i).length := by omega
        rw [if_neg h3, if_pos (by omega), if_pos (by omega), rdS hlt, hb c hlt (Nat.le_refl _)]
  | succ d ih =>
    intro k i hd hi hk
    obtain ⟨k, rfl⟩ : ∃ m, k = m + 1 := ⟨k - 1, by omega⟩
    have hl := keysK_len i
    have hl2 := kidsK_len i
    simp only [engrosslaw11_NodeKids.l0]
    rw [if_pos (by omega), if_pos (by omega)]
    simp only [Option.bind_some]
    have hih := ih k (i + 1) (by omega) (by omega) (by omega)
    rw [kidsK_succ (by omega), w64 (x := (i : Int) + 1) (by omega), show (i : Int) + 1 = ((i + 1 : Nat) : Int) from rfl]
    by_cases h0 : 0 < i
    · rw [if_pos (by omega), if_pos (by omega), keysK_succ h0 (by omega), hih]
    · obtain rfl : i = 0 := by omega
      rw [if_neg (by omega)]
      exact hih
theorem NodeKids : engrosslaw11_NodeKids.Pure := by
  intro n key _ _
  obtain ⟨k, hk⟩ : ∃ k : Nat, 6000 ≤ k := ⟨6000, Nat.le_refl _⟩
  refine ⟨k, ?_⟩
  obtain ⟨k, rfl⟩ : ∃ m, k = m + 1 := ⟨k - 1, by omega⟩
  unfold engrosslaw11_NodeKids.f
  rw [begun11 (by omega)]
  simp only [Option.bind_some, engrosslaw11_NodeKids.j0]
  rw [if_pos trivial]
  by_cases h1 : n < 1
  · rw [if_pos h1, if_pos trivial]
  · rw [if_neg h1]
    by_cases h2 : n > 20
    · rw [if_pos h2, if_pos trivial]
    · rw [if_neg h2]
      by_cases h3 : ((key.size : Int) > 16)
      · rw [decide_eq_true h3, if_pos rfl]
      · rw [decide_eq_false h3, if_neg (by decide)]
        obtain ⟨m, rfl⟩ : ∃ m : Nat, n = (m : Int) := ⟨n.toNat, by omega⟩
        exact kids_l0 m (by omega) (by omega) key m k 0 (by omega) (by omega) (by omega)
end Go.Proofs.Ytmmjpieafbjggaa.Pure
end
section
namespace Go.Proofs.Ytmmjpieafbjggaa.nodeKids
open Go.ChangeShapes Go.WideShapes Go.ChangeAt Go.RowKit
open Go.ChangeMaps (open_string shut_string)
set_option linter.unusedVariables false
theorem own : ownKnob Try.prog.godebug = none := by kernel_rfl
set_option maxRecDepth 100000 in
theorem lifted (os : Os) (started : os.Started) (H : Type) (enc : TypeId × Value → H) :
    ReturnsInHanded {} Try.checked os 8 .any (Rows.nodeKidsSpec.pre6 enc Try.prog Try.f8 Rows.nodeKidsRow.domain false) (Rows.nodeKidsSpec.post enc Try.prog Try.f8 false true false false) := by
  refine returnsInHanded_of_change_sized (C := Try.checked) own started (by kernel_rfl) Try.func8
    (ChangeSpec.witness6 (enc := enc) (C := Try.checked) false ⟨#[], #[.int .i64 0, .string ByteArray.empty], []⟩ 8 (by kernel_rfl) (by kernel_rfl) (by kernel_rfl) (by kernel_rfl)) ?_
  intro W base args ds gs before hval0 hW hcnd hsz0 _
  have hsz : (DataW.weightsEach Try.prog (Try.f8.params.toList ++ Rows.nodeKidsSpec.plain.varTypes Try.prog) (ds ++ gs)).all (· ≤ reachBytes) = true := hsz0
  have hval : ∀ (j : Nat) t v, Try.f8.params[j]? = some t → args[j]? = some v → Value.okWide Try.prog W .any base t v := hval0
  have hW' := hW
  obtain ⟨p, q, hA0, hV, rfl, hfz, hnd⟩ := hW
  have hA : DataW.TrodAll enc Try.prog W 0 (fun _ => true) true Try.f8.params.toList args.toList ds p := hA0
  rw [Try.params8] at hA hval hsz
  obtain ⟨v0, vs0, d0, ds0, p0, q0, hargs, rfl, rfl, h0, r0⟩ := trodAll_cons hA
  obtain ⟨v1, vs1, d1, ds1, p1, q1, rfl, rfl, rfl, h1, r1⟩ := trodAll_cons r0
  obtain ⟨rfl, rfl, rfl⟩ := trodAll_nil r1
  obtain rfl : args = #[v0, v1] := by cases args; simp_all
  obtain ⟨rfl, rfl⟩ := trodVars_none hV
  obtain ⟨a0, rfl, rfl, rfl, w0⟩ := open_int Try.underlying3 (hval 0 3 v0 rfl rfl) h0
  obtain ⟨a1, rfl, rfl, rfl, y1⟩ := open_string Try.underlying9 (hval 1 9 v1 rfl rfl) h1
  have w1 : a1.size ≤ 140737488351232 := by
    have z := sized_string hsz (j := 1) (t := 9) rfl rfl
    rw [Array.length_toList] at z
    exact z
  clear hA0 hval0 hsz0 hsz
  refine (P.engrosslaw11_NodeKids.walk Pure.NodeKids a0 a1 W w0 w1).mono fun e W' ⟨he, bel⟩ => ?_
  subst he
  exact ⟨_, rfl, _, _, _, [], _, [], hW', trodAll_mk1 (shut_bool Try.underlying4 _), (trodAll_cons_mk (shut_int Try.underlying3 w0) (trodAll_cons_mk (shut_string Try.underlying9 y1) trodAll_mk0)), rfl, bel.frame _, fun h => by cases h⟩
theorem over : Rows.nodeKidsRow.holds Try.pinned (OpenSpec.ofChange Rows.nodeKidsSpec) :=
  OpenClaim.holds_of_wide 8 Try.f8 rfl rfl rfl rfl rfl rfl rfl ⟨rfl, rfl, rfl, rfl, rfl⟩ rfl rfl rfl rfl rfl (by kernel_rfl) Try.func8 (by kernel_rfl)
    (of_decide_eq_true (by kernel_rfl)) (by unfold Func.isWrapper; first | (rw [if_pos (by decide +kernel)]; kernel_rfl) | (rw [if_neg (by decide +kernel)]; exact ⟨rfl, rfl⟩))
    (fun os started H enc _ => lifted os started H enc)
theorem proved : Rows.NodeKidsSaid := over
end Go.Proofs.Ytmmjpieafbjggaa.nodeKids
namespace Go.Proofs.Ytmmjpieafbjggaa
/-- The row, under a short name, for the claim. -/
theorem nodeKids_holds : Rows.NodeKidsSaid := nodeKids.proved
end Go.Proofs.Ytmmjpieafbjggaa
end
