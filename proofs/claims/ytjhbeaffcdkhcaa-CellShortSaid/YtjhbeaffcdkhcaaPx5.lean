/- Functions of the program as Lean functions, and that each call answers as its function does. No condition. (Lines written by a generator of this session.) -/
import Derived.Test.YtjhbeaffcdkhcaaPx0
import Derived.Test.YtjhbeaffcdkhcaaPx1
import Derived.Test.YtjhbeaffcdkhcaaPx2
import Derived.Test.YtjhbeaffcdkhcaaPx3
import Derived.Test.YtjhbeaffcdkhcaaPx4
namespace Go.Proofs.Ytjhbeaffcdkhcaa.P
open Go.RowKit Go.Proofs.YtjhbeaffcdkhcaaW.PrintWords Go.Proofs.YtjhbeaffcdkhcaaW.PrintLast Go.Proofs.YtjhbeaffcdkhcaaW.PrintMore
attribute [local go_sem] max2_int min2_int max_two min_two max_three min_three max_four min_four   -- for this text's walks alone
attribute [local go_sem] x_str_gtr x_str_leq x_str_geq ext_bits ext_frombits ext_neg x_store_float Instr.field asAgg
set_option linter.unusedVariables false
set_option linter.unusedSimpArgs false

/-! ### engrosslaw10_begun: function 10 -/
def engrosslaw10_begun.f (k : Nat)  : Option (Bool) := (cell_Write.f (⟨#[97]⟩ : ByteArray) 1 4607182418800017408 (⟨#[]⟩ : ByteArray) 0 0 0 (⟨#[]⟩ : ByteArray) 3 0 0 (⟨#[]⟩ : ByteArray)).bind fun bt271 => ((cell_Commit.f bt271.1 bt271.2.1 bt271.2.2.1 bt271.2.2.2.1 bt271.2.2.2.2.1 bt271.2.2.2.2.2.1 bt271.2.2.2.2.2.2.1 bt271.2.2.2.2.2.2.2).bind fun bt280 => ((cell_Undo.f bt271.1 bt271.2.1 bt271.2.2.1 bt271.2.2.2.1 bt271.2.2.2.2.1 bt271.2.2.2.2.2.1 bt271.2.2.2.2.2.2.1 bt271.2.2.2.2.2.2.2).bind fun bt290 => ((cell_Put.f k ([] : List Int) bt271.1 bt271.2.1 bt271.2.2.1 bt271.2.2.2.1 bt271.2.2.2.2.1 bt271.2.2.2.2.2.1 bt271.2.2.2.2.2.2.1 bt271.2.2.2.2.2.2.2).bind fun t300 => ((cell_Get.f k t300).bind fun bt303 => ((cell_May.f k (⟨#[97]⟩ : ByteArray) 1 4607182418800017408 (⟨#[]⟩ : ByteArray) 0 0 0 (⟨#[]⟩ : ByteArray)).bind fun t314 => (if t314 = true then ((cell_May.f k (⟨#[]⟩ : ByteArray) 0 0 (⟨#[]⟩ : ByteArray) 0 0 0 (⟨#[]⟩ : ByteArray)).bind fun t315 => (if t315 = true then (none) else ((cell_May.f k bt271.1 bt271.2.1 bt271.2.2.1 bt271.2.2.2.1 bt271.2.2.2.2.1 bt271.2.2.2.2.2.1 bt271.2.2.2.2.2.2.1 bt271.2.2.2.2.2.2.2).bind fun t316 => (if t316 = true then ((cell_See.f bt271.1 bt271.2.1 bt271.2.2.1 bt271.2.2.2.1 bt271.2.2.2.2.1 bt271.2.2.2.2.2.1 bt271.2.2.2.2.2.2.1 bt271.2.2.2.2.2.2.2 3).bind fun bt317 => (if bt317.1 = 0 then ((cell_See.f bt271.1 bt271.2.1 bt271.2.2.1 bt271.2.2.2.1 bt271.2.2.2.2.1 bt271.2.2.2.2.2.1 bt271.2.2.2.2.2.2.1 bt271.2.2.2.2.2.2.2 4).bind fun bt320 => (if (FloatKind.f64.format.order bt320.2.1 4607182418800017408 == some .eq) = true then (if bt280.2.2.2.2.2.2.2.2 = true then (none) else (if bt290.2.2.2.2.2.2.2.2 = true then ((cell_Eq.f bt290.1 bt290.2.1 bt290.2.2.1 bt290.2.2.2.1 bt290.2.2.2.2.1 bt290.2.2.2.2.2.1 bt290.2.2.2.2.2.2.1 bt290.2.2.2.2.2.2.2.1 (⟨#[97]⟩ : ByteArray) 1 4607182418800017408 (⟨#[]⟩ : ByteArray) 0 0 0 (⟨#[]⟩ : ByteArray)).bind fun t323 => (if t323 = true then (if bt303.2.2.2.2.2.2.2.2.2 = 0 then (if bt303.2.2.2.2.2.2.2.2.1 = (t300.length : Int) then (if bt303.2.2.2.2.2.2.2.2.1 > 3 then ((cell_Eq.f bt303.1 bt303.2.1 bt303.2.2.1 bt303.2.2.2.1 bt303.2.2.2.2.1 bt303.2.2.2.2.2.1 bt303.2.2.2.2.2.2.1 bt303.2.2.2.2.2.2.2.1 bt271.1 bt271.2.1 bt271.2.2.1 bt271.2.2.2.1 bt271.2.2.2.2.1 bt271.2.2.2.2.2.1 bt271.2.2.2.2.2.2.1 bt271.2.2.2.2.2.2.2).bind fun t324 => (if t324 = true then ((cell_Eq.f bt303.1 bt303.2.1 bt303.2.2.1 bt303.2.2.2.1 bt303.2.2.2.2.1 bt303.2.2.2.2.2.1 bt303.2.2.2.2.2.2.1 bt303.2.2.2.2.2.2.2.1 (⟨#[97]⟩ : ByteArray) 1 4607182418800017408 (⟨#[]⟩ : ByteArray) 0 0 0 (⟨#[]⟩ : ByteArray)).bind fun t325 => (some (!t325))) else (none))) else (none)) else (none)) else (none)) else (none))) else (none))) else (none))) else (none))) else (none))))) else (none)))))))
theorem engrosslaw10_begun.mono : ∀ k, LeO (engrosslaw10_begun.f k ) (engrosslaw10_begun.f (k + 1) ) := by
 intro  k
 unfold engrosslaw10_begun.f
 repeat' first
   | (with_reducible exact cell_Get.mono _ _)
   | (with_reducible exact cell_May.mono _ _ _ _ _ _ _ _ _)
   | (with_reducible exact cell_Put.mono _ _ _ _ _ _ _ _ _ _)
   | (with_reducible exact LeO.refl _)
   | (with_reducible exact LeO.none _)
   | (with_reducible refine LeO.ite ?_ ?_)
   | (with_reducible refine LeO.bind ?_ (fun _ => ?_))
   | exact cell_Get.mono _ _
   | exact cell_May.mono _ _ _ _ _ _ _ _ _
   | exact cell_Put.mono _ _ _ _ _ _ _ _ _ _
   | exact LeO.none _
   | refine LeO.ite ?_ ?_
   | refine LeO.bind ?_ (fun _ => ?_)
set_option maxHeartbeats 8000000 in
set_option maxRecDepth 100000 in
theorem engrosslaw10_begun.calls (k : Nat)  (r : Bool) (w : World) (h : engrosslaw10_begun.f k  = some r) :
  Calls Try.prog 10 #[] w fun e w' => e = .returned (.bool r) ∧ Below w.heap.size w w' := by
 have hu24 := Try.underlying24
 have hu31 := Try.underlying31
 have HB := Aside0.mk (Below.refl w.heap.size w)
 have H : ((cell_Write.f (⟨#[97]⟩ : ByteArray) 1 4607182418800017408 (⟨#[]⟩ : ByteArray) 0 0 0 (⟨#[]⟩ : ByteArray) 3 0 0 (⟨#[]⟩ : ByteArray)).bind fun bt271 => ((cell_Commit.f bt271.1 bt271.2.1 bt271.2.2.1 bt271.2.2.2.1 bt271.2.2.2.2.1 bt271.2.2.2.2.2.1 bt271.2.2.2.2.2.2.1 bt271.2.2.2.2.2.2.2).bind fun bt280 => ((cell_Undo.f bt271.1 bt271.2.1 bt271.2.2.1 bt271.2.2.2.1 bt271.2.2.2.2.1 bt271.2.2.2.2.2.1 bt271.2.2.2.2.2.2.1 bt271.2.2.2.2.2.2.2).bind fun bt290 => ((cell_Put.f k ([] : List Int) bt271.1 bt271.2.1 bt271.2.2.1 bt271.2.2.2.1 bt271.2.2.2.2.1 bt271.2.2.2.2.2.1 bt271.2.2.2.2.2.2.1 bt271.2.2.2.2.2.2.2).bind fun t300 => ((cell_Get.f k t300).bind fun bt303 => ((cell_May.f k (⟨#[97]⟩ : ByteArray) 1 4607182418800017408 (⟨#[]⟩ : ByteArray) 0 0 0 (⟨#[]⟩ : ByteArray)).bind fun t314 => (if t314 = true then ((cell_May.f k (⟨#[]⟩ : ByteArray) 0 0 (⟨#[]⟩ : ByteArray) 0 0 0 (⟨#[]⟩ : ByteArray)).bind fun t315 => (if t315 = true then (none) else ((cell_May.f k bt271.1 bt271.2.1 bt271.2.2.1 bt271.2.2.2.1 bt271.2.2.2.2.1 bt271.2.2.2.2.2.1 bt271.2.2.2.2.2.2.1 bt271.2.2.2.2.2.2.2).bind fun t316 => (if t316 = true then ((cell_See.f bt271.1 bt271.2.1 bt271.2.2.1 bt271.2.2.2.1 bt271.2.2.2.2.1 bt271.2.2.2.2.2.1 bt271.2.2.2.2.2.2.1 bt271.2.2.2.2.2.2.2 3).bind fun bt317 => (if bt317.1 = 0 then ((cell_See.f bt271.1 bt271.2.1 bt271.2.2.1 bt271.2.2.2.1 bt271.2.2.2.2.1 bt271.2.2.2.2.2.1 bt271.2.2.2.2.2.2.1 bt271.2.2.2.2.2.2.2 4).bind fun bt320 => (if (FloatKind.f64.format.order bt320.2.1 4607182418800017408 == some .eq) = true then (if bt280.2.2.2.2.2.2.2.2 = true then (none) else (if bt290.2.2.2.2.2.2.2.2 = true then ((cell_Eq.f bt290.1 bt290.2.1 bt290.2.2.1 bt290.2.2.2.1 bt290.2.2.2.2.1 bt290.2.2.2.2.2.1 bt290.2.2.2.2.2.2.1 bt290.2.2.2.2.2.2.2.1 (⟨#[97]⟩ : ByteArray) 1 4607182418800017408 (⟨#[]⟩ : ByteArray) 0 0 0 (⟨#[]⟩ : ByteArray)).bind fun t323 => (if t323 = true then (if bt303.2.2.2.2.2.2.2.2.2 = 0 then (if bt303.2.2.2.2.2.2.2.2.1 = (t300.length : Int) then (if bt303.2.2.2.2.2.2.2.2.1 > 3 then ((cell_Eq.f bt303.1 bt303.2.1 bt303.2.2.1 bt303.2.2.2.1 bt303.2.2.2.2.1 bt303.2.2.2.2.2.1 bt303.2.2.2.2.2.2.1 bt303.2.2.2.2.2.2.2.1 bt271.1 bt271.2.1 bt271.2.2.1 bt271.2.2.2.1 bt271.2.2.2.2.1 bt271.2.2.2.2.2.1 bt271.2.2.2.2.2.2.1 bt271.2.2.2.2.2.2.2).bind fun t324 => (if t324 = true then ((cell_Eq.f bt303.1 bt303.2.1 bt303.2.2.1 bt303.2.2.2.1 bt303.2.2.2.2.1 bt303.2.2.2.2.2.1 bt303.2.2.2.2.2.2.1 bt303.2.2.2.2.2.2.2.1 (⟨#[97]⟩ : ByteArray) 1 4607182418800017408 (⟨#[]⟩ : ByteArray) 0 0 0 (⟨#[]⟩ : ByteArray)).bind fun t325 => (some (!t325))) else (none))) else (none)) else (none)) else (none)) else (none))) else (none))) else (none))) else (none))) else (none))))) else (none)))))))) = some r := h
 clear h
 replace H := Option.bind_eq_some_iff.mp H
 obtain ⟨⟨t271, t272, t273, t274, t275, t276, t277, t278⟩, A10, H⟩ := H
 replace H : ((cell_Commit.f t271 t272 t273 t274 t275 t276 t277 t278).bind fun bt280 => ((cell_Undo.f t271 t272 t273 t274 t275 t276 t277 t278).bind fun bt290 => ((cell_Put.f k ([] : List Int) t271 t272 t273 t274 t275 t276 t277 t278).bind fun t300 => ((cell_Get.f k t300).bind fun bt303 => ((cell_May.f k (⟨#[97]⟩ : ByteArray) 1 4607182418800017408 (⟨#[]⟩ : ByteArray) 0 0 0 (⟨#[]⟩ : ByteArray)).bind fun t314 => (if t314 = true then ((cell_May.f k (⟨#[]⟩ : ByteArray) 0 0 (⟨#[]⟩ : ByteArray) 0 0 0 (⟨#[]⟩ : ByteArray)).bind fun t315 => (if t315 = true then (none) else ((cell_May.f k t271 t272 t273 t274 t275 t276 t277 t278).bind fun t316 => (if t316 = true then ((cell_See.f t271 t272 t273 t274 t275 t276 t277 t278 3).bind fun bt317 => (if bt317.1 = 0 then ((cell_See.f t271 t272 t273 t274 t275 t276 t277 t278 4).bind fun bt320 => (if (FloatKind.f64.format.order bt320.2.1 4607182418800017408 == some .eq) = true then (if bt280.2.2.2.2.2.2.2.2 = true then (none) else (if bt290.2.2.2.2.2.2.2.2 = true then ((cell_Eq.f bt290.1 bt290.2.1 bt290.2.2.1 bt290.2.2.2.1 bt290.2.2.2.2.1 bt290.2.2.2.2.2.1 bt290.2.2.2.2.2.2.1 bt290.2.2.2.2.2.2.2.1 (⟨#[97]⟩ : ByteArray) 1 4607182418800017408 (⟨#[]⟩ : ByteArray) 0 0 0 (⟨#[]⟩ : ByteArray)).bind fun t323 => (if t323 = true then (if bt303.2.2.2.2.2.2.2.2.2 = 0 then (if bt303.2.2.2.2.2.2.2.2.1 = (t300.length : Int) then (if bt303.2.2.2.2.2.2.2.2.1 > 3 then ((cell_Eq.f bt303.1 bt303.2.1 bt303.2.2.1 bt303.2.2.2.1 bt303.2.2.2.2.1 bt303.2.2.2.2.2.1 bt303.2.2.2.2.2.2.1 bt303.2.2.2.2.2.2.2.1 t271 t272 t273 t274 t275 t276 t277 t278).bind fun t324 => (if t324 = true then ((cell_Eq.f bt303.1 bt303.2.1 bt303.2.2.1 bt303.2.2.2.1 bt303.2.2.2.2.1 bt303.2.2.2.2.2.1 bt303.2.2.2.2.2.2.1 bt303.2.2.2.2.2.2.2.1 (⟨#[97]⟩ : ByteArray) 1 4607182418800017408 (⟨#[]⟩ : ByteArray) 0 0 0 (⟨#[]⟩ : ByteArray)).bind fun t325 => (some (!t325))) else (none))) else (none)) else (none)) else (none)) else (none))) else (none))) else (none))) else (none))) else (none))))) else (none))))))) = some r := H
 have A1 := Aside0.mk A10
 clear A10
 replace H := Option.bind_eq_some_iff.mp H
 obtain ⟨⟨t280, t281, t282, t283, t284, t285, t286, t287, t288⟩, A20, H⟩ := H
 replace H : ((cell_Undo.f t271 t272 t273 t274 t275 t276 t277 t278).bind fun bt290 => ((cell_Put.f k ([] : List Int) t271 t272 t273 t274 t275 t276 t277 t278).bind fun t300 => ((cell_Get.f k t300).bind fun bt303 => ((cell_May.f k (⟨#[97]⟩ : ByteArray) 1 4607182418800017408 (⟨#[]⟩ : ByteArray) 0 0 0 (⟨#[]⟩ : ByteArray)).bind fun t314 => (if t314 = true then ((cell_May.f k (⟨#[]⟩ : ByteArray) 0 0 (⟨#[]⟩ : ByteArray) 0 0 0 (⟨#[]⟩ : ByteArray)).bind fun t315 => (if t315 = true then (none) else ((cell_May.f k t271 t272 t273 t274 t275 t276 t277 t278).bind fun t316 => (if t316 = true then ((cell_See.f t271 t272 t273 t274 t275 t276 t277 t278 3).bind fun bt317 => (if bt317.1 = 0 then ((cell_See.f t271 t272 t273 t274 t275 t276 t277 t278 4).bind fun bt320 => (if (FloatKind.f64.format.order bt320.2.1 4607182418800017408 == some .eq) = true then (if t288 = true then (none) else (if bt290.2.2.2.2.2.2.2.2 = true then ((cell_Eq.f bt290.1 bt290.2.1 bt290.2.2.1 bt290.2.2.2.1 bt290.2.2.2.2.1 bt290.2.2.2.2.2.1 bt290.2.2.2.2.2.2.1 bt290.2.2.2.2.2.2.2.1 (⟨#[97]⟩ : ByteArray) 1 4607182418800017408 (⟨#[]⟩ : ByteArray) 0 0 0 (⟨#[]⟩ : ByteArray)).bind fun t323 => (if t323 = true then (if bt303.2.2.2.2.2.2.2.2.2 = 0 then (if bt303.2.2.2.2.2.2.2.2.1 = (t300.length : Int) then (if bt303.2.2.2.2.2.2.2.2.1 > 3 then ((cell_Eq.f bt303.1 bt303.2.1 bt303.2.2.1 bt303.2.2.2.1 bt303.2.2.2.2.1 bt303.2.2.2.2.2.1 bt303.2.2.2.2.2.2.1 bt303.2.2.2.2.2.2.2.1 t271 t272 t273 t274 t275 t276 t277 t278).bind fun t324 => (if t324 = true then ((cell_Eq.f bt303.1 bt303.2.1 bt303.2.2.1 bt303.2.2.2.1 bt303.2.2.2.2.1 bt303.2.2.2.2.2.1 bt303.2.2.2.2.2.2.1 bt303.2.2.2.2.2.2.2.1 (⟨#[97]⟩ : ByteArray) 1 4607182418800017408 (⟨#[]⟩ : ByteArray) 0 0 0 (⟨#[]⟩ : ByteArray)).bind fun t325 => (some (!t325))) else (none))) else (none)) else (none)) else (none)) else (none))) else (none))) else (none))) else (none))) else (none))))) else (none)))))) = some r := H
 have A2 := Aside0.mk A20
 clear A20
 replace H := Option.bind_eq_some_iff.mp H
 obtain ⟨⟨t290, t291, t292, t293, t294, t295, t296, t297, t298⟩, A30, H⟩ := H
 replace H : ((cell_Put.f k ([] : List Int) t271 t272 t273 t274 t275 t276 t277 t278).bind fun t300 => ((cell_Get.f k t300).bind fun bt303 => ((cell_May.f k (⟨#[97]⟩ : ByteArray) 1 4607182418800017408 (⟨#[]⟩ : ByteArray) 0 0 0 (⟨#[]⟩ : ByteArray)).bind fun t314 => (if t314 = true then ((cell_May.f k (⟨#[]⟩ : ByteArray) 0 0 (⟨#[]⟩ : ByteArray) 0 0 0 (⟨#[]⟩ : ByteArray)).bind fun t315 => (if t315 = true then (none) else ((cell_May.f k t271 t272 t273 t274 t275 t276 t277 t278).bind fun t316 => (if t316 = true then ((cell_See.f t271 t272 t273 t274 t275 t276 t277 t278 3).bind fun bt317 => (if bt317.1 = 0 then ((cell_See.f t271 t272 t273 t274 t275 t276 t277 t278 4).bind fun bt320 => (if (FloatKind.f64.format.order bt320.2.1 4607182418800017408 == some .eq) = true then (if t288 = true then (none) else (if t298 = true then ((cell_Eq.f t290 t291 t292 t293 t294 t295 t296 t297 (⟨#[97]⟩ : ByteArray) 1 4607182418800017408 (⟨#[]⟩ : ByteArray) 0 0 0 (⟨#[]⟩ : ByteArray)).bind fun t323 => (if t323 = true then (if bt303.2.2.2.2.2.2.2.2.2 = 0 then (if bt303.2.2.2.2.2.2.2.2.1 = (t300.length : Int) then (if bt303.2.2.2.2.2.2.2.2.1 > 3 then ((cell_Eq.f bt303.1 bt303.2.1 bt303.2.2.1 bt303.2.2.2.1 bt303.2.2.2.2.1 bt303.2.2.2.2.2.1 bt303.2.2.2.2.2.2.1 bt303.2.2.2.2.2.2.2.1 t271 t272 t273 t274 t275 t276 t277 t278).bind fun t324 => (if t324 = true then ((cell_Eq.f bt303.1 bt303.2.1 bt303.2.2.1 bt303.2.2.2.1 bt303.2.2.2.2.1 bt303.2.2.2.2.2.1 bt303.2.2.2.2.2.2.1 bt303.2.2.2.2.2.2.2.1 (⟨#[97]⟩ : ByteArray) 1 4607182418800017408 (⟨#[]⟩ : ByteArray) 0 0 0 (⟨#[]⟩ : ByteArray)).bind fun t325 => (some (!t325))) else (none))) else (none)) else (none)) else (none)) else (none))) else (none))) else (none))) else (none))) else (none))))) else (none))))) = some r := H
 have A3 := Aside0.mk A30
 clear A30
 replace H := Option.bind_eq_some_iff.mp H
 obtain ⟨t300, A40, H⟩ := H
 replace H : ((cell_Get.f k t300).bind fun bt303 => ((cell_May.f k (⟨#[97]⟩ : ByteArray) 1 4607182418800017408 (⟨#[]⟩ : ByteArray) 0 0 0 (⟨#[]⟩ : ByteArray)).bind fun t314 => (if t314 = true then ((cell_May.f k (⟨#[]⟩ : ByteArray) 0 0 (⟨#[]⟩ : ByteArray) 0 0 0 (⟨#[]⟩ : ByteArray)).bind fun t315 => (if t315 = true then (none) else ((cell_May.f k t271 t272 t273 t274 t275 t276 t277 t278).bind fun t316 => (if t316 = true then ((cell_See.f t271 t272 t273 t274 t275 t276 t277 t278 3).bind fun bt317 => (if bt317.1 = 0 then ((cell_See.f t271 t272 t273 t274 t275 t276 t277 t278 4).bind fun bt320 => (if (FloatKind.f64.format.order bt320.2.1 4607182418800017408 == some .eq) = true then (if t288 = true then (none) else (if t298 = true then ((cell_Eq.f t290 t291 t292 t293 t294 t295 t296 t297 (⟨#[97]⟩ : ByteArray) 1 4607182418800017408 (⟨#[]⟩ : ByteArray) 0 0 0 (⟨#[]⟩ : ByteArray)).bind fun t323 => (if t323 = true then (if bt303.2.2.2.2.2.2.2.2.2 = 0 then (if bt303.2.2.2.2.2.2.2.2.1 = (t300.length : Int) then (if bt303.2.2.2.2.2.2.2.2.1 > 3 then ((cell_Eq.f bt303.1 bt303.2.1 bt303.2.2.1 bt303.2.2.2.1 bt303.2.2.2.2.1 bt303.2.2.2.2.2.1 bt303.2.2.2.2.2.2.1 bt303.2.2.2.2.2.2.2.1 t271 t272 t273 t274 t275 t276 t277 t278).bind fun t324 => (if t324 = true then ((cell_Eq.f bt303.1 bt303.2.1 bt303.2.2.1 bt303.2.2.2.1 bt303.2.2.2.2.1 bt303.2.2.2.2.2.1 bt303.2.2.2.2.2.2.1 bt303.2.2.2.2.2.2.2.1 (⟨#[97]⟩ : ByteArray) 1 4607182418800017408 (⟨#[]⟩ : ByteArray) 0 0 0 (⟨#[]⟩ : ByteArray)).bind fun t325 => (some (!t325))) else (none))) else (none)) else (none)) else (none)) else (none))) else (none))) else (none))) else (none))) else (none))))) else (none)))) = some r := H
 have A4 := Aside0.mk A40
 clear A40
 replace H := Option.bind_eq_some_iff.mp H
 obtain ⟨⟨t303, t304, t305, t306, t307, t308, t309, t310, t311, t312⟩, A50, H⟩ := H
 replace H : ((cell_May.f k (⟨#[97]⟩ : ByteArray) 1 4607182418800017408 (⟨#[]⟩ : ByteArray) 0 0 0 (⟨#[]⟩ : ByteArray)).bind fun t314 => (if t314 = true then ((cell_May.f k (⟨#[]⟩ : ByteArray) 0 0 (⟨#[]⟩ : ByteArray) 0 0 0 (⟨#[]⟩ : ByteArray)).bind fun t315 => (if t315 = true then (none) else ((cell_May.f k t271 t272 t273 t274 t275 t276 t277 t278).bind fun t316 => (if t316 = true then ((cell_See.f t271 t272 t273 t274 t275 t276 t277 t278 3).bind fun bt317 => (if bt317.1 = 0 then ((cell_See.f t271 t272 t273 t274 t275 t276 t277 t278 4).bind fun bt320 => (if (FloatKind.f64.format.order bt320.2.1 4607182418800017408 == some .eq) = true then (if t288 = true then (none) else (if t298 = true then ((cell_Eq.f t290 t291 t292 t293 t294 t295 t296 t297 (⟨#[97]⟩ : ByteArray) 1 4607182418800017408 (⟨#[]⟩ : ByteArray) 0 0 0 (⟨#[]⟩ : ByteArray)).bind fun t323 => (if t323 = true then (if t312 = 0 then (if t311 = (t300.length : Int) then (if t311 > 3 then ((cell_Eq.f t303 t304 t305 t306 t307 t308 t309 t310 t271 t272 t273 t274 t275 t276 t277 t278).bind fun t324 => (if t324 = true then ((cell_Eq.f t303 t304 t305 t306 t307 t308 t309 t310 (⟨#[97]⟩ : ByteArray) 1 4607182418800017408 (⟨#[]⟩ : ByteArray) 0 0 0 (⟨#[]⟩ : ByteArray)).bind fun t325 => (some (!t325))) else (none))) else (none)) else (none)) else (none)) else (none))) else (none))) else (none))) else (none))) else (none))))) else (none))) = some r := H
 have A5 := Aside0.mk A50
 clear A50
 replace H := Option.bind_eq_some_iff.mp H
 obtain ⟨t314, A60, H⟩ := H
 replace H : (if t314 = true then ((cell_May.f k (⟨#[]⟩ : ByteArray) 0 0 (⟨#[]⟩ : ByteArray) 0 0 0 (⟨#[]⟩ : ByteArray)).bind fun t315 => (if t315 = true then (none) else ((cell_May.f k t271 t272 t273 t274 t275 t276 t277 t278).bind fun t316 => (if t316 = true then ((cell_See.f t271 t272 t273 t274 t275 t276 t277 t278 3).bind fun bt317 => (if bt317.1 = 0 then ((cell_See.f t271 t272 t273 t274 t275 t276 t277 t278 4).bind fun bt320 => (if (FloatKind.f64.format.order bt320.2.1 4607182418800017408 == some .eq) = true then (if t288 = true then (none) else (if t298 = true then ((cell_Eq.f t290 t291 t292 t293 t294 t295 t296 t297 (⟨#[97]⟩ : ByteArray) 1 4607182418800017408 (⟨#[]⟩ : ByteArray) 0 0 0 (⟨#[]⟩ : ByteArray)).bind fun t323 => (if t323 = true then (if t312 = 0 then (if t311 = (t300.length : Int) then (if t311 > 3 then ((cell_Eq.f t303 t304 t305 t306 t307 t308 t309 t310 t271 t272 t273 t274 t275 t276 t277 t278).bind fun t324 => (if t324 = true then ((cell_Eq.f t303 t304 t305 t306 t307 t308 t309 t310 (⟨#[97]⟩ : ByteArray) 1 4607182418800017408 (⟨#[]⟩ : ByteArray) 0 0 0 (⟨#[]⟩ : ByteArray)).bind fun t325 => (some (!t325))) else (none))) else (none)) else (none)) else (none)) else (none))) else (none))) else (none))) else (none))) else (none))))) else (none)) = some r := H
 have A6 := Aside0.mk A60
 clear A60
 by_cases c7 : t314 = true
 ·subst c7
  have H1 : ((cell_May.f k (⟨#[]⟩ : ByteArray) 0 0 (⟨#[]⟩ : ByteArray) 0 0 0 (⟨#[]⟩ : ByteArray)).bind fun t315 => (if t315 = true then (none) else ((cell_May.f k t271 t272 t273 t274 t275 t276 t277 t278).bind fun t316 => (if t316 = true then ((cell_See.f t271 t272 t273 t274 t275 t276 t277 t278 3).bind fun bt317 => (if bt317.1 = 0 then ((cell_See.f t271 t272 t273 t274 t275 t276 t277 t278 4).bind fun bt320 => (if (FloatKind.f64.format.order bt320.2.1 4607182418800017408 == some .eq) = true then (if t288 = true then (none) else (if t298 = true then ((cell_Eq.f t290 t291 t292 t293 t294 t295 t296 t297 (⟨#[97]⟩ : ByteArray) 1 4607182418800017408 (⟨#[]⟩ : ByteArray) 0 0 0 (⟨#[]⟩ : ByteArray)).bind fun t323 => (if t323 = true then (if t312 = 0 then (if t311 = (t300.length : Int) then (if t311 > 3 then ((cell_Eq.f t303 t304 t305 t306 t307 t308 t309 t310 t271 t272 t273 t274 t275 t276 t277 t278).bind fun t324 => (if t324 = true then ((cell_Eq.f t303 t304 t305 t306 t307 t308 t309 t310 (⟨#[97]⟩ : ByteArray) 1 4607182418800017408 (⟨#[]⟩ : ByteArray) 0 0 0 (⟨#[]⟩ : ByteArray)).bind fun t325 => (some (!t325))) else (none))) else (none)) else (none)) else (none)) else (none))) else (none))) else (none))) else (none))) else (none))))) = some r := by rw [if_pos rfl] at H; exact H
  clear H
  have H := H1
  clear H1
  replace H := Option.bind_eq_some_iff.mp H
  obtain ⟨t315, A80, H⟩ := H
  replace H : (if t315 = true then (none) else ((cell_May.f k t271 t272 t273 t274 t275 t276 t277 t278).bind fun t316 => (if t316 = true then ((cell_See.f t271 t272 t273 t274 t275 t276 t277 t278 3).bind fun bt317 => (if bt317.1 = 0 then ((cell_See.f t271 t272 t273 t274 t275 t276 t277 t278 4).bind fun bt320 => (if (FloatKind.f64.format.order bt320.2.1 4607182418800017408 == some .eq) = true then (if t288 = true then (none) else (if t298 = true then ((cell_Eq.f t290 t291 t292 t293 t294 t295 t296 t297 (⟨#[97]⟩ : ByteArray) 1 4607182418800017408 (⟨#[]⟩ : ByteArray) 0 0 0 (⟨#[]⟩ : ByteArray)).bind fun t323 => (if t323 = true then (if t312 = 0 then (if t311 = (t300.length : Int) then (if t311 > 3 then ((cell_Eq.f t303 t304 t305 t306 t307 t308 t309 t310 t271 t272 t273 t274 t275 t276 t277 t278).bind fun t324 => (if t324 = true then ((cell_Eq.f t303 t304 t305 t306 t307 t308 t309 t310 (⟨#[97]⟩ : ByteArray) 1 4607182418800017408 (⟨#[]⟩ : ByteArray) 0 0 0 (⟨#[]⟩ : ByteArray)).bind fun t325 => (some (!t325))) else (none))) else (none)) else (none)) else (none)) else (none))) else (none))) else (none))) else (none))) else (none)))) = some r := H
  have A8 := Aside0.mk A80
  clear A80
  by_cases c9 : t315 = true
  ·subst c9
   have H1 : (none) = some r := by rw [if_pos rfl] at H; exact H
   clear H
   have H := H1
   clear H1
   exact absurd H (by simp)
  ·replace c9 := Bool.eq_false_iff.mpr c9
   subst c9
   have H1 : ((cell_May.f k t271 t272 t273 t274 t275 t276 t277 t278).bind fun t316 => (if t316 = true then ((cell_See.f t271 t272 t273 t274 t275 t276 t277 t278 3).bind fun bt317 => (if bt317.1 = 0 then ((cell_See.f t271 t272 t273 t274 t275 t276 t277 t278 4).bind fun bt320 => (if (FloatKind.f64.format.order bt320.2.1 4607182418800017408 == some .eq) = true then (if t288 = true then (none) else (if t298 = true then ((cell_Eq.f t290 t291 t292 t293 t294 t295 t296 t297 (⟨#[97]⟩ : ByteArray) 1 4607182418800017408 (⟨#[]⟩ : ByteArray) 0 0 0 (⟨#[]⟩ : ByteArray)).bind fun t323 => (if t323 = true then (if t312 = 0 then (if t311 = (t300.length : Int) then (if t311 > 3 then ((cell_Eq.f t303 t304 t305 t306 t307 t308 t309 t310 t271 t272 t273 t274 t275 t276 t277 t278).bind fun t324 => (if t324 = true then ((cell_Eq.f t303 t304 t305 t306 t307 t308 t309 t310 (⟨#[97]⟩ : ByteArray) 1 4607182418800017408 (⟨#[]⟩ : ByteArray) 0 0 0 (⟨#[]⟩ : ByteArray)).bind fun t325 => (some (!t325))) else (none))) else (none)) else (none)) else (none)) else (none))) else (none))) else (none))) else (none))) else (none))) = some r := by rw [if_neg (show ¬ (false = true) by decide)] at H; exact H
   clear H
   have H := H1
   clear H1
   replace H := Option.bind_eq_some_iff.mp H
   obtain ⟨t316, A100, H⟩ := H
   replace H : (if t316 = true then ((cell_See.f t271 t272 t273 t274 t275 t276 t277 t278 3).bind fun bt317 => (if bt317.1 = 0 then ((cell_See.f t271 t272 t273 t274 t275 t276 t277 t278 4).bind fun bt320 => (if (FloatKind.f64.format.order bt320.2.1 4607182418800017408 == some .eq) = true then (if t288 = true then (none) else (if t298 = true then ((cell_Eq.f t290 t291 t292 t293 t294 t295 t296 t297 (⟨#[97]⟩ : ByteArray) 1 4607182418800017408 (⟨#[]⟩ : ByteArray) 0 0 0 (⟨#[]⟩ : ByteArray)).bind fun t323 => (if t323 = true then (if t312 = 0 then (if t311 = (t300.length : Int) then (if t311 > 3 then ((cell_Eq.f t303 t304 t305 t306 t307 t308 t309 t310 t271 t272 t273 t274 t275 t276 t277 t278).bind fun t324 => (if t324 = true then ((cell_Eq.f t303 t304 t305 t306 t307 t308 t309 t310 (⟨#[97]⟩ : ByteArray) 1 4607182418800017408 (⟨#[]⟩ : ByteArray) 0 0 0 (⟨#[]⟩ : ByteArray)).bind fun t325 => (some (!t325))) else (none))) else (none)) else (none)) else (none)) else (none))) else (none))) else (none))) else (none))) else (none)) = some r := H
   have A10 := Aside0.mk A100
   clear A100
   by_cases c11 : t316 = true
   ·subst c11
    have H1 : ((cell_See.f t271 t272 t273 t274 t275 t276 t277 t278 3).bind fun bt317 => (if bt317.1 = 0 then ((cell_See.f t271 t272 t273 t274 t275 t276 t277 t278 4).bind fun bt320 => (if (FloatKind.f64.format.order bt320.2.1 4607182418800017408 == some .eq) = true then (if t288 = true then (none) else (if t298 = true then ((cell_Eq.f t290 t291 t292 t293 t294 t295 t296 t297 (⟨#[97]⟩ : ByteArray) 1 4607182418800017408 (⟨#[]⟩ : ByteArray) 0 0 0 (⟨#[]⟩ : ByteArray)).bind fun t323 => (if t323 = true then (if t312 = 0 then (if t311 = (t300.length : Int) then (if t311 > 3 then ((cell_Eq.f t303 t304 t305 t306 t307 t308 t309 t310 t271 t272 t273 t274 t275 t276 t277 t278).bind fun t324 => (if t324 = true then ((cell_Eq.f t303 t304 t305 t306 t307 t308 t309 t310 (⟨#[97]⟩ : ByteArray) 1 4607182418800017408 (⟨#[]⟩ : ByteArray) 0 0 0 (⟨#[]⟩ : ByteArray)).bind fun t325 => (some (!t325))) else (none))) else (none)) else (none)) else (none)) else (none))) else (none))) else (none))) else (none))) = some r := by rw [if_pos rfl] at H; exact H
    clear H
    have H := H1
    clear H1
    replace H := Option.bind_eq_some_iff.mp H
    obtain ⟨⟨t317, t318, t319⟩, A120, H⟩ := H
    replace H : (if t317 = 0 then ((cell_See.f t271 t272 t273 t274 t275 t276 t277 t278 4).bind fun bt320 => (if (FloatKind.f64.format.order bt320.2.1 4607182418800017408 == some .eq) = true then (if t288 = true then (none) else (if t298 = true then ((cell_Eq.f t290 t291 t292 t293 t294 t295 t296 t297 (⟨#[97]⟩ : ByteArray) 1 4607182418800017408 (⟨#[]⟩ : ByteArray) 0 0 0 (⟨#[]⟩ : ByteArray)).bind fun t323 => (if t323 = true then (if t312 = 0 then (if t311 = (t300.length : Int) then (if t311 > 3 then ((cell_Eq.f t303 t304 t305 t306 t307 t308 t309 t310 t271 t272 t273 t274 t275 t276 t277 t278).bind fun t324 => (if t324 = true then ((cell_Eq.f t303 t304 t305 t306 t307 t308 t309 t310 (⟨#[97]⟩ : ByteArray) 1 4607182418800017408 (⟨#[]⟩ : ByteArray) 0 0 0 (⟨#[]⟩ : ByteArray)).bind fun t325 => (some (!t325))) else (none))) else (none)) else (none)) else (none)) else (none))) else (none))) else (none))) else (none)) = some r := H
    have A12 := Aside0.mk A120
    clear A120
    by_cases c13 : t317 = 0
    ·rw [if_pos c13] at H
     have c13b0 : (t317 == 0) = true := beq_iff_eq.mpr c13
     have c13b1 : (t317 != 0) = false := bne_eq_false_iff_eq.mpr c13
     clear c13
     replace H := Option.bind_eq_some_iff.mp H
     obtain ⟨⟨t320, t321, t322⟩, A140, H⟩ := H
     replace H : (if (FloatKind.f64.format.order t321 4607182418800017408 == some .eq) = true then (if t288 = true then (none) else (if t298 = true then ((cell_Eq.f t290 t291 t292 t293 t294 t295 t296 t297 (⟨#[97]⟩ : ByteArray) 1 4607182418800017408 (⟨#[]⟩ : ByteArray) 0 0 0 (⟨#[]⟩ : ByteArray)).bind fun t323 => (if t323 = true then (if t312 = 0 then (if t311 = (t300.length : Int) then (if t311 > 3 then ((cell_Eq.f t303 t304 t305 t306 t307 t308 t309 t310 t271 t272 t273 t274 t275 t276 t277 t278).bind fun t324 => (if t324 = true then ((cell_Eq.f t303 t304 t305 t306 t307 t308 t309 t310 (⟨#[97]⟩ : ByteArray) 1 4607182418800017408 (⟨#[]⟩ : ByteArray) 0 0 0 (⟨#[]⟩ : ByteArray)).bind fun t325 => (some (!t325))) else (none))) else (none)) else (none)) else (none)) else (none))) else (none))) else (none)) = some r := H
     have A14 := Aside0.mk A140
     clear A140
     by_cases c15 : (FloatKind.f64.format.order t321 4607182418800017408 == some .eq) = true
     ·rw [if_pos c15] at H
      have c15b0 : (FloatKind.f64.format.order t321 4607182418800017408 == some .eq) = true := c15
      (try (have c15b1 : decide (FloatKind.f64.format.order t321 4607182418800017408 = some .eq) = true := by simpa using c15))
      (try (have c15b2 : (FloatKind.f64.format.order t321 4607182418800017408 == some .eq) = true := by simpa using c15))
      clear c15
      by_cases c16 : t288 = true
      ·subst c16
       have H1 : (none) = some r := by rw [if_pos rfl] at H; exact H
       clear H
       have H := H1
       clear H1
       exact absurd H (by simp)
      ·replace c16 := Bool.eq_false_iff.mpr c16
       subst c16
       have H1 : (if t298 = true then ((cell_Eq.f t290 t291 t292 t293 t294 t295 t296 t297 (⟨#[97]⟩ : ByteArray) 1 4607182418800017408 (⟨#[]⟩ : ByteArray) 0 0 0 (⟨#[]⟩ : ByteArray)).bind fun t323 => (if t323 = true then (if t312 = 0 then (if t311 = (t300.length : Int) then (if t311 > 3 then ((cell_Eq.f t303 t304 t305 t306 t307 t308 t309 t310 t271 t272 t273 t274 t275 t276 t277 t278).bind fun t324 => (if t324 = true then ((cell_Eq.f t303 t304 t305 t306 t307 t308 t309 t310 (⟨#[97]⟩ : ByteArray) 1 4607182418800017408 (⟨#[]⟩ : ByteArray) 0 0 0 (⟨#[]⟩ : ByteArray)).bind fun t325 => (some (!t325))) else (none))) else (none)) else (none)) else (none)) else (none))) else (none)) = some r := by rw [if_neg (show ¬ (false = true) by decide)] at H; exact H
       clear H
       have H := H1
       clear H1
       by_cases c17 : t298 = true
       ·subst c17
        have H1 : ((cell_Eq.f t290 t291 t292 t293 t294 t295 t296 t297 (⟨#[97]⟩ : ByteArray) 1 4607182418800017408 (⟨#[]⟩ : ByteArray) 0 0 0 (⟨#[]⟩ : ByteArray)).bind fun t323 => (if t323 = true then (if t312 = 0 then (if t311 = (t300.length : Int) then (if t311 > 3 then ((cell_Eq.f t303 t304 t305 t306 t307 t308 t309 t310 t271 t272 t273 t274 t275 t276 t277 t278).bind fun t324 => (if t324 = true then ((cell_Eq.f t303 t304 t305 t306 t307 t308 t309 t310 (⟨#[97]⟩ : ByteArray) 1 4607182418800017408 (⟨#[]⟩ : ByteArray) 0 0 0 (⟨#[]⟩ : ByteArray)).bind fun t325 => (some (!t325))) else (none))) else (none)) else (none)) else (none)) else (none))) = some r := by rw [if_pos rfl] at H; exact H
        clear H
        have H := H1
        clear H1
        replace H := Option.bind_eq_some_iff.mp H
        obtain ⟨t323, A180, H⟩ := H
        replace H : (if t323 = true then (if t312 = 0 then (if t311 = (t300.length : Int) then (if t311 > 3 then ((cell_Eq.f t303 t304 t305 t306 t307 t308 t309 t310 t271 t272 t273 t274 t275 t276 t277 t278).bind fun t324 => (if t324 = true then ((cell_Eq.f t303 t304 t305 t306 t307 t308 t309 t310 (⟨#[97]⟩ : ByteArray) 1 4607182418800017408 (⟨#[]⟩ : ByteArray) 0 0 0 (⟨#[]⟩ : ByteArray)).bind fun t325 => (some (!t325))) else (none))) else (none)) else (none)) else (none)) else (none)) = some r := H
        have A18 := Aside0.mk A180
        clear A180
        by_cases c19 : t323 = true
        ·subst c19
         have H1 : (if t312 = 0 then (if t311 = (t300.length : Int) then (if t311 > 3 then ((cell_Eq.f t303 t304 t305 t306 t307 t308 t309 t310 t271 t272 t273 t274 t275 t276 t277 t278).bind fun t324 => (if t324 = true then ((cell_Eq.f t303 t304 t305 t306 t307 t308 t309 t310 (⟨#[97]⟩ : ByteArray) 1 4607182418800017408 (⟨#[]⟩ : ByteArray) 0 0 0 (⟨#[]⟩ : ByteArray)).bind fun t325 => (some (!t325))) else (none))) else (none)) else (none)) else (none)) = some r := by rw [if_pos rfl] at H; exact H
         clear H
         have H := H1
         clear H1
         by_cases c20 : t312 = 0
         ·rw [if_pos c20] at H
          have c20b0 : (t312 == 0) = true := beq_iff_eq.mpr c20
          have c20b1 : (t312 != 0) = false := bne_eq_false_iff_eq.mpr c20
          clear c20
          by_cases c21 : t311 = (t300.length : Int)
          ·rw [if_pos c21] at H
           have c21b0 : (t311 == (t300.length : Int)) = true := beq_iff_eq.mpr c21
           have c21b1 : (t311 != (t300.length : Int)) = false := bne_eq_false_iff_eq.mpr c21
           clear c21
           by_cases c22 : t311 > 3
           ·rw [if_pos c22] at H
            have c22b0 : decide (3 < t311) = true := decide_eq_true c22
            clear c22
            replace H := Option.bind_eq_some_iff.mp H
            obtain ⟨t324, A230, H⟩ := H
            replace H : (if t324 = true then ((cell_Eq.f t303 t304 t305 t306 t307 t308 t309 t310 (⟨#[97]⟩ : ByteArray) 1 4607182418800017408 (⟨#[]⟩ : ByteArray) 0 0 0 (⟨#[]⟩ : ByteArray)).bind fun t325 => (some (!t325))) else (none)) = some r := H
            have A23 := Aside0.mk A230
            clear A230
            by_cases c24 : t324 = true
            ·subst c24
             have H1 : ((cell_Eq.f t303 t304 t305 t306 t307 t308 t309 t310 (⟨#[97]⟩ : ByteArray) 1 4607182418800017408 (⟨#[]⟩ : ByteArray) 0 0 0 (⟨#[]⟩ : ByteArray)).bind fun t325 => (some (!t325))) = some r := by rw [if_pos rfl] at H; exact H
             clear H
             have H := H1
             clear H1
             replace H := Option.bind_eq_some_iff.mp H
             obtain ⟨t325, A250, H⟩ := H
             replace H : (some (!t325)) = some r := H
             have A25 := Aside0.mk A250
             clear A250
             obtain rfl := Option.some.inj H
             go_enter Try.func10, Try.ntmps10
             go_wp2_with (first | ((with_reducible refine gate_dst (N := 1) rfl ?_); (try (refine gate_guard (by rfl) ?_; dsimp only)); refine box_event ?hg (N := 1) ?hd (cs := #[.string (⟨#[]⟩ : ByteArray), .int .i64 0, .float .f64 0, .string (⟨#[]⟩ : ByteArray), .int .i64 0, .int .i64 0, .float .f64 0, .string (⟨#[]⟩ : ByteArray)]) (t := 31) ?hr ?_; (case hd => rfl); (case hg => rfl); (case hr => first | (go_simp; done) | (go_simp; rfl)); intro gb270 hg w26 hbox hb; have BK270 := Aside0.mk (hbox); have GW270 := bZ HB hg; have GE270 := bZ HB hg; replace HB := bW HB hb; clear hb hbox hg; obtain ⟨hcz27_0, hcz27_1, hcz27_2, hcz27_3, hcz27_4, hcz27_5, hcz27_6, hcz27_7, hfz27_0, hfz27_1, hfz27_2, hfz27_3, hfz27_4, hfz27_5, hfz27_6, hfz27_7⟩ := bf8 (w := w26) BK270) | ((with_reducible refine gate_callee (f := 27) rfl ?_); refine goesL_ (some 15) rfl rfl Try.func27 (by kernel_rfl) rfl #[.agg #[.string (⟨#[97]⟩ : ByteArray), .int .i64 1, .float .f64 4607182418800017408, .string (⟨#[]⟩ : ByteArray), .int .i64 0, .int .i64 0, .float .f64 0, .string (⟨#[]⟩ : ByteArray)], .int .i64 3, .agg #[.int .i64 0, .float .f64 0, .string (⟨#[]⟩ : ByteArray)]] rfl (by (try simp only [List.map_toArray, List.map_cons, List.map_nil]); first | done | rfl | (simp only [List.length_drop, List.length_take]; rfl)) ?_; (with_reducible refine (cell_Write.calls (⟨#[97]⟩ : ByteArray) 1 4607182418800017408 (⟨#[]⟩ : ByteArray) 0 0 0 (⟨#[]⟩ : ByteArray) 3 0 0 (⟨#[]⟩ : ByteArray) t271 t272 t273 t274 t275 t276 t277 t278 _ A1.out).mono ?_); rintro e w28 ⟨rfl, hb⟩; refine ⟨_, rfl, ?_⟩; replace BK270 := Aside0.mk (blk_below (g := gb270) (o := .cells #[.string (⟨#[97]⟩ : ByteArray), .int .i64 1, .float .f64 4607182418800017408, .string (⟨#[]⟩ : ByteArray), .int .i64 0, .int .i64 0, .float .f64 0, .string (⟨#[]⟩ : ByteArray)] 31 (0, 0)) (bR BK270) hb); replace HB := bW HB hb; (try clear hb); (try clear hb2); (try clear hk); (try clear hi)) | ((with_reducible refine gate_dst (N := 2) rfl ?_); (try (refine gate_guard (by rfl) ?_; dsimp only)); refine box_event ?hg (N := 2) ?hd (cs := #[.string (⟨#[]⟩ : ByteArray), .int .i64 0, .float .f64 0, .string (⟨#[]⟩ : ByteArray), .int .i64 0, .int .i64 0, .float .f64 0, .string (⟨#[]⟩ : ByteArray)]) (t := 31) ?hr ?_; (case hd => rfl); (case hg => rfl); (case hr => first | (go_simp; done) | (go_simp; rfl)); intro gb279 hg w29 hbox hb; have BK279 := Aside0.mk (hbox); have GW279 := bZ HB hg; have GE279 := bZ HB hg; have NB270_279 := bL BK270 hg; have NB279_270 := bG BK270 hg; replace BK270 := bB BK270 hb; replace HB := bW HB hb; clear hb hbox hg; have hnb30 := NB279_270.out; have hnc30 := NB270_279.out; obtain ⟨hcz31_0, hcz31_1, hcz31_2, hcz31_3, hcz31_4, hcz31_5, hcz31_6, hcz31_7, hfz31_0, hfz31_1, hfz31_2, hfz31_3, hfz31_4, hfz31_5, hfz31_6, hfz31_7⟩ := bf8 (w := w29) BK279) | ((with_reducible refine gate_callee (f := 21) rfl ?_); refine goesL_ (some 18) rfl rfl Try.func21 (by kernel_rfl) rfl #[.agg #[.string t271, .int .i64 t272, .float .f64 t273, .string t274, .int .i64 t275, .int .i64 t276, .float .f64 t277, .string t278]] rfl (by (try simp only [List.map_toArray, List.map_cons, List.map_nil]); first | done | rfl | (simp only [List.length_drop, List.length_take]; rfl)) ?_; (with_reducible refine (cell_Commit.calls t271 t272 t273 t274 t275 t276 t277 t278 t280 t281 t282 t283 t284 t285 t286 t287 false _ A2.out).mono ?_); rintro e w32 ⟨rfl, hb⟩; refine ⟨_, rfl, ?_⟩; replace BK270 := bB BK270 hb; replace BK279 := Aside0.mk (blk_below (g := gb279) (o := .cells #[.string t271, .int .i64 t272, .float .f64 t273, .string t274, .int .i64 t275, .int .i64 t276, .float .f64 t277, .string t278] 31 (0, 0)) (bR BK279) hb); replace HB := bW HB hb; (try clear hb); (try clear hb2); (try clear hk); (try clear hi)) | ((with_reducible refine gate_dst (N := 3) rfl ?_); (try (refine gate_guard (by rfl) ?_; dsimp only)); refine box_event ?hg (N := 3) ?hd (cs := #[.string (⟨#[]⟩ : ByteArray), .int .i64 0, .float .f64 0, .string (⟨#[]⟩ : ByteArray), .int .i64 0, .int .i64 0, .float .f64 0, .string (⟨#[]⟩ : ByteArray)]) (t := 31) ?hr ?_; (case hd => rfl); (case hg => rfl); (case hr => first | (go_simp; done) | (go_simp; rfl)); intro gb289 hg w33 hbox hb; have BK289 := Aside0.mk (hbox); have GW289 := bZ HB hg; have GE289 := bZ HB hg; have NB270_289 := bL BK270 hg; have NB289_270 := bG BK270 hg; have NB279_289 := bL BK279 hg; have NB289_279 := bG BK279 hg; replace BK270 := bB BK270 hb; replace BK279 := bB BK279 hb; replace HB := bW HB hb; clear hb hbox hg; have hnb34 := NB289_270.out; have hnc34 := NB270_289.out; have hnb35 := NB289_279.out; have hnc35 := NB279_289.out; obtain ⟨hcz36_0, hcz36_1, hcz36_2, hcz36_3, hcz36_4, hcz36_5, hcz36_6, hcz36_7, hfz36_0, hfz36_1, hfz36_2, hfz36_3, hfz36_4, hfz36_5, hfz36_6, hfz36_7⟩ := bf8 (w := w33) BK289; obtain ⟨hcz37_0, hcz37_1, hcz37_2, hcz37_3, hcz37_4, hcz37_5, hcz37_6, hcz37_7, hfz37_0, hfz37_1, hfz37_2, hfz37_3, hfz37_4, hfz37_5, hfz37_6, hfz37_7⟩ := bf8 (w := w33) BK279) | ((with_reducible refine gate_callee (f := 23) rfl ?_); refine goesL_ (some 23) rfl rfl Try.func23 (by kernel_rfl) rfl #[.agg #[.string t271, .int .i64 t272, .float .f64 t273, .string t274, .int .i64 t275, .int .i64 t276, .float .f64 t277, .string t278]] rfl (by (try simp only [List.map_toArray, List.map_cons, List.map_nil]); first | done | rfl | (simp only [List.length_drop, List.length_take]; rfl)) ?_; (with_reducible refine (cell_Undo.calls t271 t272 t273 t274 t275 t276 t277 t278 t290 t291 t292 t293 t294 t295 t296 t297 true _ A3.out).mono ?_); rintro e w38 ⟨rfl, hb⟩; refine ⟨_, rfl, ?_⟩; replace BK270 := bB BK270 hb; replace BK279 := bB BK279 hb; replace BK289 := Aside0.mk (blk_below (g := gb289) (o := .cells #[.string t280, .int .i64 t281, .float .f64 t282, .string t283, .int .i64 t284, .int .i64 t285, .float .f64 t286, .string t287] 31 (0, 0)) (bR BK289) hb); replace HB := bW HB hb; (try clear hb); (try clear hb2); (try clear hk); (try clear hi)) | ((with_reducible refine gate_dst (N := 5) rfl ?_); (try (refine gate_guard (by rfl) ?_; dsimp only)); refine box_event ?hg (N := 5) ?hd (cs := #[.string (⟨#[]⟩ : ByteArray), .int .i64 0, .float .f64 0, .string (⟨#[]⟩ : ByteArray), .int .i64 0, .int .i64 0, .float .f64 0, .string (⟨#[]⟩ : ByteArray)]) (t := 31) ?hr ?_; (case hd => rfl); (case hg => rfl); (case hr => first | (go_simp; done) | (go_simp; rfl)); intro gb299 hg w39 hbox hb; have BK299 := Aside0.mk (hbox); have GW299 := bZ HB hg; have GE299 := bZ HB hg; have NB270_299 := bL BK270 hg; have NB299_270 := bG BK270 hg; have NB279_299 := bL BK279 hg; have NB299_279 := bG BK279 hg; have NB289_299 := bL BK289 hg; have NB299_289 := bG BK289 hg; replace BK270 := bB BK270 hb; replace BK279 := bB BK279 hb; replace BK289 := bB BK289 hb; replace HB := bW HB hb; clear hb hbox hg; have hnb40 := NB299_270.out; have hnc40 := NB270_299.out; have hnb41 := NB299_279.out; have hnc41 := NB279_299.out; have hnb42 := NB299_289.out; have hnc42 := NB289_299.out; obtain ⟨hcz43_0, hcz43_1, hcz43_2, hcz43_3, hcz43_4, hcz43_5, hcz43_6, hcz43_7, hfz43_0, hfz43_1, hfz43_2, hfz43_3, hfz43_4, hfz43_5, hfz43_6, hfz43_7⟩ := bf8 (w := w39) BK299) | ((with_reducible refine gate_store (t := 31) (p := 5) rfl ?_); refine store_event (t := 31) (p := 5) (v := ?vo_w44) (w1 := ((((((((w39.setCell ⟨gb299, 0, none⟩ (.string t290)).setCell ⟨gb299, 1, none⟩ (.int .i64 t291)).setCell ⟨gb299, 2, none⟩ (.float .f64 t292)).setCell ⟨gb299, 3, none⟩ (.string t293)).setCell ⟨gb299, 4, none⟩ (.int .i64 t294)).setCell ⟨gb299, 5, none⟩ (.int .i64 t295)).setCell ⟨gb299, 6, none⟩ (.float .f64 t296)).setCell ⟨gb299, 7, none⟩ (.string t297))) ?hg ?ho ?hn ?hr ?_; (case ho => rfl); (case hg => rfl); (case hn => rfl); (case hr => first | (go_simp; done) | (go_simp; rfl)); intro w44 hw; replace BK270 := bE BK270 hw; replace BK279 := bE BK279 hw; replace BK289 := bE BK289 hw; replace BK299 : Aside0 (w44.heap[gb299]? = some (.cells #[.string t290, .int .i64 t291, .float .f64 t292, .string t293, .int .i64 t294, .int .i64 t295, .float .f64 t296, .string t297] 31 (0, 0))) := bP BK299 hw; replace HB := bH HB hw; clear hw; obtain ⟨hcz45_0, hcz45_1, hcz45_2, hcz45_3, hcz45_4, hcz45_5, hcz45_6, hcz45_7, hfz45_0, hfz45_1, hfz45_2, hfz45_3, hfz45_4, hfz45_5, hfz45_6, hfz45_7⟩ := bf8 (w := w44) BK279) | ((with_reducible refine gate_callee (f := 29) rfl ?_); refine goesL_ (some 27) rfl rfl Try.func29 (by kernel_rfl) rfl #[.slice none 0 0, .agg #[.string t271, .int .i64 t272, .float .f64 t273, .string t274, .int .i64 t275, .int .i64 t276, .float .f64 t277, .string t278]] rfl (by (try simp only [List.map_toArray, List.map_cons, List.map_nil]); first | done | rfl | (simp only [List.length_drop, List.length_take]; rfl)) ?_; (with_reducible refine (cell_Put.calls k (fun k_ => some k_ = (.slice none 0 0 : Value).ownBlock) (.slice none 0 0) ([] : List Int) t271 t272 t273 t274 t275 t276 t277 t278 t300 w _ ?side1 ?side2 A4.out).mono ?_); (case side1 => repeat (first | (with_reducible first | exact HB.out | apply below_alloc | apply pw_below_drewN | apply below_drew1 | refine below_set ?_ GE270.out | refine below_set ?_ GE279.out | refine below_set ?_ GE289.out | refine below_set ?_ GE299.out) | exact HB.out)); (case side2 => exact Kd.R_nil _ _ _ _ _); rintro e w46 ⟨v301, rfl, ho0, hb, hkp⟩; refine ⟨_, rfl, ?_⟩; have HO302 := Aside0.mk (Kd.R_mono (ok' := fun k_ => True) ho0 (fun k_ hk_ => trivial)); replace BK270 := Aside0.mk (blk_kept (bQ BK270) hkp (fun hs_ => (fun e_ => by simp [Value.ownBlock] at e_) hs_)); replace BK279 := Aside0.mk (blk_kept (bQ BK279) hkp (fun hs_ => (fun e_ => by simp [Value.ownBlock] at e_) hs_)); replace BK289 := Aside0.mk (blk_kept (bQ BK289) hkp (fun hs_ => (fun e_ => by simp [Value.ownBlock] at e_) hs_)); replace BK299 := Aside0.mk (blk_kept (bQ BK299) hkp (fun hs_ => (fun e_ => by simp [Value.ownBlock] at e_) hs_)); replace HB := Aside0.mk (hb); (try clear hb); (try clear hkp); (try clear ho0); obtain ⟨Ao47, co47, eo47⟩ := Kd.R_slice HO302.out; subst eo47) | ((with_reducible refine gate_callee (f := 31) rfl ?_); refine goesL_ (some 30) rfl rfl Try.func31 (by kernel_rfl) rfl #[.slice Ao47 t300.length co47] rfl (by (try simp only [List.map_toArray, List.map_cons, List.map_nil]); first | done | rfl | (simp only [List.length_drop, List.length_take]; rfl)) ?_; (with_reducible refine (cell_Get.calls k _ _ t300 t303 t304 t305 t306 t307 t308 t309 t310 t311 t312 _ ?side1 ?side2 A5.out).mono ?_); (case side1 => repeat (first | exact (Kd.R_reads' HO302.out).2.2 | (with_reducible refine Kd.C_alloc ?_ _) | (with_reducible refine Kd.C_drewN ?_ _) | (with_reducible refine Kd.C_drew ?_))); (case side2 => exact (Kd.R_reads' HO302.out).2.1); rintro e w48 ⟨rfl, hb⟩; refine ⟨_, rfl, ?_⟩; replace HO302 := Aside0.mk (Kd.R_below (by (with_reducible repeat (first | apply Kd.R_alloc | apply Kd.R_drewN | apply Kd.R_drew)); exact HO302.out) hb); replace BK270 := bB BK270 hb; replace BK279 := bB BK279 hb; replace BK289 := bB BK289 hb; replace BK299 := bB BK299 hb; replace HB := bW HB hb; (try clear hb); (try clear hb2); (try clear hk); (try clear hi)) | ((with_reducible refine gate_dst (N := 8) rfl ?_); (try (refine gate_guard (by rfl) ?_; dsimp only)); refine box_event ?hg (N := 8) ?hd (cs := #[.string (⟨#[]⟩ : ByteArray), .int .i64 0, .float .f64 0, .string (⟨#[]⟩ : ByteArray), .int .i64 0, .int .i64 0, .float .f64 0, .string (⟨#[]⟩ : ByteArray)]) (t := 31) ?hr ?_; (case hd => rfl); (case hg => rfl); (case hr => first | (go_simp; done) | (go_simp; rfl)); intro gb313 hg w49 hbox hb; have BK313 := Aside0.mk (hbox); have GW313 := bZ HB hg; have GE313 := bZ HB hg; have NB270_313 := bL BK270 hg; have NB313_270 := bG BK270 hg; have NB279_313 := bL BK279 hg; have NB313_279 := bG BK279 hg; have NB289_313 := bL BK289 hg; have NB313_289 := bG BK289 hg; have NB299_313 := bL BK299 hg; have NB313_299 := bG BK299 hg; replace HO302 := Aside0.mk (Kd.R_below (by (with_reducible repeat (first | apply Kd.R_alloc | apply Kd.R_drewN | apply Kd.R_drew)); exact HO302.out) hb); replace BK270 := bB BK270 hb; replace BK279 := bB BK279 hb; replace BK289 := bB BK289 hb; replace BK299 := bB BK299 hb; replace HB := bW HB hb; clear hb hbox hg; have hnb50 := NB313_270.out; have hnc50 := NB270_313.out; have hnb51 := NB313_279.out; have hnc51 := NB279_313.out; have hnb52 := NB313_289.out; have hnc52 := NB289_313.out; have hnb53 := NB313_299.out; have hnc53 := NB299_313.out; obtain ⟨hcz54_0, hcz54_1, hcz54_2, hcz54_3, hcz54_4, hcz54_5, hcz54_6, hcz54_7, hfz54_0, hfz54_1, hfz54_2, hfz54_3, hfz54_4, hfz54_5, hfz54_6, hfz54_7⟩ := bf8 (w := w49) BK313; obtain ⟨hcz55_0, hcz55_1, hcz55_2, hcz55_3, hcz55_4, hcz55_5, hcz55_6, hcz55_7, hfz55_0, hfz55_1, hfz55_2, hfz55_3, hfz55_4, hfz55_5, hfz55_6, hfz55_7⟩ := bf8 (w := w49) BK270) | ((with_reducible refine gate_callee (f := 13) rfl ?_); refine goesL_ (some 35) rfl rfl Try.func13 (by kernel_rfl) rfl #[.agg #[.string (⟨#[97]⟩ : ByteArray), .int .i64 1, .float .f64 4607182418800017408, .string (⟨#[]⟩ : ByteArray), .int .i64 0, .int .i64 0, .float .f64 0, .string (⟨#[]⟩ : ByteArray)]] rfl (by (try simp only [List.map_toArray, List.map_cons, List.map_nil]); first | done | rfl | (simp only [List.length_drop, List.length_take]; rfl)) ?_; (with_reducible refine (cell_May.calls k (⟨#[97]⟩ : ByteArray) 1 4607182418800017408 (⟨#[]⟩ : ByteArray) 0 0 0 (⟨#[]⟩ : ByteArray) true _ A6.out).mono ?_); rintro e w56 ⟨rfl, hb⟩; refine ⟨_, rfl, ?_⟩; replace HO302 := Aside0.mk (Kd.R_below (by (with_reducible repeat (first | apply Kd.R_alloc | apply Kd.R_drewN | apply Kd.R_drew)); exact (Kd.R_mono (Kd.R_far (p := ⟨gb313, 7, none⟩) (Kd.R_far (p := ⟨gb313, 6, none⟩) (Kd.R_far (p := ⟨gb313, 5, none⟩) (Kd.R_far (p := ⟨gb313, 4, none⟩) (Kd.R_far (p := ⟨gb313, 3, none⟩) (Kd.R_far (p := ⟨gb313, 2, none⟩) (Kd.R_far (p := ⟨gb313, 1, none⟩) (Kd.R_far (p := ⟨gb313, 0, none⟩) (Kd.R_types HO302.out BK313.out (by decide)) (fun _ hk => hk.2) (.string t303)) (fun _ hk => hk.2) (.int .i64 t304)) (fun _ hk => hk.2) (.float .f64 t305)) (fun _ hk => hk.2) (.string t306)) (fun _ hk => hk.2) (.int .i64 t307)) (fun _ hk => hk.2) (.int .i64 t308)) (fun _ hk => hk.2) (.float .f64 t309)) (fun _ hk => hk.2) (.string t310)) (fun _ h_ => h_.1))) hb); replace BK270 := bB BK270 hb; replace BK279 := bB BK279 hb; replace BK289 := bB BK289 hb; replace BK299 := bB BK299 hb; replace BK313 := Aside0.mk (blk_below (g := gb313) (o := .cells #[.string t303, .int .i64 t304, .float .f64 t305, .string t306, .int .i64 t307, .int .i64 t308, .float .f64 t309, .string t310] 31 (0, 0)) (bR BK313) hb); replace HB := bW HB hb; (try clear hb); (try clear hb2); (try clear hk); (try clear hi)) | (go_at_call 13; (with_reducible refine (cell_May.calls k (⟨#[]⟩ : ByteArray) 0 0 (⟨#[]⟩ : ByteArray) 0 0 0 (⟨#[]⟩ : ByteArray) false _ A8.out).mono ?_); rintro e w57 ⟨rfl, hb⟩; replace HO302 := Aside0.mk (Kd.R_below (by (with_reducible repeat (first | apply Kd.R_alloc | apply Kd.R_drewN | apply Kd.R_drew)); exact HO302.out) hb); replace BK270 := bB BK270 hb; replace BK279 := bB BK279 hb; replace BK289 := bB BK289 hb; replace BK299 := bB BK299 hb; replace BK313 := bB BK313 hb; replace HB := bW HB hb; (try clear hb); (try clear hb2); (try clear hk); (try clear hi); obtain ⟨hcz58_0, hcz58_1, hcz58_2, hcz58_3, hcz58_4, hcz58_5, hcz58_6, hcz58_7, hfz58_0, hfz58_1, hfz58_2, hfz58_3, hfz58_4, hfz58_5, hfz58_6, hfz58_7⟩ := bf8 (w := w57) BK279) | (go_at_call 13; (with_reducible refine (cell_May.calls k t271 t272 t273 t274 t275 t276 t277 t278 true _ A10.out).mono ?_); rintro e w59 ⟨rfl, hb⟩; replace HO302 := Aside0.mk (Kd.R_below (by (with_reducible repeat (first | apply Kd.R_alloc | apply Kd.R_drewN | apply Kd.R_drew)); exact HO302.out) hb); replace BK270 := bB BK270 hb; replace BK279 := bB BK279 hb; replace BK289 := bB BK289 hb; replace BK299 := bB BK299 hb; replace BK313 := bB BK313 hb; replace HB := bW HB hb; (try clear hb); (try clear hb2); (try clear hk); (try clear hi); obtain ⟨hcz60_0, hcz60_1, hcz60_2, hcz60_3, hcz60_4, hcz60_5, hcz60_6, hcz60_7, hfz60_0, hfz60_1, hfz60_2, hfz60_3, hfz60_4, hfz60_5, hfz60_6, hfz60_7⟩ := bf8 (w := w59) BK279) | (go_at_call 17; (with_reducible refine (cell_See.calls t271 t272 t273 t274 t275 t276 t277 t278 3 t317 t318 t319 _ A12.out).mono ?_); rintro e w61 ⟨rfl, hb⟩; replace HO302 := Aside0.mk (Kd.R_below (by (with_reducible repeat (first | apply Kd.R_alloc | apply Kd.R_drewN | apply Kd.R_drew)); exact HO302.out) hb); replace BK270 := bB BK270 hb; replace BK279 := bB BK279 hb; replace BK289 := bB BK289 hb; replace BK299 := bB BK299 hb; replace BK313 := bB BK313 hb; replace HB := bW HB hb; (try clear hb); (try clear hb2); (try clear hk); (try clear hi); obtain ⟨hcz62_0, hcz62_1, hcz62_2, hcz62_3, hcz62_4, hcz62_5, hcz62_6, hcz62_7, hfz62_0, hfz62_1, hfz62_2, hfz62_3, hfz62_4, hfz62_5, hfz62_6, hfz62_7⟩ := bf8 (w := w61) BK279) | (go_at_call 17; (with_reducible refine (cell_See.calls t271 t272 t273 t274 t275 t276 t277 t278 4 t320 t321 t322 _ A14.out).mono ?_); rintro e w63 ⟨rfl, hb⟩; replace HO302 := Aside0.mk (Kd.R_below (by (with_reducible repeat (first | apply Kd.R_alloc | apply Kd.R_drewN | apply Kd.R_drew)); exact HO302.out) hb); replace BK270 := bB BK270 hb; replace BK279 := bB BK279 hb; replace BK289 := bB BK289 hb; replace BK299 := bB BK299 hb; replace BK313 := bB BK313 hb; replace HB := bW HB hb; (try clear hb); (try clear hb2); (try clear hk); (try clear hi); obtain ⟨hcz64_0, hcz64_1, hcz64_2, hcz64_3, hcz64_4, hcz64_5, hcz64_6, hcz64_7, hfz64_0, hfz64_1, hfz64_2, hfz64_3, hfz64_4, hfz64_5, hfz64_6, hfz64_7⟩ := bf8 (w := w63) BK299; obtain ⟨hcz65_0, hcz65_1, hcz65_2, hcz65_3, hcz65_4, hcz65_5, hcz65_6, hcz65_7, hfz65_0, hfz65_1, hfz65_2, hfz65_3, hfz65_4, hfz65_5, hfz65_6, hfz65_7⟩ := bf8 (w := w63) BK270) | (go_at_call 19; (with_reducible refine (cell_Eq.calls t290 t291 t292 t293 t294 t295 t296 t297 (⟨#[97]⟩ : ByteArray) 1 4607182418800017408 (⟨#[]⟩ : ByteArray) 0 0 0 (⟨#[]⟩ : ByteArray) true _ A18.out).mono ?_); rintro e w66 ⟨rfl, hb⟩; replace HO302 := Aside0.mk (Kd.R_below (by (with_reducible repeat (first | apply Kd.R_alloc | apply Kd.R_drewN | apply Kd.R_drew)); exact HO302.out) hb); replace BK270 := bB BK270 hb; replace BK279 := bB BK279 hb; replace BK289 := bB BK289 hb; replace BK299 := bB BK299 hb; replace BK313 := bB BK313 hb; replace HB := bW HB hb; (try clear hb); (try clear hb2); (try clear hk); (try clear hi); obtain ⟨hcz67_0, hcz67_1, hcz67_2, hcz67_3, hcz67_4, hcz67_5, hcz67_6, hcz67_7, hfz67_0, hfz67_1, hfz67_2, hfz67_3, hfz67_4, hfz67_5, hfz67_6, hfz67_7⟩ := bf8 (w := w66) BK313; obtain ⟨hcz68_0, hcz68_1, hcz68_2, hcz68_3, hcz68_4, hcz68_5, hcz68_6, hcz68_7, hfz68_0, hfz68_1, hfz68_2, hfz68_3, hfz68_4, hfz68_5, hfz68_6, hfz68_7⟩ := bf8 (w := w66) BK279) | (go_at_call 19; (with_reducible refine (cell_Eq.calls t303 t304 t305 t306 t307 t308 t309 t310 t271 t272 t273 t274 t275 t276 t277 t278 true _ A23.out).mono ?_); rintro e w69 ⟨rfl, hb⟩; replace HO302 := Aside0.mk (Kd.R_below (by (with_reducible repeat (first | apply Kd.R_alloc | apply Kd.R_drewN | apply Kd.R_drew)); exact HO302.out) hb); replace BK270 := bB BK270 hb; replace BK279 := bB BK279 hb; replace BK289 := bB BK289 hb; replace BK299 := bB BK299 hb; replace BK313 := bB BK313 hb; replace HB := bW HB hb; (try clear hb); (try clear hb2); (try clear hk); (try clear hi); obtain ⟨hcz70_0, hcz70_1, hcz70_2, hcz70_3, hcz70_4, hcz70_5, hcz70_6, hcz70_7, hfz70_0, hfz70_1, hfz70_2, hfz70_3, hfz70_4, hfz70_5, hfz70_6, hfz70_7⟩ := bf8 (w := w69) BK313; obtain ⟨hcz71_0, hcz71_1, hcz71_2, hcz71_3, hcz71_4, hcz71_5, hcz71_6, hcz71_7, hfz71_0, hfz71_1, hfz71_2, hfz71_3, hfz71_4, hfz71_5, hfz71_6, hfz71_7⟩ := bf8 (w := w69) BK270) | (go_at_call 19; (with_reducible refine (cell_Eq.calls t303 t304 t305 t306 t307 t308 t309 t310 (⟨#[97]⟩ : ByteArray) 1 4607182418800017408 (⟨#[]⟩ : ByteArray) 0 0 0 (⟨#[]⟩ : ByteArray) t325 _ A25.out).mono ?_); rintro e w72 ⟨rfl, hb⟩; replace HO302 := Aside0.mk (Kd.R_below (by (with_reducible repeat (first | apply Kd.R_alloc | apply Kd.R_drewN | apply Kd.R_drew)); exact HO302.out) hb); replace BK270 := bB BK270 hb; replace BK279 := bB BK279 hb; replace BK289 := bB BK289 hb; replace BK299 := bB BK299 hb; replace BK313 := bB BK313 hb; replace HB := bW HB hb; (try clear hb); (try clear hb2); (try clear hk); (try clear hi)))
             go_ret
             exact ⟨by first | rfl | (simp [errW_none, errW_some] <;> rfl) | (simp [*, errW_none, errW_some] <;> rfl), by repeat (first | (with_reducible first | exact HB.out | apply below_alloc | apply pw_below_drewN | apply below_drew1 | refine below_set ?_ GE270.out | refine below_set ?_ GE279.out | refine below_set ?_ GE289.out | refine below_set ?_ GE299.out | refine below_set ?_ GE313.out) | exact HB.out)⟩
            ·replace c24 := Bool.eq_false_iff.mpr c24
             subst c24
             have H1 : (none) = some r := by rw [if_neg (show ¬ (false = true) by decide)] at H; exact H
             clear H
             have H := H1
             clear H1
             exact absurd H (by simp)
           ·rw [if_neg c22] at H
            exact absurd H (by simp)
          ·rw [if_neg c21] at H
           exact absurd H (by simp)
         ·rw [if_neg c20] at H
          exact absurd H (by simp)
        ·replace c19 := Bool.eq_false_iff.mpr c19
         subst c19
         have H1 : (none) = some r := by rw [if_neg (show ¬ (false = true) by decide)] at H; exact H
         clear H
         have H := H1
         clear H1
         exact absurd H (by simp)
       ·replace c17 := Bool.eq_false_iff.mpr c17
        subst c17
        have H1 : (none) = some r := by rw [if_neg (show ¬ (false = true) by decide)] at H; exact H
        clear H
        have H := H1
        clear H1
        exact absurd H (by simp)
     ·rw [if_neg c15] at H
      exact absurd H (by simp)
    ·rw [if_neg c13] at H
     exact absurd H (by simp)
   ·replace c11 := Bool.eq_false_iff.mpr c11
    subst c11
    have H1 : (none) = some r := by rw [if_neg (show ¬ (false = true) by decide)] at H; exact H
    clear H
    have H := H1
    clear H1
    exact absurd H (by simp)
 ·replace c7 := Bool.eq_false_iff.mpr c7
  subst c7
  have H1 : (none) = some r := by rw [if_neg (show ¬ (false = true) by decide)] at H; exact H
  clear H
  have H := H1
  clear H1
  exact absurd H (by simp)

/-! ### engrosslaw1_Cut: function 33 -/
def engrosslaw1_Cut.f (a0 : ByteArray) (a1 : Int) : Option (ByteArray) := if (a0.size : Int) > a1 then (if 0 ≤ a1 then (if a1 ≤ (a0.size : Int) then (some (a0.extract 0 (a1 : Int).toNat)) else (none)) else (none)) else (some a0)
set_option maxHeartbeats 8000000 in
set_option maxRecDepth 100000 in
theorem engrosslaw1_Cut.calls (a0 : ByteArray) (a1 : Int) (r : ByteArray) (w : World) (h : engrosslaw1_Cut.f a0 a1 = some r) :
  Calls Try.prog 33 #[.string a0, .int .i64 a1] w fun e w' => e = .returned (.string r) ∧ Drawn0 w w' := by
 have H : (if (a0.size : Int) > a1 then (if 0 ≤ a1 then (if a1 ≤ (a0.size : Int) then (some (a0.extract 0 (a1 : Int).toNat)) else (none)) else (none)) else (some a0)) = some r := h
 clear h
 by_cases c3 : (a0.size : Int) > a1
 ·rw [if_pos c3] at H
  have c3b0 : decide (a1 < (a0.size : Int)) = true := decide_eq_true c3
  clear c3
  by_cases c4 : 0 ≤ a1
  ·rw [if_pos c4] at H
   have c4b0 := eq_true c4
   have c4b1 : decide (0 ≤ a1) = true := decide_eq_true c4
   clear c4
   by_cases c5 : a1 ≤ (a0.size : Int)
   ·rw [if_pos c5] at H
    have c5b0 := eq_true c5
    have c5b1 : decide (a1 ≤ (a0.size : Int)) = true := decide_eq_true c5
    clear c5
    obtain rfl := Option.some.inj H
    go_enter Try.func33, Try.ntmps33
    go_wp2
    go_ret
    exact ⟨by first | rfl | (simp; done) | (simp [*]; done), by repeat (first | exact Drawn0.refl _ | apply Drawn0.step)⟩
   ·rw [if_neg c5] at H
    exact absurd H (by simp)
  ·rw [if_neg c4] at H
   exact absurd H (by simp)
 ·rw [if_neg c3] at H
  have c3b0 : decide (a1 < (a0.size : Int)) = false := decide_eq_false c3
  clear c3
  obtain rfl := Option.some.inj H
  go_enter Try.func33, Try.ntmps33
  go_wp2
  go_ret
  exact ⟨by first | rfl | (simp; done) | (simp [*]; done), by repeat (first | exact Drawn0.refl _ | apply Drawn0.step)⟩

/-! ### engrosslaw10_Val: function 12 -/
def engrosslaw10_Val.f (a0_0 : Int) (a0_1 : Nat) (a0_2 : ByteArray) : Option (Int × Nat × ByteArray) := (engrosslaw1_Cut.f a0_2 25).bind fun t328 => (some (a0_0, a0_1, t328))
set_option maxHeartbeats 8000000 in
set_option maxRecDepth 100000 in
theorem engrosslaw10_Val.calls (a0_0 : Int) (a0_1 : Nat) (a0_2 : ByteArray) (r1 : Int) (r2 : Nat) (r3 : ByteArray) (w : World) (h : engrosslaw10_Val.f a0_0 a0_1 a0_2 = some (r1, r2, r3)) :
  Calls Try.prog 12 #[.agg #[.int .i64 a0_0, .float .f64 a0_1, .string a0_2]] w fun e w' => e = .returned (.agg #[.int .i64 r1, .float .f64 r2, .string r3]) ∧ Below w.heap.size w w' := by
 have hu24 := Try.underlying24
 have HB := Aside0.mk (Below.refl w.heap.size w)
 have H : ((engrosslaw1_Cut.f a0_2 25).bind fun t328 => (some (a0_0, a0_1, t328))) = some (r1, r2, r3) := h
 clear h
 replace H := Option.bind_eq_some_iff.mp H
 obtain ⟨t328, A20, H⟩ := H
 replace H : (some (a0_0, a0_1, t328)) = some (r1, r2, r3) := H
 have A2 := Aside0.mk A20
 clear A20
 simp only [Option.some.injEq, Prod.mk.injEq] at H
 obtain ⟨rfl, rfl, rfl⟩ := H
 go_enter Try.func12, Try.ntmps12
 go_wp2_with (first | ((with_reducible refine gate_dst (N := 1) rfl ?_); refine box_event ?hg (N := 1) ?hd (cs := #[.int .i64 a0_0, .float .f64 a0_1, .string a0_2]) (t := 24) ?hr ?_; (case hd => rfl); (case hg => rfl); (case hr => first | (go_simp; done) | (go_simp; rfl)); intro gb326 hg w3 hbox hb; have BK326 := Aside0.mk (hbox); have GW326 := bZ HB hg; have GE326 := bZ HB hg; replace HB := bW HB hb; clear hb hbox hg) | ((with_reducible refine gate_dst (N := 2) rfl ?_); refine box_event ?hg (N := 2) ?hd (cs := #[.int .i64 0, .float .f64 0, .string (⟨#[]⟩ : ByteArray)]) (t := 24) ?hr ?_; (case hd => rfl); (case hg => rfl); (case hr => first | (go_simp; done) | (go_simp; rfl)); intro gb327 hg w4 hbox hb; have BK327 := Aside0.mk (hbox); have GW327 := bZ HB hg; have GE327 := bZ HB hg; have NB326_327 := bL BK326 hg; have NB327_326 := bG BK326 hg; replace BK326 := bB BK326 hb; replace HB := bW HB hb; clear hb hbox hg; have hnb5 := NB326_327.out; have hnc5 := NB327_326.out; obtain ⟨hcz6_0, hcz6_1, hcz6_2, hfz6_0, hfz6_1, hfz6_2⟩ := bf3 (w := w4) BK326) | ((with_reducible refine gate_callee (f := 33) rfl ?_); refine goesL_ (some 5) rfl rfl Try.func33 (by kernel_rfl) rfl #[.string a0_2, .int .i64 25] rfl (by (try simp only [List.map_toArray, List.map_cons, List.map_nil]); first | done | rfl | (simp only [List.length_drop, List.length_take]; rfl)) ?_; (with_reducible refine (engrosslaw1_Cut.calls a0_2 25 t328 _ A2.out).mono ?_); rintro e w' ⟨rfl, ⟨nd, rfl⟩⟩; refine ⟨_, rfl, ?_⟩; (try (rw [drewN_self w4]; generalize hq_ : World.drewN w4 _ = w4; have n0_ := bE BK326 hq_.symm; have n1_ := bE BK327 hq_.symm; have n2_ := bH HB hq_.symm; clear BK326 BK327 HB hq_; have BK326 := n0_; have BK327 := n1_; have HB := n2_; clear n0_ n1_ n2_)); obtain ⟨hcz7_0, hcz7_1, hcz7_2, hfz7_0, hfz7_1, hfz7_2⟩ := bf3 (w := w4) BK326; obtain ⟨hcz8_0, hcz8_1, hcz8_2, hfz8_0, hfz8_1, hfz8_2⟩ := bf3 (w := w4) BK327))
 refine bodyPost_ret (results_cell_row rfl _ _ gb327 24 #[.int .i64 a0_0, .float .f64 a0_1, .string t328] (0, 0) _ rfl (bR BK327) Try.underlying24 rfl (by kernel_rfl)) rfl ?_
 exact ⟨by first | rfl | (simp [errW_none, errW_some] <;> rfl) | (simp [*, errW_none, errW_some] <;> rfl), by repeat (first | (with_reducible first | exact HB.out | apply below_alloc | apply pw_below_drewN | apply below_drew1 | refine below_set ?_ GE326.out | refine below_set ?_ GE327.out) | exact HB.out)⟩

/-! ### engrosslaw10_Cut: function 11 -/
def engrosslaw10_Cut.f (a0_0 : ByteArray) (a0_1 : Int) (a0_2 : Nat) (a0_3 : ByteArray) (a0_4 : Int) (a0_5 : Int) (a0_6 : Nat) (a0_7 : ByteArray) : Option (ByteArray × Int × Nat × ByteArray × Int × Int × Nat × ByteArray) := (engrosslaw1_Cut.f a0_0 20).bind fun t331 => ((engrosslaw10_Val.f a0_1 a0_2 a0_3).bind fun bt332 => ((engrosslaw10_Val.f a0_5 a0_6 a0_7).bind fun bt335 => (some (t331, bt332.1, bt332.2.1, bt332.2.2, a0_4, bt335.1, bt335.2.1, bt335.2.2))))
def engrosslaw10_Cut.T1 : Bool × List (List Nat × List Nat) := (true, [([], []), ([0], [0]), ([1], [1]), ([], []), ([3], [3]), ([4, 2], [4]), ([], []), ([6], [6]), ([7, 5], [7]), ([0, 1, 2, 3, 4, 6, 7], []), ([9, 2, 8, 0, 1, 2, 3, 4, 6, 7], [2, 9]), ([0, 1, 2, 3, 4, 5, 6, 7, 9, 10], []), ([11, 5, 10, 0, 1, 2, 3, 4, 5, 6, 7, 9, 10], [5, 11]), ([0, 1, 2, 3, 4, 5, 6, 7, 8, 9, 10, 11, 12], []), ([13, 8, 12, 0, 1, 2, 3, 4, 5, 6, 7, 8, 9, 10, 11, 12], [8, 13])])
def engrosslaw10_Cut.B1 : List Nat := [0, 1, 3, 0, 8, 31, 0, 64, 255, 223, 1023, 2047, 4095, 8191, 16383]
theorem engrosslaw10_Cut.tab1 : rtab .any (opsOf Try.f11 1) = engrosslaw10_Cut.T1 := by kernel_rfl
theorem engrosslaw10_Cut.bits1 : waitsOk engrosslaw10_Cut.T1.2 engrosslaw10_Cut.B1 = true := by kernel_rfl
set_option maxHeartbeats 8000000 in
set_option maxRecDepth 100000 in
theorem engrosslaw10_Cut.calls (a0_0 : ByteArray) (a0_1 : Int) (a0_2 : Nat) (a0_3 : ByteArray) (a0_4 : Int) (a0_5 : Int) (a0_6 : Nat) (a0_7 : ByteArray) (r1 : ByteArray) (r2 : Int) (r3 : Nat) (r4 : ByteArray) (r5 : Int) (r6 : Int) (r7 : Nat) (r8 : ByteArray) (w : World) (h : engrosslaw10_Cut.f a0_0 a0_1 a0_2 a0_3 a0_4 a0_5 a0_6 a0_7 = some (r1, r2, r3, r4, r5, r6, r7, r8)) :
  Calls Try.prog 11 #[.agg #[.string a0_0, .int .i64 a0_1, .float .f64 a0_2, .string a0_3, .int .i64 a0_4, .int .i64 a0_5, .float .f64 a0_6, .string a0_7]] w fun e w' => e = .returned (.agg #[.string r1, .int .i64 r2, .float .f64 r3, .string r4, .int .i64 r5, .int .i64 r6, .float .f64 r7, .string r8]) ∧ Below w.heap.size w w' := by
 have hu26 := Try.underlying26
 have hu24 := Try.underlying24
 have HB := Aside0.mk (Below.refl w.heap.size w)
 have H : ((engrosslaw1_Cut.f a0_0 20).bind fun t331 => ((engrosslaw10_Val.f a0_1 a0_2 a0_3).bind fun bt332 => ((engrosslaw10_Val.f a0_5 a0_6 a0_7).bind fun bt335 => (some (t331, bt332.1, bt332.2.1, bt332.2.2, a0_4, bt335.1, bt335.2.1, bt335.2.2))))) = some (r1, r2, r3, r4, r5, r6, r7, r8) := h
 clear h
 replace H := Option.bind_eq_some_iff.mp H
 obtain ⟨t331, A20, H⟩ := H
 replace H : ((engrosslaw10_Val.f a0_1 a0_2 a0_3).bind fun bt332 => ((engrosslaw10_Val.f a0_5 a0_6 a0_7).bind fun bt335 => (some (t331, bt332.1, bt332.2.1, bt332.2.2, a0_4, bt335.1, bt335.2.1, bt335.2.2)))) = some (r1, r2, r3, r4, r5, r6, r7, r8) := H
 have A2 := Aside0.mk A20
 clear A20
 replace H := Option.bind_eq_some_iff.mp H
 obtain ⟨⟨t332, t333, t334⟩, A30, H⟩ := H
 replace H : ((engrosslaw10_Val.f a0_5 a0_6 a0_7).bind fun bt335 => (some (t331, t332, t333, t334, a0_4, bt335.1, bt335.2.1, bt335.2.2))) = some (r1, r2, r3, r4, r5, r6, r7, r8) := H
 have A3 := Aside0.mk A30
 clear A30
 replace H := Option.bind_eq_some_iff.mp H
 obtain ⟨⟨t335, t336, t337⟩, A40, H⟩ := H
 replace H : (some (t331, t332, t333, t334, a0_4, t335, t336, t337)) = some (r1, r2, r3, r4, r5, r6, r7, r8) := H
 have A4 := Aside0.mk A40
 clear A40
 simp only [Option.some.injEq, Prod.mk.injEq] at H
 obtain ⟨rfl, rfl, rfl, rfl, rfl, rfl, rfl, rfl⟩ := H
 go_enter Try.func11, Try.ntmps11
 try go_wp2_with (first | ((with_reducible refine gate_dst (N := 1) rfl ?_); refine box_event ?hg (N := 1) ?hd (cs := #[.string a0_0, .int .i64 a0_1, .float .f64 a0_2, .string a0_3, .int .i64 a0_4, .int .i64 a0_5, .float .f64 a0_6, .string a0_7]) (t := 26) ?hr ?_; (case hd => rfl); (case hg => rfl); (case hr => first | (go_simp; done) | (go_simp; rfl)); intro gb329 hg w5 hbox hb; have BK329 := Aside0.mk (hbox); have GW329 := bZ HB hg; have GE329 := bZ HB hg; replace HB := bW HB hb; clear hb hbox hg) | ((with_reducible refine gate_dst (N := 2) rfl ?_); refine box_event ?hg (N := 2) ?hd (cs := #[.string (⟨#[]⟩ : ByteArray), .int .i64 0, .float .f64 0, .string (⟨#[]⟩ : ByteArray), .int .i64 0, .int .i64 0, .float .f64 0, .string (⟨#[]⟩ : ByteArray)]) (t := 26) ?hr ?_; (case hd => rfl); (case hg => rfl); (case hr => first | (go_simp; done) | (go_simp; rfl)); intro gb330 hg w6 hbox hb; have BK330 := Aside0.mk (hbox); have GW330 := bZ HB hg; have GE330 := bZ HB hg; have NB329_330 := bL BK329 hg; have NB330_329 := bG BK329 hg; replace BK329 := bB BK329 hb; replace HB := bW HB hb; clear hb hbox hg))
 replace BK329 := Aside0.mk (blk_drew BK329.out)
 replace BK330 := Aside0.mk (blk_drew BK330.out)
 replace HB := Aside0.mk (below_drew1 HB.out)
 refine start_ (n := 15) (S := fun w' => w'.cell? ⟨gb329, 0, none⟩ = some (.string a0_0) ∧ w'.cell? ⟨gb329, 1, none⟩ = some (.int .i64 a0_1) ∧ w'.cell? ⟨gb329, 2, none⟩ = some (.float .f64 a0_2) ∧ w'.cell? ⟨gb329, 3, none⟩ = some (.string a0_3) ∧ w'.cell? ⟨gb329, 4, none⟩ = some (.int .i64 a0_4) ∧ w'.cell? ⟨gb329, 5, none⟩ = some (.int .i64 a0_5) ∧ w'.cell? ⟨gb329, 6, none⟩ = some (.float .f64 a0_6) ∧ w'.cell? ⟨gb329, 7, none⟩ = some (.string a0_7)) (ds := [10, 12, 14]) #[false, false, false, false, false, false, false, false, false, false, false, false, false, false, false] (by kernel_rfl) rfl rfl (be8 BK329) (fun hHeld => ?_); refine with_tabW engrosslaw10_Cut.tab1 engrosslaw10_Cut.bits1 (fun HT_ HW_ => ?_)
 generalize w6.drew = w7 at BK329 BK330 HB hHeld ⊢
 refine pure_ (i := 0) (N := some 3) (v := ?_) (a' := ?_) #[true, false, false, false, false, false, false, false, false, false, false, false, false, false, false] rfl rfl (any_of HT_.out (by kernel_rfl)) (fun _ _ _ h => h) (Or.inl ⟨by rfl, ?_⟩) ?_ ?_
 rotate_left
 ·intro w'
  go_simp
  with_reducible rfl
 rotate_left
 ·simp only [Act.put, List.setIfInBounds_toArray, List.set_cons_zero, List.set_cons_succ, i64_w, i32_w]
  rfl
 refine pure_ (i := 3) (N := some 6) (v := ?_) (a' := ?_) #[true, false, false, true, false, false, false, false, false, false, false, false, false, false, false] rfl rfl (any_of HT_.out (by kernel_rfl)) (fun _ _ _ h => h) (Or.inl ⟨by rfl, ?_⟩) ?_ ?_
 rotate_left
 ·intro w'
  go_simp
  with_reducible rfl
 rotate_left
 ·simp only [Act.put, List.setIfInBounds_toArray, List.set_cons_zero, List.set_cons_succ, i64_w, i32_w]
  rfl
 refine pure_ (i := 6) (N := some 9) (v := ?_) (a' := ?_) #[true, false, false, true, false, false, true, false, false, false, false, false, false, false, false] rfl rfl (any_of HT_.out (by kernel_rfl)) (fun _ _ _ h => h) (Or.inl ⟨by rfl, ?_⟩) ?_ ?_
 rotate_left
 ·intro w'
  go_simp
  with_reducible rfl
 rotate_left
 ·simp only [Act.put, List.setIfInBounds_toArray, List.set_cons_zero, List.set_cons_succ, i64_w, i32_w]
  rfl
 refine take_ (i := 1) (N := some 4) (v := ?_) (a' := ?_) #[true, true, false, true, false, false, true, false, false, false, false, false, false, false, false] rfl rfl (take_ofW HT_.out HW_.out (by kernel_rfl)) (fun _ _ _ h => h) (Or.inl ⟨by rfl, ?_⟩) hHeld ?_ ?_
 rotate_left
 ·rintro w' ⟨s0, s1, s2, s3, s4, s5, s6, s7⟩
  go_simp
  with_reducible rfl
 rotate_left
 ·simp only [Act.put, List.setIfInBounds_toArray, List.set_cons_zero, List.set_cons_succ, i64_w, i32_w]
  rfl
 refine take_ (i := 4) (N := some 7) (v := ?_) (a' := ?_) #[true, true, false, true, true, false, true, false, false, false, false, false, false, false, false] rfl rfl (take_ofW HT_.out HW_.out (by kernel_rfl)) (fun _ _ _ h => h) (Or.inl ⟨by rfl, ?_⟩) hHeld ?_ ?_
 rotate_left
 ·rintro w' ⟨s0, s1, s2, s3, s4, s5, s6, s7⟩
  go_simp
  with_reducible rfl
 rotate_left
 ·simp only [Act.put, List.setIfInBounds_toArray, List.set_cons_zero, List.set_cons_succ, i64_w, i32_w]
  rfl
 refine take_ (i := 7) (N := some 10) (v := ?_) (a' := ?_) #[true, true, false, true, true, false, true, true, false, false, false, false, false, false, false] rfl rfl (take_ofW HT_.out HW_.out (by kernel_rfl)) (fun _ _ _ h => h) (Or.inl ⟨by rfl, ?_⟩) hHeld ?_ ?_
 rotate_left
 ·rintro w' ⟨s0, s1, s2, s3, s4, s5, s6, s7⟩
  go_simp
  with_reducible rfl
 rotate_left
 ·simp only [Act.put, List.setIfInBounds_toArray, List.set_cons_zero, List.set_cons_succ, i64_w, i32_w]
  rfl
 refine one_ (i := 2) (N := some 5) #[true, true, true, true, true, false, true, true, false, false, false, false, false, false, false] rfl rfl (one_of HT_.out (by kernel_rfl)) (by decide) (fun K hK => ?_)
 refine goes_ Try.func33 (by kernel_rfl) rfl #[.string a0_0, .int .i64 20] (by rfl) rfl rfl (by (try simp only [List.map_toArray, List.map_cons, List.map_nil]); first | done | rfl | (simp only [List.length_drop, List.length_take]; rfl)) ?_
 with_reducible refine (engrosslaw1_Cut.calls a0_0 20 t331 _ A2.out).mono ?_
 rintro e w' ⟨rfl, ⟨nd, rfl⟩⟩
 refine ⟨_, rfl, ?_⟩
 refine hK.out _ _ (be8 BK329) (fun hHeld => ?_)
 clear hK K
 refine norm_ (a' := ?_) ?_ ?_
 rotate_left
 ·show Act.put _ (some 5) _ = _
  simp only [Act.put, List.setIfInBounds_toArray, List.set_cons_zero, List.set_cons_succ, i64_w, i32_w]
  rfl
 refine pure_ (i := 9) (N := some 12) (v := ?_) (a' := ?_) #[true, true, true, true, true, false, true, true, false, true, false, false, false, false, false] rfl rfl (any_of HT_.out (by kernel_rfl)) (fun _ _ _ h => h) (Or.inl ⟨by rfl, ?_⟩) ?_ ?_
 rotate_left
 ·intro w'
  go_simp
  with_reducible rfl
 rotate_left
 ·simp only [Act.put, List.setIfInBounds_toArray, List.set_cons_zero, List.set_cons_succ, i64_w, i32_w]
  rfl
 refine one_ (i := 5) (N := some 8) #[true, true, true, true, true, true, true, true, false, true, false, false, false, false, false] rfl rfl (one_of HT_.out (by kernel_rfl)) (by decide) (fun K hK => ?_)
 refine goes_ Try.func12 (by kernel_rfl) rfl #[.agg #[.int .i64 a0_1, .float .f64 a0_2, .string a0_3]] (by rfl) rfl rfl (by (try simp only [List.map_toArray, List.map_cons, List.map_nil]); first | done | rfl | (simp only [List.length_drop, List.length_take]; rfl)) ?_
 with_reducible refine (engrosslaw10_Val.calls a0_1 a0_2 a0_3 t332 t333 t334 _ A3.out).mono ?_
 rintro e w8 ⟨rfl, hb⟩
 refine ⟨_, rfl, ?_⟩
 replace BK329 := bB BK329 hb
 replace BK330 := bB BK330 hb
 replace HB := bW HB hb
 (try clear hb)
 (try clear hb2)
 (try clear hk)
 (try clear hi)
 refine hK.out _ _ (be8 BK329) (fun hHeld => ?_)
 clear hK K
 refine norm_ (a' := ?_) ?_ ?_
 rotate_left
 ·show Act.put _ (some 8) _ = _
  simp only [Act.put, List.setIfInBounds_toArray, List.set_cons_zero, List.set_cons_succ, i64_w, i32_w]
  rfl
 refine one_ (i := 8) (N := some 11) #[true, true, true, true, true, true, true, true, true, true, false, false, false, false, false] rfl rfl (one_of HT_.out (by kernel_rfl)) (by decide) (fun K hK => ?_)
 refine goes_ Try.func12 (by kernel_rfl) rfl #[.agg #[.int .i64 a0_5, .float .f64 a0_6, .string a0_7]] (by rfl) rfl rfl (by (try simp only [List.map_toArray, List.map_cons, List.map_nil]); first | done | rfl | (simp only [List.length_drop, List.length_take]; rfl)) ?_
 with_reducible refine (engrosslaw10_Val.calls a0_5 a0_6 a0_7 t335 t336 t337 _ A4.out).mono ?_
 rintro e w9 ⟨rfl, hb⟩
 refine ⟨_, rfl, ?_⟩
 replace BK329 := bB BK329 hb
 replace BK330 := bB BK330 hb
 replace HB := bW HB hb
 (try clear hb)
 (try clear hb2)
 (try clear hk)
 (try clear hi)
 refine hK.out _ _ (be8 BK329) (fun hHeld => ?_)
 clear hK K
 refine norm_ (a' := ?_) ?_ ?_
 rotate_left
 ·show Act.put _ (some 11) _ = _
  simp only [Act.put, List.setIfInBounds_toArray, List.set_cons_zero, List.set_cons_succ, i64_w, i32_w]
  rfl
 refine last_ (i := 10) (N := none) #[true, true, true, true, true, true, true, true, true, true, true, false, false, false, false] rfl rfl (one_of HT_.out (by kernel_rfl)) (by decide) (fun K hK => ?_)
 have hs10 : w9.cell? ⟨gb329, 0, none⟩ = some (.string a0_0) := (blk_cell BK329.out 0).trans rfl
 have hfs10 := blk_frozen BK329.out 0
 have hns10_1 := NB330_329.out
 have hms10_1 := NB329_330.out
 with_reducible refine skip_ (w1 := ?_) (by with_unfolding_all rfl) (by with_unfolding_all rfl) ?_ ?_
 rotate_left
 ·go_simp
  rfl
 refine hK.out _ _ ?_
 clear hK K
 refine pure_ (i := 11) (N := some 13) (v := ?_) (a' := ?_) #[true, true, true, true, true, true, true, true, true, true, true, true, false, false, false] rfl rfl (any_of HT_.out (by kernel_rfl)) (fun _ _ _ h => h) (Or.inl ⟨by rfl, ?_⟩) ?_ ?_
 rotate_left
 ·intro w'
  go_simp
  with_reducible rfl
 rotate_left
 ·simp only [Act.put, List.setIfInBounds_toArray, List.set_cons_zero, List.set_cons_succ, i64_w, i32_w]
  rfl
 refine last_ (i := 12) (N := none) #[true, true, true, true, true, true, true, true, true, true, true, true, true, false, false] rfl rfl (one_of HT_.out (by kernel_rfl)) (by decide) (fun K hK => ?_)
 have hs11 : w9.cell? ⟨gb329, 1, none⟩ = some (.int .i64 a0_1) := (blk_cell BK329.out 1).trans rfl
 have hfs11 := blk_frozen BK329.out 1
 have hns11_1 := NB330_329.out
 have hms11_1 := NB329_330.out
 have hs12 : w9.cell? ⟨gb329, 2, none⟩ = some (.float .f64 a0_2) := (blk_cell BK329.out 2).trans rfl
 have hfs12 := blk_frozen BK329.out 2
 have hns12_1 := NB330_329.out
 have hms12_1 := NB329_330.out
 have hs13 : w9.cell? ⟨gb329, 3, none⟩ = some (.string a0_3) := (blk_cell BK329.out 3).trans rfl
 have hfs13 := blk_frozen BK329.out 3
 have hns13_1 := NB330_329.out
 have hms13_1 := NB329_330.out
 with_reducible refine skip_ (w1 := ?_) (by with_unfolding_all rfl) (by with_unfolding_all rfl) ?_ ?_
 rotate_left
 ·go_simp
  rfl
 refine hK.out _ _ ?_
 clear hK K
 refine pure_ (i := 13) (N := some 14) (v := ?_) (a' := ?_) #[true, true, true, true, true, true, true, true, true, true, true, true, true, true, false] rfl rfl (any_of HT_.out (by kernel_rfl)) (fun _ _ _ h => h) (Or.inl ⟨by rfl, ?_⟩) ?_ ?_
 rotate_left
 ·intro w'
  go_simp
  with_reducible rfl
 rotate_left
 ·simp only [Act.put, List.setIfInBounds_toArray, List.set_cons_zero, List.set_cons_succ, i64_w, i32_w]
  rfl
 refine last_ (i := 14) (N := none) #[true, true, true, true, true, true, true, true, true, true, true, true, true, true, true] rfl rfl (one_of HT_.out (by kernel_rfl)) (by decide) (fun K hK => ?_)
 have hs14 : w9.cell? ⟨gb329, 5, none⟩ = some (.int .i64 a0_5) := (blk_cell BK329.out 5).trans rfl
 have hfs14 := blk_frozen BK329.out 5
 have hns14_1 := NB330_329.out
 have hms14_1 := NB329_330.out
 have hs15 : w9.cell? ⟨gb329, 6, none⟩ = some (.float .f64 a0_6) := (blk_cell BK329.out 6).trans rfl
 have hfs15 := blk_frozen BK329.out 6
 have hns15_1 := NB330_329.out
 have hms15_1 := NB329_330.out
 have hs16 : w9.cell? ⟨gb329, 7, none⟩ = some (.string a0_7) := (blk_cell BK329.out 7).trans rfl
 have hfs16 := blk_frozen BK329.out 7
 have hns16_1 := NB330_329.out
 have hms16_1 := NB329_330.out
 with_reducible refine skip_ (w1 := ?_) (by with_unfolding_all rfl) (by with_unfolding_all rfl) ?_ ?_
 rotate_left
 ·go_simp
  rfl
 refine hK.out _ _ ?_
 clear hK K
 refine done_ (done_of HT_.out (by kernel_rfl)) ?_
 have hnb17 := NB329_330.out
 have hnc17 := NB330_329.out
 obtain ⟨hcz18_0, hcz18_1, hcz18_2, hcz18_3, hcz18_4, hcz18_5, hcz18_6, hcz18_7, hfz18_0, hfz18_1, hfz18_2, hfz18_3, hfz18_4, hfz18_5, hfz18_6, hfz18_7⟩ := bf8 (w := w9) BK329
 obtain ⟨hcz19_0, hcz19_1, hcz19_2, hcz19_3, hcz19_4, hcz19_5, hcz19_6, hcz19_7, hfz19_0, hfz19_1, hfz19_2, hfz19_3, hfz19_4, hfz19_5, hfz19_6, hfz19_7⟩ := bf8 (w := w9) BK330
 try go_wp2
 refine bodyPost_ret (results_cell_row rfl _ _ gb330 26 #[.string t331, .int .i64 t332, .float .f64 t333, .string t334, .int .i64 a0_4, .int .i64 t335, .float .f64 t336, .string t337] (0, 0) _ rfl (bR BK330) Try.underlying26 rfl (by kernel_rfl)) rfl ?_
 exact ⟨by first | rfl | (simp [errW_none, errW_some] <;> rfl) | (simp [*, errW_none, errW_some] <;> rfl), by repeat (first | (with_reducible first | exact HB.out | apply below_alloc | apply pw_below_drewN | apply below_drew1 | refine below_set ?_ GE329.out | refine below_set ?_ GE330.out) | exact HB.out)⟩

/-! ### engrosslaw10_Of: function 14 -/
def engrosslaw10_Of.f (a0_0 : ByteArray) (a0_1 : Int) (a0_2 : Nat) (a0_3 : ByteArray) (a0_4 : Int) (a0_5 : Int) (a0_6 : Nat) (a0_7 : ByteArray) : Option (ByteArray × Int × Nat × ByteArray × Int × Int × Nat × ByteArray) := some (a0_0, a0_1, a0_2, a0_3, a0_4, a0_5, a0_6, a0_7)
set_option maxHeartbeats 8000000 in
set_option maxRecDepth 100000 in
theorem engrosslaw10_Of.calls (a0_0 : ByteArray) (a0_1 : Int) (a0_2 : Nat) (a0_3 : ByteArray) (a0_4 : Int) (a0_5 : Int) (a0_6 : Nat) (a0_7 : ByteArray) (r1 : ByteArray) (r2 : Int) (r3 : Nat) (r4 : ByteArray) (r5 : Int) (r6 : Int) (r7 : Nat) (r8 : ByteArray) (w : World) (h : engrosslaw10_Of.f a0_0 a0_1 a0_2 a0_3 a0_4 a0_5 a0_6 a0_7 = some (r1, r2, r3, r4, r5, r6, r7, r8)) :
  Calls Try.prog 14 #[.agg #[.string a0_0, .int .i64 a0_1, .float .f64 a0_2, .string a0_3, .int .i64 a0_4, .int .i64 a0_5, .float .f64 a0_6, .string a0_7]] w fun e w' => e = .returned (.agg #[.string r1, .int .i64 r2, .float .f64 r3, .string r4, .int .i64 r5, .int .i64 r6, .float .f64 r7, .string r8]) ∧ Below w.heap.size w w' := by
 have hu26 := Try.underlying26
 have hu31 := Try.underlying31
 have hu24 := Try.underlying24
 have HB := Aside0.mk (Below.refl w.heap.size w)
 have H : (some (a0_0, a0_1, a0_2, a0_3, a0_4, a0_5, a0_6, a0_7)) = some (r1, r2, r3, r4, r5, r6, r7, r8) := h
 clear h
 simp only [Option.some.injEq, Prod.mk.injEq] at H
 obtain ⟨rfl, rfl, rfl, rfl, rfl, rfl, rfl, rfl⟩ := H
 go_enter Try.func14, Try.ntmps14
 go_wp2_with (first | ((with_reducible refine gate_dst (N := 1) rfl ?_); refine box_event ?hg (N := 1) ?hd (cs := #[.string a0_0, .int .i64 a0_1, .float .f64 a0_2, .string a0_3, .int .i64 a0_4, .int .i64 a0_5, .float .f64 a0_6, .string a0_7]) (t := 26) ?hr ?_; (case hd => rfl); (case hg => rfl); (case hr => first | (go_simp; done) | (go_simp; rfl)); intro gb338 hg w2 hbox hb; have BK338 := Aside0.mk (hbox); have GW338 := bZ HB hg; have GE338 := bZ HB hg; replace HB := bW HB hb; clear hb hbox hg) | ((with_reducible refine gate_dst (N := 2) rfl ?_); refine box_event ?hg (N := 2) ?hd (cs := #[.string (⟨#[]⟩ : ByteArray), .int .i64 0, .float .f64 0, .string (⟨#[]⟩ : ByteArray), .int .i64 0, .int .i64 0, .float .f64 0, .string (⟨#[]⟩ : ByteArray)]) (t := 31) ?hr ?_; (case hd => rfl); (case hg => rfl); (case hr => first | (go_simp; done) | (go_simp; rfl)); intro gb339 hg w3 hbox hb; have BK339 := Aside0.mk (hbox); have GW339 := bZ HB hg; have GE339 := bZ HB hg; have NB338_339 := bL BK338 hg; have NB339_338 := bG BK338 hg; replace BK338 := bB BK338 hb; replace HB := bW HB hb; clear hb hbox hg; have hnb4 := NB338_339.out; have hnc4 := NB339_338.out; obtain ⟨hcz5_0, hcz5_1, hcz5_2, hcz5_3, hcz5_4, hcz5_5, hcz5_6, hcz5_7, hfz5_0, hfz5_1, hfz5_2, hfz5_3, hfz5_4, hfz5_5, hfz5_6, hfz5_7⟩ := bf8 (w := w3) BK338; obtain ⟨hcz6_0, hcz6_1, hcz6_2, hcz6_3, hcz6_4, hcz6_5, hcz6_6, hcz6_7, hfz6_0, hfz6_1, hfz6_2, hfz6_3, hfz6_4, hfz6_5, hfz6_6, hfz6_7⟩ := bf8 (w := w3) BK339))
 refine bodyPost_ret (results_cell_row rfl _ _ gb339 31 #[.string a0_0, .int .i64 a0_1, .float .f64 a0_2, .string a0_3, .int .i64 a0_4, .int .i64 a0_5, .float .f64 a0_6, .string a0_7] (0, 0) _ rfl (bR BK339) Try.underlying31 rfl (by kernel_rfl)) rfl ?_
 exact ⟨by first | rfl | (simp [errW_none, errW_some] <;> rfl) | (simp [*, errW_none, errW_some] <;> rfl), by repeat (first | (with_reducible first | exact HB.out | apply below_alloc | apply pw_below_drewN | apply below_drew1 | refine below_set ?_ GE338.out | refine below_set ?_ GE339.out) | exact HB.out)⟩

/-! ### engrossref1_bits: function 41 -/
def engrossref1_bits.f (a0 : Nat) : Option (Int) := some ((a0 : Nat) : Int)
set_option maxHeartbeats 8000000 in
set_option maxRecDepth 100000 in
theorem engrossref1_bits.calls (a0 : Nat) (r : Int) (w : World) (h : engrossref1_bits.f a0 = some r) :
  Calls Try.prog 41 #[.float .f64 a0] w fun e w' => e = .returned (.int .u64 r) ∧ Drawn0 w w' := by
 have H : (some ((a0 : Nat) : Int)) = some r := h
 clear h
 obtain rfl := Option.some.inj H
 go_enter Try.func41, Try.ntmps41
 go_wp2
 go_ret
 exact ⟨by first | rfl | (simp; done) | (simp [*]; done), by repeat (first | exact Drawn0.refl _ | apply Drawn0.step)⟩

/-! ### engrossref1_Bits: function 42 -/
def engrossref1_Bits.f (a0 : Nat) (a1 : Nat) : Option (Bool) := (engrossref1_bits.f a0).bind fun t340 => ((engrossref1_bits.f a1).bind fun t341 => (some (t340 == t341)))
set_option maxHeartbeats 8000000 in
set_option maxRecDepth 100000 in
theorem engrossref1_Bits.calls (a0 : Nat) (a1 : Nat) (r : Bool) (w : World) (h : engrossref1_Bits.f a0 a1 = some r) :
  Calls Try.prog 42 #[.float .f64 a0, .float .f64 a1] w fun e w' => e = .returned (.bool r) ∧ Drawn0 w w' := by
 have H : ((engrossref1_bits.f a0).bind fun t340 => ((engrossref1_bits.f a1).bind fun t341 => (some (t340 == t341)))) = some r := h
 clear h
 replace H := Option.bind_eq_some_iff.mp H
 obtain ⟨t340, A30, H⟩ := H
 replace H : ((engrossref1_bits.f a1).bind fun t341 => (some (t340 == t341))) = some r := H
 have A3 := Aside0.mk A30
 clear A30
 replace H := Option.bind_eq_some_iff.mp H
 obtain ⟨t341, A40, H⟩ := H
 replace H : (some (t340 == t341)) = some r := H
 have A4 := Aside0.mk A40
 clear A40
 obtain rfl := Option.some.inj H
 go_enter Try.func42, Try.ntmps42
 go_wp2_with (first | ((with_reducible refine gate_callee (f := 41) rfl ?_); refine goesL_ (some 6) rfl rfl Try.func41 (by kernel_rfl) rfl #[.float .f64 a0] rfl (by (try simp only [List.map_toArray, List.map_cons, List.map_nil]); first | done | rfl | (simp only [List.length_drop, List.length_take]; rfl)) ?_; (with_reducible refine (engrossref1_bits.calls a0 t340 _ A3.out).mono ?_); rintro e w' ⟨rfl, ⟨nd, rfl⟩⟩; refine ⟨_, rfl, ?_⟩) | ((with_reducible refine gate_callee (f := 41) rfl ?_); refine goesL_ (some 8) rfl rfl Try.func41 (by kernel_rfl) rfl #[.float .f64 a1] rfl (by (try simp only [List.map_toArray, List.map_cons, List.map_nil]); first | done | rfl | (simp only [List.length_drop, List.length_take]; rfl)) ?_; (with_reducible refine (engrossref1_bits.calls a1 t341 _ A4.out).mono ?_); rintro e w' ⟨rfl, ⟨nd, rfl⟩⟩; refine ⟨_, rfl, ?_⟩))
 go_ret
 exact ⟨by first | rfl | (simp; done) | (simp [*]; done), by repeat (first | exact Drawn0.refl _ | apply Drawn0.step)⟩

/-! ### engrossref1_NaN: function 57 -/
def engrossref1_NaN.f (a0 : Nat) : Option (Bool) := if (Go.bits .and .u64 ((a0 : Nat) : Int) 9218868437227405312) = 9218868437227405312 then (some ((Go.bits .and .u64 ((a0 : Nat) : Int) 4503599627370495) != 0)) else (some false)
set_option maxHeartbeats 8000000 in
set_option maxRecDepth 100000 in
theorem engrossref1_NaN.calls (a0 : Nat) (r : Bool) (w : World) (h : engrossref1_NaN.f a0 = some r) :
  Calls Try.prog 57 #[.float .f64 a0] w fun e w' => e = .returned (.bool r) ∧ Drawn0 w w' := by
 have H : (if (Go.bits .and .u64 ((a0 : Nat) : Int) 9218868437227405312) = 9218868437227405312 then (some ((Go.bits .and .u64 ((a0 : Nat) : Int) 4503599627370495) != 0)) else (some false)) = some r := h
 clear h
 by_cases c2 : (Go.bits .and .u64 ((a0 : Nat) : Int) 9218868437227405312) = 9218868437227405312
 ·rw [if_pos c2] at H
  have c2b0 : ((Go.bits .and .u64 ((a0 : Nat) : Int) 9218868437227405312) == 9218868437227405312) = true := beq_iff_eq.mpr c2
  have c2b1 : ((Go.bits .and .u64 ((a0 : Nat) : Int) 9218868437227405312) != 9218868437227405312) = false := bne_eq_false_iff_eq.mpr c2
  clear c2
  obtain rfl := Option.some.inj H
  go_enter Try.func57, Try.ntmps57
  go_wp2
  go_ret
  exact ⟨by first | rfl | (simp; done) | (simp [*]; done), by repeat (first | exact Drawn0.refl _ | apply Drawn0.step)⟩
 ·rw [if_neg c2] at H
  have c2b0 : ((Go.bits .and .u64 ((a0 : Nat) : Int) 9218868437227405312) == 9218868437227405312) = false := beq_eq_false_iff_ne.mpr c2
  have c2b1 : ((Go.bits .and .u64 ((a0 : Nat) : Int) 9218868437227405312) != 9218868437227405312) = true := bne_iff_ne.mpr c2
  obtain rfl := Option.some.inj H
  go_enter Try.func57, Try.ntmps57
  go_wp2
  go_ret
  exact ⟨by first | rfl | (simp; done) | (simp [*]; done), by repeat (first | exact Drawn0.refl _ | apply Drawn0.step)⟩

/-! ### engrossref1_Clean: function 43 -/
def engrossref1_Clean.f (a0 : Nat) : Option (Nat) := (engrossref1_NaN.f a0).bind fun t342 => (if t342 = true then (some 9221120237041090560) else (some a0))
set_option maxHeartbeats 8000000 in
set_option maxRecDepth 100000 in
theorem engrossref1_Clean.calls (a0 : Nat) (r : Nat) (w : World) (h : engrossref1_Clean.f a0 = some r) :
  Calls Try.prog 43 #[.float .f64 a0] w fun e w' => e = .returned (.float .f64 r) ∧ Drawn0 w w' := by
 have H : ((engrossref1_NaN.f a0).bind fun t342 => (if t342 = true then (some 9221120237041090560) else (some a0))) = some r := h
 clear h
 replace H := Option.bind_eq_some_iff.mp H
 obtain ⟨t342, A20, H⟩ := H
 replace H : (if t342 = true then (some 9221120237041090560) else (some a0)) = some r := H
 have A2 := Aside0.mk A20
 clear A20
 by_cases c3 : t342 = true
 ·subst c3
  have H1 : (some 9221120237041090560) = some r := by rw [if_pos rfl] at H; exact H
  clear H
  have H := H1
  clear H1
  obtain rfl := Option.some.inj H
  go_enter Try.func43, Try.ntmps43
  go_wp2_with (first | ((with_reducible refine gate_callee (f := 57) rfl ?_); refine goesL_ (some 4) rfl rfl Try.func57 (by kernel_rfl) rfl #[.float .f64 a0] rfl (by (try simp only [List.map_toArray, List.map_cons, List.map_nil]); first | done | rfl | (simp only [List.length_drop, List.length_take]; rfl)) ?_; (with_reducible refine (engrossref1_NaN.calls a0 true _ A2.out).mono ?_); rintro e w' ⟨rfl, ⟨nd, rfl⟩⟩; refine ⟨_, rfl, ?_⟩))
  go_ret
  exact ⟨by first | rfl | (simp; done) | (simp [*]; done), by repeat (first | exact Drawn0.refl _ | apply Drawn0.step)⟩
 ·replace c3 := Bool.eq_false_iff.mpr c3
  subst c3
  have H1 : (some a0) = some r := by rw [if_neg (show ¬ (false = true) by decide)] at H; exact H
  clear H
  have H := H1
  clear H1
  obtain rfl := Option.some.inj H
  go_enter Try.func43, Try.ntmps43
  go_wp2_with (first | ((with_reducible refine gate_callee (f := 57) rfl ?_); refine goesL_ (some 4) rfl rfl Try.func57 (by kernel_rfl) rfl #[.float .f64 a0] rfl (by (try simp only [List.map_toArray, List.map_cons, List.map_nil]); first | done | rfl | (simp only [List.length_drop, List.length_take]; rfl)) ?_; (with_reducible refine (engrossref1_NaN.calls a0 false _ A2.out).mono ?_); rintro e w' ⟨rfl, ⟨nd, rfl⟩⟩; refine ⟨_, rfl, ?_⟩))
  go_ret
  exact ⟨by first | rfl | (simp; done) | (simp [*]; done), by repeat (first | exact Drawn0.refl _ | apply Drawn0.step)⟩

/-! ### engrossref1_MayVal: function 26 -/
def engrossref1_MayVal.f (a0_0 : Int) (a0_1 : Nat) (a0_2 : ByteArray) : Option (Bool) := if a0_0 = 0 then ((engrossref1_bits.f a0_1).bind fun t344 => (if t344 = 0 then (some (a0_2.toList == ([] : List UInt8))) else (some false))) else (if a0_0 = 1 then (if a0_2.toList = ([] : List UInt8) then ((engrossref1_Clean.f a0_1).bind fun t345 => ((engrossref1_Bits.f t345 a0_1).bind fun t346 => (some t346))) else (some false)) else (if a0_0 = 2 then ((engrossref1_bits.f a0_1).bind fun t347 => (if t347 = 0 then (some (decide ((a0_2.size : Int) ≤ 20))) else (some false))) else (some false)))
set_option maxHeartbeats 8000000 in
set_option maxRecDepth 100000 in
theorem engrossref1_MayVal.calls (a0_0 : Int) (a0_1 : Nat) (a0_2 : ByteArray) (r : Bool) (w : World) (h : engrossref1_MayVal.f a0_0 a0_1 a0_2 = some r) :
  Calls Try.prog 26 #[.agg #[.int .i64 a0_0, .float .f64 a0_1, .string a0_2]] w fun e w' => e = .returned (.bool r) ∧ Below w.heap.size w w' := by
 have hu24 := Try.underlying24
 have HB := Aside0.mk (Below.refl w.heap.size w)
 have H : (if a0_0 = 0 then ((engrossref1_bits.f a0_1).bind fun t344 => (if t344 = 0 then (some (a0_2.toList == ([] : List UInt8))) else (some false))) else (if a0_0 = 1 then (if a0_2.toList = ([] : List UInt8) then ((engrossref1_Clean.f a0_1).bind fun t345 => ((engrossref1_Bits.f t345 a0_1).bind fun t346 => (some t346))) else (some false)) else (if a0_0 = 2 then ((engrossref1_bits.f a0_1).bind fun t347 => (if t347 = 0 then (some (decide ((a0_2.size : Int) ≤ 20))) else (some false))) else (some false)))) = some r := h
 clear h
 by_cases c2 : a0_0 = 0
 ·rw [if_pos c2] at H
  have c2b0 : (a0_0 == 0) = true := beq_iff_eq.mpr c2
  have c2b1 : (a0_0 != 0) = false := bne_eq_false_iff_eq.mpr c2
  clear c2
  replace H := Option.bind_eq_some_iff.mp H
  obtain ⟨t344, A30, H⟩ := H
  replace H : (if t344 = 0 then (some (a0_2.toList == ([] : List UInt8))) else (some false)) = some r := H
  have A3 := Aside0.mk A30
  clear A30
  by_cases c4 : t344 = 0
  ·rw [if_pos c4] at H
   have c4b0 : (t344 == 0) = true := beq_iff_eq.mpr c4
   have c4b1 : (t344 != 0) = false := bne_eq_false_iff_eq.mpr c4
   clear c4
   obtain rfl := Option.some.inj H
   go_enter Try.func26, Try.ntmps26
   go_wp2_with (first | ((with_reducible refine gate_dst (N := 1) rfl ?_); (try (refine gate_guard (by rfl) ?_; dsimp only)); refine box_event ?hg (N := 1) ?hd (cs := #[.int .i64 a0_0, .float .f64 a0_1, .string a0_2]) (t := 24) ?hr ?_; (case hd => rfl); (case hg => rfl); (case hr => first | (go_simp; done) | (go_simp; rfl)); intro gb343 hg w5 hbox hb; have BK343 := Aside0.mk (hbox); have GW343 := bZ HB hg; have GE343 := bZ HB hg; replace HB := bW HB hb; clear hb hbox hg; obtain ⟨hcz6_0, hcz6_1, hcz6_2, hfz6_0, hfz6_1, hfz6_2⟩ := bf3 (w := w5) BK343) | (go_at_call 41; (with_reducible refine (engrossref1_bits.calls a0_1 t344 _ A3.out).mono ?_); rintro e w' ⟨rfl, ⟨nd, rfl⟩⟩; (try first | exact ⟨rfl, _, World.drewN_drewN _ _ _⟩ | exact ⟨rfl, _, Eq.trans (World.drewN_drewN _ _ _) (congrArg (World.drewN _) (Nat.add_assoc _ _ _))⟩)))
   repeat (go_quiet (first | ((with_reducible refine gate_dst (N := 1) rfl ?_); (try (refine gate_guard (by rfl) ?_; dsimp only)); refine box_event ?hg (N := 1) ?hd (cs := #[.int .i64 a0_0, .float .f64 a0_1, .string a0_2]) (t := 24) ?hr ?_; (case hd => rfl); (case hg => rfl); (case hr => first | (go_simp; done) | (go_simp; rfl)); intro gb343 hg w5 hbox hb; have BK343 := Aside0.mk (hbox); have GW343 := bZ HB hg; have GE343 := bZ HB hg; replace HB := bW HB hb; clear hb hbox hg; obtain ⟨hcz6_0, hcz6_1, hcz6_2, hfz6_0, hfz6_1, hfz6_2⟩ := bf3 (w := w5) BK343) | (go_at_call 41; (with_reducible refine (engrossref1_bits.calls a0_1 t344 _ A3.out).mono ?_); rintro e w' ⟨rfl, ⟨nd, rfl⟩⟩; (try first | exact ⟨rfl, _, World.drewN_drewN _ _ _⟩ | exact ⟨rfl, _, Eq.trans (World.drewN_drewN _ _ _) (congrArg (World.drewN _) (Nat.add_assoc _ _ _))⟩))); try go_wp2_with (first | ((with_reducible refine gate_dst (N := 1) rfl ?_); (try (refine gate_guard (by rfl) ?_; dsimp only)); refine box_event ?hg (N := 1) ?hd (cs := #[.int .i64 a0_0, .float .f64 a0_1, .string a0_2]) (t := 24) ?hr ?_; (case hd => rfl); (case hg => rfl); (case hr => first | (go_simp; done) | (go_simp; rfl)); intro gb343 hg w5 hbox hb; have BK343 := Aside0.mk (hbox); have GW343 := bZ HB hg; have GE343 := bZ HB hg; replace HB := bW HB hb; clear hb hbox hg; obtain ⟨hcz6_0, hcz6_1, hcz6_2, hfz6_0, hfz6_1, hfz6_2⟩ := bf3 (w := w5) BK343) | (go_at_call 41; (with_reducible refine (engrossref1_bits.calls a0_1 t344 _ A3.out).mono ?_); rintro e w' ⟨rfl, ⟨nd, rfl⟩⟩; (try first | exact ⟨rfl, _, World.drewN_drewN _ _ _⟩ | exact ⟨rfl, _, Eq.trans (World.drewN_drewN _ _ _) (congrArg (World.drewN _) (Nat.add_assoc _ _ _))⟩))))
   go_ret
   exact ⟨by first | rfl | (simp [errW_none, errW_some] <;> rfl) | (simp [*, errW_none, errW_some] <;> rfl), by repeat (first | (with_reducible first | exact HB.out | apply below_alloc | apply pw_below_drewN | apply below_drew1 | refine below_set ?_ GE343.out) | exact HB.out)⟩
  ·rw [if_neg c4] at H
   have c4b0 : (t344 == 0) = false := beq_eq_false_iff_ne.mpr c4
   have c4b1 : (t344 != 0) = true := bne_iff_ne.mpr c4
   obtain rfl := Option.some.inj H
   go_enter Try.func26, Try.ntmps26
   go_wp2_with (first | ((with_reducible refine gate_dst (N := 1) rfl ?_); (try (refine gate_guard (by rfl) ?_; dsimp only)); refine box_event ?hg (N := 1) ?hd (cs := #[.int .i64 a0_0, .float .f64 a0_1, .string a0_2]) (t := 24) ?hr ?_; (case hd => rfl); (case hg => rfl); (case hr => first | (go_simp; done) | (go_simp; rfl)); intro gb343 hg w7 hbox hb; have BK343 := Aside0.mk (hbox); have GW343 := bZ HB hg; have GE343 := bZ HB hg; replace HB := bW HB hb; clear hb hbox hg; obtain ⟨hcz8_0, hcz8_1, hcz8_2, hfz8_0, hfz8_1, hfz8_2⟩ := bf3 (w := w7) BK343) | (go_at_call 41; (with_reducible refine (engrossref1_bits.calls a0_1 t344 _ A3.out).mono ?_); rintro e w' ⟨rfl, ⟨nd, rfl⟩⟩; (try first | exact ⟨rfl, _, World.drewN_drewN _ _ _⟩ | exact ⟨rfl, _, Eq.trans (World.drewN_drewN _ _ _) (congrArg (World.drewN _) (Nat.add_assoc _ _ _))⟩)))
   repeat (go_quiet (first | ((with_reducible refine gate_dst (N := 1) rfl ?_); (try (refine gate_guard (by rfl) ?_; dsimp only)); refine box_event ?hg (N := 1) ?hd (cs := #[.int .i64 a0_0, .float .f64 a0_1, .string a0_2]) (t := 24) ?hr ?_; (case hd => rfl); (case hg => rfl); (case hr => first | (go_simp; done) | (go_simp; rfl)); intro gb343 hg w7 hbox hb; have BK343 := Aside0.mk (hbox); have GW343 := bZ HB hg; have GE343 := bZ HB hg; replace HB := bW HB hb; clear hb hbox hg; obtain ⟨hcz8_0, hcz8_1, hcz8_2, hfz8_0, hfz8_1, hfz8_2⟩ := bf3 (w := w7) BK343) | (go_at_call 41; (with_reducible refine (engrossref1_bits.calls a0_1 t344 _ A3.out).mono ?_); rintro e w' ⟨rfl, ⟨nd, rfl⟩⟩; (try first | exact ⟨rfl, _, World.drewN_drewN _ _ _⟩ | exact ⟨rfl, _, Eq.trans (World.drewN_drewN _ _ _) (congrArg (World.drewN _) (Nat.add_assoc _ _ _))⟩))); try go_wp2_with (first | ((with_reducible refine gate_dst (N := 1) rfl ?_); (try (refine gate_guard (by rfl) ?_; dsimp only)); refine box_event ?hg (N := 1) ?hd (cs := #[.int .i64 a0_0, .float .f64 a0_1, .string a0_2]) (t := 24) ?hr ?_; (case hd => rfl); (case hg => rfl); (case hr => first | (go_simp; done) | (go_simp; rfl)); intro gb343 hg w7 hbox hb; have BK343 := Aside0.mk (hbox); have GW343 := bZ HB hg; have GE343 := bZ HB hg; replace HB := bW HB hb; clear hb hbox hg; obtain ⟨hcz8_0, hcz8_1, hcz8_2, hfz8_0, hfz8_1, hfz8_2⟩ := bf3 (w := w7) BK343) | (go_at_call 41; (with_reducible refine (engrossref1_bits.calls a0_1 t344 _ A3.out).mono ?_); rintro e w' ⟨rfl, ⟨nd, rfl⟩⟩; (try first | exact ⟨rfl, _, World.drewN_drewN _ _ _⟩ | exact ⟨rfl, _, Eq.trans (World.drewN_drewN _ _ _) (congrArg (World.drewN _) (Nat.add_assoc _ _ _))⟩))))
   go_ret
   exact ⟨by first | rfl | (simp [errW_none, errW_some] <;> rfl) | (simp [*, errW_none, errW_some] <;> rfl), by repeat (first | (with_reducible first | exact HB.out | apply below_alloc | apply pw_below_drewN | apply below_drew1 | refine below_set ?_ GE343.out) | exact HB.out)⟩
 ·rw [if_neg c2] at H
  have c2b0 : (a0_0 == 0) = false := beq_eq_false_iff_ne.mpr c2
  have c2b1 : (a0_0 != 0) = true := bne_iff_ne.mpr c2
  by_cases c9 : a0_0 = 1
  ·rw [if_pos c9] at H
   have c9b0 : (a0_0 == 1) = true := beq_iff_eq.mpr c9
   have c9b1 : (a0_0 != 1) = false := bne_eq_false_iff_eq.mpr c9
   clear c9
   by_cases c10 : a0_2.toList = ([] : List UInt8)
   ·rw [if_pos c10] at H
    have c10b0 : (a0_2.toList == ([] : List UInt8)) = true := beq_iff_eq.mpr c10
    have c10b1 : (a0_2.toList != ([] : List UInt8)) = false := bne_eq_false_iff_eq.mpr c10
    clear c10
    replace H := Option.bind_eq_some_iff.mp H
    obtain ⟨t345, A110, H⟩ := H
    replace H : ((engrossref1_Bits.f t345 a0_1).bind fun t346 => (some t346)) = some r := H
    have A11 := Aside0.mk A110
    clear A110
    replace H := Option.bind_eq_some_iff.mp H
    obtain ⟨t346, A120, H⟩ := H
    replace H : (some t346) = some r := H
    have A12 := Aside0.mk A120
    clear A120
    obtain rfl := Option.some.inj H
    go_enter Try.func26, Try.ntmps26
    go_wp2_with (first | ((with_reducible refine gate_dst (N := 1) rfl ?_); (try (refine gate_guard (by rfl) ?_; dsimp only)); refine box_event ?hg (N := 1) ?hd (cs := #[.int .i64 a0_0, .float .f64 a0_1, .string a0_2]) (t := 24) ?hr ?_; (case hd => rfl); (case hg => rfl); (case hr => first | (go_simp; done) | (go_simp; rfl)); intro gb343 hg w13 hbox hb; have BK343 := Aside0.mk (hbox); have GW343 := bZ HB hg; have GE343 := bZ HB hg; replace HB := bW HB hb; clear hb hbox hg; obtain ⟨hcz14_0, hcz14_1, hcz14_2, hfz14_0, hfz14_1, hfz14_2⟩ := bf3 (w := w13) BK343) | (go_at_call 43; (with_reducible refine (engrossref1_Clean.calls a0_1 t345 _ A11.out).mono ?_); rintro e w' ⟨rfl, ⟨nd, rfl⟩⟩; (try first | exact ⟨rfl, _, World.drewN_drewN _ _ _⟩ | exact ⟨rfl, _, Eq.trans (World.drewN_drewN _ _ _) (congrArg (World.drewN _) (Nat.add_assoc _ _ _))⟩)) | (go_at_call 42; (with_reducible refine (engrossref1_Bits.calls t345 a0_1 t346 _ A12.out).mono ?_); rintro e w' ⟨rfl, ⟨nd, rfl⟩⟩; (try first | exact ⟨rfl, _, World.drewN_drewN _ _ _⟩ | exact ⟨rfl, _, Eq.trans (World.drewN_drewN _ _ _) (congrArg (World.drewN _) (Nat.add_assoc _ _ _))⟩)))
    repeat (go_quiet (first | ((with_reducible refine gate_dst (N := 1) rfl ?_); (try (refine gate_guard (by rfl) ?_; dsimp only)); refine box_event ?hg (N := 1) ?hd (cs := #[.int .i64 a0_0, .float .f64 a0_1, .string a0_2]) (t := 24) ?hr ?_; (case hd => rfl); (case hg => rfl); (case hr => first | (go_simp; done) | (go_simp; rfl)); intro gb343 hg w13 hbox hb; have BK343 := Aside0.mk (hbox); have GW343 := bZ HB hg; have GE343 := bZ HB hg; replace HB := bW HB hb; clear hb hbox hg; obtain ⟨hcz14_0, hcz14_1, hcz14_2, hfz14_0, hfz14_1, hfz14_2⟩ := bf3 (w := w13) BK343) | (go_at_call 43; (with_reducible refine (engrossref1_Clean.calls a0_1 t345 _ A11.out).mono ?_); rintro e w' ⟨rfl, ⟨nd, rfl⟩⟩; (try first | exact ⟨rfl, _, World.drewN_drewN _ _ _⟩ | exact ⟨rfl, _, Eq.trans (World.drewN_drewN _ _ _) (congrArg (World.drewN _) (Nat.add_assoc _ _ _))⟩)) | (go_at_call 42; (with_reducible refine (engrossref1_Bits.calls t345 a0_1 t346 _ A12.out).mono ?_); rintro e w' ⟨rfl, ⟨nd, rfl⟩⟩; (try first | exact ⟨rfl, _, World.drewN_drewN _ _ _⟩ | exact ⟨rfl, _, Eq.trans (World.drewN_drewN _ _ _) (congrArg (World.drewN _) (Nat.add_assoc _ _ _))⟩))); try go_wp2_with (first | ((with_reducible refine gate_dst (N := 1) rfl ?_); (try (refine gate_guard (by rfl) ?_; dsimp only)); refine box_event ?hg (N := 1) ?hd (cs := #[.int .i64 a0_0, .float .f64 a0_1, .string a0_2]) (t := 24) ?hr ?_; (case hd => rfl); (case hg => rfl); (case hr => first | (go_simp; done) | (go_simp; rfl)); intro gb343 hg w13 hbox hb; have BK343 := Aside0.mk (hbox); have GW343 := bZ HB hg; have GE343 := bZ HB hg; replace HB := bW HB hb; clear hb hbox hg; obtain ⟨hcz14_0, hcz14_1, hcz14_2, hfz14_0, hfz14_1, hfz14_2⟩ := bf3 (w := w13) BK343) | (go_at_call 43; (with_reducible refine (engrossref1_Clean.calls a0_1 t345 _ A11.out).mono ?_); rintro e w' ⟨rfl, ⟨nd, rfl⟩⟩; (try first | exact ⟨rfl, _, World.drewN_drewN _ _ _⟩ | exact ⟨rfl, _, Eq.trans (World.drewN_drewN _ _ _) (congrArg (World.drewN _) (Nat.add_assoc _ _ _))⟩)) | (go_at_call 42; (with_reducible refine (engrossref1_Bits.calls t345 a0_1 t346 _ A12.out).mono ?_); rintro e w' ⟨rfl, ⟨nd, rfl⟩⟩; (try first | exact ⟨rfl, _, World.drewN_drewN _ _ _⟩ | exact ⟨rfl, _, Eq.trans (World.drewN_drewN _ _ _) (congrArg (World.drewN _) (Nat.add_assoc _ _ _))⟩))))
    go_ret
    exact ⟨by first | rfl | (simp [errW_none, errW_some] <;> rfl) | (simp [*, errW_none, errW_some] <;> rfl), by repeat (first | (with_reducible first | exact HB.out | apply below_alloc | apply pw_below_drewN | apply below_drew1 | refine below_set ?_ GE343.out) | exact HB.out)⟩
   ·rw [if_neg c10] at H
    have c10b0 : (a0_2.toList == ([] : List UInt8)) = false := beq_eq_false_iff_ne.mpr c10
    have c10b1 : (a0_2.toList != ([] : List UInt8)) = true := bne_iff_ne.mpr c10
    obtain rfl := Option.some.inj H
    go_enter Try.func26, Try.ntmps26
    go_wp2_with (first | ((with_reducible refine gate_dst (N := 1) rfl ?_); (try (refine gate_guard (by rfl) ?_; dsimp only)); refine box_event ?hg (N := 1) ?hd (cs := #[.int .i64 a0_0, .float .f64 a0_1, .string a0_2]) (t := 24) ?hr ?_; (case hd => rfl); (case hg => rfl); (case hr => first | (go_simp; done) | (go_simp; rfl)); intro gb343 hg w15 hbox hb; have BK343 := Aside0.mk (hbox); have GW343 := bZ HB hg; have GE343 := bZ HB hg; replace HB := bW HB hb; clear hb hbox hg; obtain ⟨hcz16_0, hcz16_1, hcz16_2, hfz16_0, hfz16_1, hfz16_2⟩ := bf3 (w := w15) BK343))
    repeat (go_quiet (first | ((with_reducible refine gate_dst (N := 1) rfl ?_); (try (refine gate_guard (by rfl) ?_; dsimp only)); refine box_event ?hg (N := 1) ?hd (cs := #[.int .i64 a0_0, .float .f64 a0_1, .string a0_2]) (t := 24) ?hr ?_; (case hd => rfl); (case hg => rfl); (case hr => first | (go_simp; done) | (go_simp; rfl)); intro gb343 hg w15 hbox hb; have BK343 := Aside0.mk (hbox); have GW343 := bZ HB hg; have GE343 := bZ HB hg; replace HB := bW HB hb; clear hb hbox hg; obtain ⟨hcz16_0, hcz16_1, hcz16_2, hfz16_0, hfz16_1, hfz16_2⟩ := bf3 (w := w15) BK343)); try go_wp2_with (first | ((with_reducible refine gate_dst (N := 1) rfl ?_); (try (refine gate_guard (by rfl) ?_; dsimp only)); refine box_event ?hg (N := 1) ?hd (cs := #[.int .i64 a0_0, .float .f64 a0_1, .string a0_2]) (t := 24) ?hr ?_; (case hd => rfl); (case hg => rfl); (case hr => first | (go_simp; done) | (go_simp; rfl)); intro gb343 hg w15 hbox hb; have BK343 := Aside0.mk (hbox); have GW343 := bZ HB hg; have GE343 := bZ HB hg; replace HB := bW HB hb; clear hb hbox hg; obtain ⟨hcz16_0, hcz16_1, hcz16_2, hfz16_0, hfz16_1, hfz16_2⟩ := bf3 (w := w15) BK343)))
    go_ret
    exact ⟨by first | rfl | (simp [errW_none, errW_some] <;> rfl) | (simp [*, errW_none, errW_some] <;> rfl), by repeat (first | (with_reducible first | exact HB.out | apply below_alloc | apply pw_below_drewN | apply below_drew1 | refine below_set ?_ GE343.out) | exact HB.out)⟩
  ·rw [if_neg c9] at H
   have c9b0 : (a0_0 == 1) = false := beq_eq_false_iff_ne.mpr c9
   have c9b1 : (a0_0 != 1) = true := bne_iff_ne.mpr c9
   by_cases c17 : a0_0 = 2
   ·rw [if_pos c17] at H
    have c17b0 : (a0_0 == 2) = true := beq_iff_eq.mpr c17
    have c17b1 : (a0_0 != 2) = false := bne_eq_false_iff_eq.mpr c17
    clear c17
    replace H := Option.bind_eq_some_iff.mp H
    obtain ⟨t347, A180, H⟩ := H
    replace H : (if t347 = 0 then (some (decide ((a0_2.size : Int) ≤ 20))) else (some false)) = some r := H
    have A18 := Aside0.mk A180
    clear A180
    by_cases c19 : t347 = 0
    ·rw [if_pos c19] at H
     have c19b0 : (t347 == 0) = true := beq_iff_eq.mpr c19
     have c19b1 : (t347 != 0) = false := bne_eq_false_iff_eq.mpr c19
     clear c19
     obtain rfl := Option.some.inj H
     go_enter Try.func26, Try.ntmps26
     go_wp2_with (first | ((with_reducible refine gate_dst (N := 1) rfl ?_); (try (refine gate_guard (by rfl) ?_; dsimp only)); refine box_event ?hg (N := 1) ?hd (cs := #[.int .i64 a0_0, .float .f64 a0_1, .string a0_2]) (t := 24) ?hr ?_; (case hd => rfl); (case hg => rfl); (case hr => first | (go_simp; done) | (go_simp; rfl)); intro gb343 hg w20 hbox hb; have BK343 := Aside0.mk (hbox); have GW343 := bZ HB hg; have GE343 := bZ HB hg; replace HB := bW HB hb; clear hb hbox hg; obtain ⟨hcz21_0, hcz21_1, hcz21_2, hfz21_0, hfz21_1, hfz21_2⟩ := bf3 (w := w20) BK343) | (go_at_call 41; (with_reducible refine (engrossref1_bits.calls a0_1 t347 _ A18.out).mono ?_); rintro e w' ⟨rfl, ⟨nd, rfl⟩⟩; (try first | exact ⟨rfl, _, World.drewN_drewN _ _ _⟩ | exact ⟨rfl, _, Eq.trans (World.drewN_drewN _ _ _) (congrArg (World.drewN _) (Nat.add_assoc _ _ _))⟩)))
     repeat (go_quiet (first | ((with_reducible refine gate_dst (N := 1) rfl ?_); (try (refine gate_guard (by rfl) ?_; dsimp only)); refine box_event ?hg (N := 1) ?hd (cs := #[.int .i64 a0_0, .float .f64 a0_1, .string a0_2]) (t := 24) ?hr ?_; (case hd => rfl); (case hg => rfl); (case hr => first | (go_simp; done) | (go_simp; rfl)); intro gb343 hg w20 hbox hb; have BK343 := Aside0.mk (hbox); have GW343 := bZ HB hg; have GE343 := bZ HB hg; replace HB := bW HB hb; clear hb hbox hg; obtain ⟨hcz21_0, hcz21_1, hcz21_2, hfz21_0, hfz21_1, hfz21_2⟩ := bf3 (w := w20) BK343) | (go_at_call 41; (with_reducible refine (engrossref1_bits.calls a0_1 t347 _ A18.out).mono ?_); rintro e w' ⟨rfl, ⟨nd, rfl⟩⟩; (try first | exact ⟨rfl, _, World.drewN_drewN _ _ _⟩ | exact ⟨rfl, _, Eq.trans (World.drewN_drewN _ _ _) (congrArg (World.drewN _) (Nat.add_assoc _ _ _))⟩))); try go_wp2_with (first | ((with_reducible refine gate_dst (N := 1) rfl ?_); (try (refine gate_guard (by rfl) ?_; dsimp only)); refine box_event ?hg (N := 1) ?hd (cs := #[.int .i64 a0_0, .float .f64 a0_1, .string a0_2]) (t := 24) ?hr ?_; (case hd => rfl); (case hg => rfl); (case hr => first | (go_simp; done) | (go_simp; rfl)); intro gb343 hg w20 hbox hb; have BK343 := Aside0.mk (hbox); have GW343 := bZ HB hg; have GE343 := bZ HB hg; replace HB := bW HB hb; clear hb hbox hg; obtain ⟨hcz21_0, hcz21_1, hcz21_2, hfz21_0, hfz21_1, hfz21_2⟩ := bf3 (w := w20) BK343) | (go_at_call 41; (with_reducible refine (engrossref1_bits.calls a0_1 t347 _ A18.out).mono ?_); rintro e w' ⟨rfl, ⟨nd, rfl⟩⟩; (try first | exact ⟨rfl, _, World.drewN_drewN _ _ _⟩ | exact ⟨rfl, _, Eq.trans (World.drewN_drewN _ _ _) (congrArg (World.drewN _) (Nat.add_assoc _ _ _))⟩))))
     go_ret
     exact ⟨by first | rfl | (simp [errW_none, errW_some] <;> rfl) | (simp [*, errW_none, errW_some] <;> rfl), by repeat (first | (with_reducible first | exact HB.out | apply below_alloc | apply pw_below_drewN | apply below_drew1 | refine below_set ?_ GE343.out) | exact HB.out)⟩
    ·rw [if_neg c19] at H
     have c19b0 : (t347 == 0) = false := beq_eq_false_iff_ne.mpr c19
     have c19b1 : (t347 != 0) = true := bne_iff_ne.mpr c19
     obtain rfl := Option.some.inj H
     go_enter Try.func26, Try.ntmps26
     go_wp2_with (first | ((with_reducible refine gate_dst (N := 1) rfl ?_); (try (refine gate_guard (by rfl) ?_; dsimp only)); refine box_event ?hg (N := 1) ?hd (cs := #[.int .i64 a0_0, .float .f64 a0_1, .string a0_2]) (t := 24) ?hr ?_; (case hd => rfl); (case hg => rfl); (case hr => first | (go_simp; done) | (go_simp; rfl)); intro gb343 hg w22 hbox hb; have BK343 := Aside0.mk (hbox); have GW343 := bZ HB hg; have GE343 := bZ HB hg; replace HB := bW HB hb; clear hb hbox hg; obtain ⟨hcz23_0, hcz23_1, hcz23_2, hfz23_0, hfz23_1, hfz23_2⟩ := bf3 (w := w22) BK343) | (go_at_call 41; (with_reducible refine (engrossref1_bits.calls a0_1 t347 _ A18.out).mono ?_); rintro e w' ⟨rfl, ⟨nd, rfl⟩⟩; (try first | exact ⟨rfl, _, World.drewN_drewN _ _ _⟩ | exact ⟨rfl, _, Eq.trans (World.drewN_drewN _ _ _) (congrArg (World.drewN _) (Nat.add_assoc _ _ _))⟩)))
     repeat (go_quiet (first | ((with_reducible refine gate_dst (N := 1) rfl ?_); (try (refine gate_guard (by rfl) ?_; dsimp only)); refine box_event ?hg (N := 1) ?hd (cs := #[.int .i64 a0_0, .float .f64 a0_1, .string a0_2]) (t := 24) ?hr ?_; (case hd => rfl); (case hg => rfl); (case hr => first | (go_simp; done) | (go_simp; rfl)); intro gb343 hg w22 hbox hb; have BK343 := Aside0.mk (hbox); have GW343 := bZ HB hg; have GE343 := bZ HB hg; replace HB := bW HB hb; clear hb hbox hg; obtain ⟨hcz23_0, hcz23_1, hcz23_2, hfz23_0, hfz23_1, hfz23_2⟩ := bf3 (w := w22) BK343) | (go_at_call 41; (with_reducible refine (engrossref1_bits.calls a0_1 t347 _ A18.out).mono ?_); rintro e w' ⟨rfl, ⟨nd, rfl⟩⟩; (try first | exact ⟨rfl, _, World.drewN_drewN _ _ _⟩ | exact ⟨rfl, _, Eq.trans (World.drewN_drewN _ _ _) (congrArg (World.drewN _) (Nat.add_assoc _ _ _))⟩))); try go_wp2_with (first | ((with_reducible refine gate_dst (N := 1) rfl ?_); (try (refine gate_guard (by rfl) ?_; dsimp only)); refine box_event ?hg (N := 1) ?hd (cs := #[.int .i64 a0_0, .float .f64 a0_1, .string a0_2]) (t := 24) ?hr ?_; (case hd => rfl); (case hg => rfl); (case hr => first | (go_simp; done) | (go_simp; rfl)); intro gb343 hg w22 hbox hb; have BK343 := Aside0.mk (hbox); have GW343 := bZ HB hg; have GE343 := bZ HB hg; replace HB := bW HB hb; clear hb hbox hg; obtain ⟨hcz23_0, hcz23_1, hcz23_2, hfz23_0, hfz23_1, hfz23_2⟩ := bf3 (w := w22) BK343) | (go_at_call 41; (with_reducible refine (engrossref1_bits.calls a0_1 t347 _ A18.out).mono ?_); rintro e w' ⟨rfl, ⟨nd, rfl⟩⟩; (try first | exact ⟨rfl, _, World.drewN_drewN _ _ _⟩ | exact ⟨rfl, _, Eq.trans (World.drewN_drewN _ _ _) (congrArg (World.drewN _) (Nat.add_assoc _ _ _))⟩))))
     go_ret
     exact ⟨by first | rfl | (simp [errW_none, errW_some] <;> rfl) | (simp [*, errW_none, errW_some] <;> rfl), by repeat (first | (with_reducible first | exact HB.out | apply below_alloc | apply pw_below_drewN | apply below_drew1 | refine below_set ?_ GE343.out) | exact HB.out)⟩
   ·rw [if_neg c17] at H
    have c17b0 : (a0_0 == 2) = false := beq_eq_false_iff_ne.mpr c17
    have c17b1 : (a0_0 != 2) = true := bne_iff_ne.mpr c17
    obtain rfl := Option.some.inj H
    go_enter Try.func26, Try.ntmps26
    go_wp2_with (first | ((with_reducible refine gate_dst (N := 1) rfl ?_); (try (refine gate_guard (by rfl) ?_; dsimp only)); refine box_event ?hg (N := 1) ?hd (cs := #[.int .i64 a0_0, .float .f64 a0_1, .string a0_2]) (t := 24) ?hr ?_; (case hd => rfl); (case hg => rfl); (case hr => first | (go_simp; done) | (go_simp; rfl)); intro gb343 hg w24 hbox hb; have BK343 := Aside0.mk (hbox); have GW343 := bZ HB hg; have GE343 := bZ HB hg; replace HB := bW HB hb; clear hb hbox hg; obtain ⟨hcz25_0, hcz25_1, hcz25_2, hfz25_0, hfz25_1, hfz25_2⟩ := bf3 (w := w24) BK343))
    repeat (go_quiet (first | ((with_reducible refine gate_dst (N := 1) rfl ?_); (try (refine gate_guard (by rfl) ?_; dsimp only)); refine box_event ?hg (N := 1) ?hd (cs := #[.int .i64 a0_0, .float .f64 a0_1, .string a0_2]) (t := 24) ?hr ?_; (case hd => rfl); (case hg => rfl); (case hr => first | (go_simp; done) | (go_simp; rfl)); intro gb343 hg w24 hbox hb; have BK343 := Aside0.mk (hbox); have GW343 := bZ HB hg; have GE343 := bZ HB hg; replace HB := bW HB hb; clear hb hbox hg; obtain ⟨hcz25_0, hcz25_1, hcz25_2, hfz25_0, hfz25_1, hfz25_2⟩ := bf3 (w := w24) BK343)); try go_wp2_with (first | ((with_reducible refine gate_dst (N := 1) rfl ?_); (try (refine gate_guard (by rfl) ?_; dsimp only)); refine box_event ?hg (N := 1) ?hd (cs := #[.int .i64 a0_0, .float .f64 a0_1, .string a0_2]) (t := 24) ?hr ?_; (case hd => rfl); (case hg => rfl); (case hr => first | (go_simp; done) | (go_simp; rfl)); intro gb343 hg w24 hbox hb; have BK343 := Aside0.mk (hbox); have GW343 := bZ HB hg; have GE343 := bZ HB hg; replace HB := bW HB hb; clear hb hbox hg; obtain ⟨hcz25_0, hcz25_1, hcz25_2, hfz25_0, hfz25_1, hfz25_2⟩ := bf3 (w := w24) BK343)))
    go_ret
    exact ⟨by first | rfl | (simp [errW_none, errW_some] <;> rfl) | (simp [*, errW_none, errW_some] <;> rfl), by repeat (first | (with_reducible first | exact HB.out | apply below_alloc | apply pw_below_drewN | apply below_drew1 | refine below_set ?_ GE343.out) | exact HB.out)⟩

/-! ### engrossref1_MayKey: function 37 -/
def engrossref1_MayKey.f (a0 : ByteArray) : Option (Bool) := if (a0.size : Int) ≥ 1 then (some (decide ((a0.size : Int) ≤ 16))) else (some false)
set_option maxHeartbeats 8000000 in
set_option maxRecDepth 100000 in
theorem engrossref1_MayKey.calls (a0 : ByteArray) (r : Bool) (w : World) (h : engrossref1_MayKey.f a0 = some r) :
  Calls Try.prog 37 #[.string a0] w fun e w' => e = .returned (.bool r) ∧ Drawn0 w w' := by
 have H : (if (a0.size : Int) ≥ 1 then (some (decide ((a0.size : Int) ≤ 16))) else (some false)) = some r := h
 clear h
 by_cases c2 : (a0.size : Int) ≥ 1
 ·rw [if_pos c2] at H
  have c2b0 : decide (1 ≤ (a0.size : Int)) = true := decide_eq_true c2
  have c2b1 : decide (1 ≤ a0.size) = true := decide_eq_true (by omega)
  clear c2
  obtain rfl := Option.some.inj H
  go_enter Try.func37, Try.ntmps37
  go_wp2
  go_ret
  exact ⟨by first | rfl | (simp; done) | (simp [*]; done), by repeat (first | exact Drawn0.refl _ | apply Drawn0.step)⟩
 ·rw [if_neg c2] at H
  have c2b0 : decide (1 ≤ (a0.size : Int)) = false := decide_eq_false c2
  have c2b1 : decide (1 ≤ a0.size) = false := decide_eq_false (by omega)
  clear c2
  obtain rfl := Option.some.inj H
  go_enter Try.func37, Try.ntmps37
  go_wp2
  go_ret
  exact ⟨by first | rfl | (simp; done) | (simp [*]; done), by repeat (first | exact Drawn0.refl _ | apply Drawn0.step)⟩

/-! ### engrossref10_May: function 15 -/
def engrossref10_May.f (a0_0 : ByteArray) (a0_1 : Int) (a0_2 : Nat) (a0_3 : ByteArray) (a0_4 : Int) (a0_5 : Int) (a0_6 : Nat) (a0_7 : ByteArray) : Option (Bool) := (engrossref1_MayKey.f a0_0).bind fun t349 => (if t349 = true then ((engrossref1_MayVal.f a0_1 a0_2 a0_3).bind fun t350 => (if t350 = true then ((engrossref1_MayVal.f a0_5 a0_6 a0_7).bind fun t351 => (if t351 = true then (if a0_4 < 0 then (some false) else (if a0_4 > 1099511627776 then (some false) else (if a0_4 > 0 then (some true) else (if a0_5 = 0 then (some (a0_1 != 0)) else (some false))))) else (some false))) else (some false))) else (some false))
set_option maxHeartbeats 8000000 in
set_option maxRecDepth 100000 in
theorem engrossref10_May.calls (a0_0 : ByteArray) (a0_1 : Int) (a0_2 : Nat) (a0_3 : ByteArray) (a0_4 : Int) (a0_5 : Int) (a0_6 : Nat) (a0_7 : ByteArray) (r : Bool) (w : World) (h : engrossref10_May.f a0_0 a0_1 a0_2 a0_3 a0_4 a0_5 a0_6 a0_7 = some r) :
  Calls Try.prog 15 #[.agg #[.string a0_0, .int .i64 a0_1, .float .f64 a0_2, .string a0_3, .int .i64 a0_4, .int .i64 a0_5, .float .f64 a0_6, .string a0_7]] w fun e w' => e = .returned (.bool r) ∧ Below w.heap.size w w' := by
 have hu26 := Try.underlying26
 have hu24 := Try.underlying24
 have HB := Aside0.mk (Below.refl w.heap.size w)
 have H : ((engrossref1_MayKey.f a0_0).bind fun t349 => (if t349 = true then ((engrossref1_MayVal.f a0_1 a0_2 a0_3).bind fun t350 => (if t350 = true then ((engrossref1_MayVal.f a0_5 a0_6 a0_7).bind fun t351 => (if t351 = true then (if a0_4 < 0 then (some false) else (if a0_4 > 1099511627776 then (some false) else (if a0_4 > 0 then (some true) else (if a0_5 = 0 then (some (a0_1 != 0)) else (some false))))) else (some false))) else (some false))) else (some false))) = some r := h
 clear h
 replace H := Option.bind_eq_some_iff.mp H
 obtain ⟨t349, A20, H⟩ := H
 replace H : (if t349 = true then ((engrossref1_MayVal.f a0_1 a0_2 a0_3).bind fun t350 => (if t350 = true then ((engrossref1_MayVal.f a0_5 a0_6 a0_7).bind fun t351 => (if t351 = true then (if a0_4 < 0 then (some false) else (if a0_4 > 1099511627776 then (some false) else (if a0_4 > 0 then (some true) else (if a0_5 = 0 then (some (a0_1 != 0)) else (some false))))) else (some false))) else (some false))) else (some false)) = some r := H
 have A2 := Aside0.mk A20
 clear A20
 by_cases c3 : t349 = true
 ·subst c3
  have H1 : ((engrossref1_MayVal.f a0_1 a0_2 a0_3).bind fun t350 => (if t350 = true then ((engrossref1_MayVal.f a0_5 a0_6 a0_7).bind fun t351 => (if t351 = true then (if a0_4 < 0 then (some false) else (if a0_4 > 1099511627776 then (some false) else (if a0_4 > 0 then (some true) else (if a0_5 = 0 then (some (a0_1 != 0)) else (some false))))) else (some false))) else (some false))) = some r := by rw [if_pos rfl] at H; exact H
  clear H
  have H := H1
  clear H1
  replace H := Option.bind_eq_some_iff.mp H
  obtain ⟨t350, A40, H⟩ := H
  replace H : (if t350 = true then ((engrossref1_MayVal.f a0_5 a0_6 a0_7).bind fun t351 => (if t351 = true then (if a0_4 < 0 then (some false) else (if a0_4 > 1099511627776 then (some false) else (if a0_4 > 0 then (some true) else (if a0_5 = 0 then (some (a0_1 != 0)) else (some false))))) else (some false))) else (some false)) = some r := H
  have A4 := Aside0.mk A40
  clear A40
  by_cases c5 : t350 = true
  ·subst c5
   have H1 : ((engrossref1_MayVal.f a0_5 a0_6 a0_7).bind fun t351 => (if t351 = true then (if a0_4 < 0 then (some false) else (if a0_4 > 1099511627776 then (some false) else (if a0_4 > 0 then (some true) else (if a0_5 = 0 then (some (a0_1 != 0)) else (some false))))) else (some false))) = some r := by rw [if_pos rfl] at H; exact H
   clear H
   have H := H1
   clear H1
   replace H := Option.bind_eq_some_iff.mp H
   obtain ⟨t351, A60, H⟩ := H
   replace H : (if t351 = true then (if a0_4 < 0 then (some false) else (if a0_4 > 1099511627776 then (some false) else (if a0_4 > 0 then (some true) else (if a0_5 = 0 then (some (a0_1 != 0)) else (some false))))) else (some false)) = some r := H
   have A6 := Aside0.mk A60
   clear A60
   by_cases c7 : t351 = true
   ·subst c7
    have H1 : (if a0_4 < 0 then (some false) else (if a0_4 > 1099511627776 then (some false) else (if a0_4 > 0 then (some true) else (if a0_5 = 0 then (some (a0_1 != 0)) else (some false))))) = some r := by rw [if_pos rfl] at H; exact H
    clear H
    have H := H1
    clear H1
    by_cases c8 : a0_4 < 0
    ·rw [if_pos c8] at H
     have c8b0 : decide (a0_4 < 0) = true := decide_eq_true c8
     clear c8
     obtain rfl := Option.some.inj H
     go_enter Try.func15, Try.ntmps15
     go_wp2_with (first | ((with_reducible refine gate_dst (N := 1) rfl ?_); refine box_event ?hg (N := 1) ?hd (cs := #[.string a0_0, .int .i64 a0_1, .float .f64 a0_2, .string a0_3, .int .i64 a0_4, .int .i64 a0_5, .float .f64 a0_6, .string a0_7]) (t := 26) ?hr ?_; (case hd => rfl); (case hg => rfl); (case hr => first | (go_simp; done) | (go_simp; rfl)); intro gb348 hg w9 hbox hb; have BK348 := Aside0.mk (hbox); have GW348 := bZ HB hg; have GE348 := bZ HB hg; replace HB := bW HB hb; clear hb hbox hg; obtain ⟨hcz10_0, hcz10_1, hcz10_2, hcz10_3, hcz10_4, hcz10_5, hcz10_6, hcz10_7, hfz10_0, hfz10_1, hfz10_2, hfz10_3, hfz10_4, hfz10_5, hfz10_6, hfz10_7⟩ := bf8 (w := w9) BK348) | ((with_reducible refine gate_callee (f := 37) rfl ?_); refine goesL_ (some 5) rfl rfl Try.func37 (by kernel_rfl) rfl #[.string a0_0] rfl (by (try simp only [List.map_toArray, List.map_cons, List.map_nil]); first | done | rfl | (simp only [List.length_drop, List.length_take]; rfl)) ?_; (with_reducible refine (engrossref1_MayKey.calls a0_0 true _ A2.out).mono ?_); rintro e w' ⟨rfl, ⟨nd, rfl⟩⟩; refine ⟨_, rfl, ?_⟩) | (go_at_call 26; (with_reducible refine (engrossref1_MayVal.calls a0_1 a0_2 a0_3 true _ A4.out).mono ?_); rintro e w11 ⟨rfl, hb⟩; replace BK348 := bB BK348 hb; replace HB := bW HB hb; (try clear hb); (try clear hb2); (try clear hk); (try clear hi); obtain ⟨hcz12_0, hcz12_1, hcz12_2, hcz12_3, hcz12_4, hcz12_5, hcz12_6, hcz12_7, hfz12_0, hfz12_1, hfz12_2, hfz12_3, hfz12_4, hfz12_5, hfz12_6, hfz12_7⟩ := bf8 (w := w11) BK348) | (go_at_call 26; (with_reducible refine (engrossref1_MayVal.calls a0_5 a0_6 a0_7 true _ A6.out).mono ?_); rintro e w13 ⟨rfl, hb⟩; replace BK348 := bB BK348 hb; replace HB := bW HB hb; (try clear hb); (try clear hb2); (try clear hk); (try clear hi); obtain ⟨hcz14_0, hcz14_1, hcz14_2, hcz14_3, hcz14_4, hcz14_5, hcz14_6, hcz14_7, hfz14_0, hfz14_1, hfz14_2, hfz14_3, hfz14_4, hfz14_5, hfz14_6, hfz14_7⟩ := bf8 (w := w13) BK348))
     go_ret
     exact ⟨by first | rfl | (simp [errW_none, errW_some] <;> rfl) | (simp [*, errW_none, errW_some] <;> rfl), by repeat (first | (with_reducible first | exact HB.out | apply below_alloc | apply pw_below_drewN | apply below_drew1 | refine below_set ?_ GE348.out) | exact HB.out)⟩
    ·rw [if_neg c8] at H
     have c8b0 : decide (a0_4 < 0) = false := decide_eq_false c8
     clear c8
     by_cases c15 : a0_4 > 1099511627776
     ·rw [if_pos c15] at H
      have c15b0 : decide (1099511627776 < a0_4) = true := decide_eq_true c15
      clear c15
      obtain rfl := Option.some.inj H
      go_enter Try.func15, Try.ntmps15
      go_wp2_with (first | ((with_reducible refine gate_dst (N := 1) rfl ?_); refine box_event ?hg (N := 1) ?hd (cs := #[.string a0_0, .int .i64 a0_1, .float .f64 a0_2, .string a0_3, .int .i64 a0_4, .int .i64 a0_5, .float .f64 a0_6, .string a0_7]) (t := 26) ?hr ?_; (case hd => rfl); (case hg => rfl); (case hr => first | (go_simp; done) | (go_simp; rfl)); intro gb348 hg w16 hbox hb; have BK348 := Aside0.mk (hbox); have GW348 := bZ HB hg; have GE348 := bZ HB hg; replace HB := bW HB hb; clear hb hbox hg; obtain ⟨hcz17_0, hcz17_1, hcz17_2, hcz17_3, hcz17_4, hcz17_5, hcz17_6, hcz17_7, hfz17_0, hfz17_1, hfz17_2, hfz17_3, hfz17_4, hfz17_5, hfz17_6, hfz17_7⟩ := bf8 (w := w16) BK348) | ((with_reducible refine gate_callee (f := 37) rfl ?_); refine goesL_ (some 5) rfl rfl Try.func37 (by kernel_rfl) rfl #[.string a0_0] rfl (by (try simp only [List.map_toArray, List.map_cons, List.map_nil]); first | done | rfl | (simp only [List.length_drop, List.length_take]; rfl)) ?_; (with_reducible refine (engrossref1_MayKey.calls a0_0 true _ A2.out).mono ?_); rintro e w' ⟨rfl, ⟨nd, rfl⟩⟩; refine ⟨_, rfl, ?_⟩) | (go_at_call 26; (with_reducible refine (engrossref1_MayVal.calls a0_1 a0_2 a0_3 true _ A4.out).mono ?_); rintro e w18 ⟨rfl, hb⟩; replace BK348 := bB BK348 hb; replace HB := bW HB hb; (try clear hb); (try clear hb2); (try clear hk); (try clear hi); obtain ⟨hcz19_0, hcz19_1, hcz19_2, hcz19_3, hcz19_4, hcz19_5, hcz19_6, hcz19_7, hfz19_0, hfz19_1, hfz19_2, hfz19_3, hfz19_4, hfz19_5, hfz19_6, hfz19_7⟩ := bf8 (w := w18) BK348) | (go_at_call 26; (with_reducible refine (engrossref1_MayVal.calls a0_5 a0_6 a0_7 true _ A6.out).mono ?_); rintro e w20 ⟨rfl, hb⟩; replace BK348 := bB BK348 hb; replace HB := bW HB hb; (try clear hb); (try clear hb2); (try clear hk); (try clear hi); obtain ⟨hcz21_0, hcz21_1, hcz21_2, hcz21_3, hcz21_4, hcz21_5, hcz21_6, hcz21_7, hfz21_0, hfz21_1, hfz21_2, hfz21_3, hfz21_4, hfz21_5, hfz21_6, hfz21_7⟩ := bf8 (w := w20) BK348))
      go_ret
      exact ⟨by first | rfl | (simp [errW_none, errW_some] <;> rfl) | (simp [*, errW_none, errW_some] <;> rfl), by repeat (first | (with_reducible first | exact HB.out | apply below_alloc | apply pw_below_drewN | apply below_drew1 | refine below_set ?_ GE348.out) | exact HB.out)⟩
     ·rw [if_neg c15] at H
      have c15b0 : decide (1099511627776 < a0_4) = false := decide_eq_false c15
      clear c15
      by_cases c22 : a0_4 > 0
      ·rw [if_pos c22] at H
       have c22b0 : decide (0 < a0_4) = true := decide_eq_true c22
       clear c22
       obtain rfl := Option.some.inj H
       go_enter Try.func15, Try.ntmps15
       go_wp2_with (first | ((with_reducible refine gate_dst (N := 1) rfl ?_); refine box_event ?hg (N := 1) ?hd (cs := #[.string a0_0, .int .i64 a0_1, .float .f64 a0_2, .string a0_3, .int .i64 a0_4, .int .i64 a0_5, .float .f64 a0_6, .string a0_7]) (t := 26) ?hr ?_; (case hd => rfl); (case hg => rfl); (case hr => first | (go_simp; done) | (go_simp; rfl)); intro gb348 hg w23 hbox hb; have BK348 := Aside0.mk (hbox); have GW348 := bZ HB hg; have GE348 := bZ HB hg; replace HB := bW HB hb; clear hb hbox hg; obtain ⟨hcz24_0, hcz24_1, hcz24_2, hcz24_3, hcz24_4, hcz24_5, hcz24_6, hcz24_7, hfz24_0, hfz24_1, hfz24_2, hfz24_3, hfz24_4, hfz24_5, hfz24_6, hfz24_7⟩ := bf8 (w := w23) BK348) | ((with_reducible refine gate_callee (f := 37) rfl ?_); refine goesL_ (some 5) rfl rfl Try.func37 (by kernel_rfl) rfl #[.string a0_0] rfl (by (try simp only [List.map_toArray, List.map_cons, List.map_nil]); first | done | rfl | (simp only [List.length_drop, List.length_take]; rfl)) ?_; (with_reducible refine (engrossref1_MayKey.calls a0_0 true _ A2.out).mono ?_); rintro e w' ⟨rfl, ⟨nd, rfl⟩⟩; refine ⟨_, rfl, ?_⟩) | (go_at_call 26; (with_reducible refine (engrossref1_MayVal.calls a0_1 a0_2 a0_3 true _ A4.out).mono ?_); rintro e w25 ⟨rfl, hb⟩; replace BK348 := bB BK348 hb; replace HB := bW HB hb; (try clear hb); (try clear hb2); (try clear hk); (try clear hi); obtain ⟨hcz26_0, hcz26_1, hcz26_2, hcz26_3, hcz26_4, hcz26_5, hcz26_6, hcz26_7, hfz26_0, hfz26_1, hfz26_2, hfz26_3, hfz26_4, hfz26_5, hfz26_6, hfz26_7⟩ := bf8 (w := w25) BK348) | (go_at_call 26; (with_reducible refine (engrossref1_MayVal.calls a0_5 a0_6 a0_7 true _ A6.out).mono ?_); rintro e w27 ⟨rfl, hb⟩; replace BK348 := bB BK348 hb; replace HB := bW HB hb; (try clear hb); (try clear hb2); (try clear hk); (try clear hi); obtain ⟨hcz28_0, hcz28_1, hcz28_2, hcz28_3, hcz28_4, hcz28_5, hcz28_6, hcz28_7, hfz28_0, hfz28_1, hfz28_2, hfz28_3, hfz28_4, hfz28_5, hfz28_6, hfz28_7⟩ := bf8 (w := w27) BK348))
       go_ret
       exact ⟨by first | rfl | (simp [errW_none, errW_some] <;> rfl) | (simp [*, errW_none, errW_some] <;> rfl), by repeat (first | (with_reducible first | exact HB.out | apply below_alloc | apply pw_below_drewN | apply below_drew1 | refine below_set ?_ GE348.out) | exact HB.out)⟩
      ·rw [if_neg c22] at H
       have c22b0 : decide (0 < a0_4) = false := decide_eq_false c22
       clear c22
       by_cases c29 : a0_5 = 0
       ·rw [if_pos c29] at H
        have c29b0 : (a0_5 == 0) = true := beq_iff_eq.mpr c29
        have c29b1 : (a0_5 != 0) = false := bne_eq_false_iff_eq.mpr c29
        clear c29
        obtain rfl := Option.some.inj H
        go_enter Try.func15, Try.ntmps15
        go_wp2_with (first | ((with_reducible refine gate_dst (N := 1) rfl ?_); refine box_event ?hg (N := 1) ?hd (cs := #[.string a0_0, .int .i64 a0_1, .float .f64 a0_2, .string a0_3, .int .i64 a0_4, .int .i64 a0_5, .float .f64 a0_6, .string a0_7]) (t := 26) ?hr ?_; (case hd => rfl); (case hg => rfl); (case hr => first | (go_simp; done) | (go_simp; rfl)); intro gb348 hg w30 hbox hb; have BK348 := Aside0.mk (hbox); have GW348 := bZ HB hg; have GE348 := bZ HB hg; replace HB := bW HB hb; clear hb hbox hg; obtain ⟨hcz31_0, hcz31_1, hcz31_2, hcz31_3, hcz31_4, hcz31_5, hcz31_6, hcz31_7, hfz31_0, hfz31_1, hfz31_2, hfz31_3, hfz31_4, hfz31_5, hfz31_6, hfz31_7⟩ := bf8 (w := w30) BK348) | ((with_reducible refine gate_callee (f := 37) rfl ?_); refine goesL_ (some 5) rfl rfl Try.func37 (by kernel_rfl) rfl #[.string a0_0] rfl (by (try simp only [List.map_toArray, List.map_cons, List.map_nil]); first | done | rfl | (simp only [List.length_drop, List.length_take]; rfl)) ?_; (with_reducible refine (engrossref1_MayKey.calls a0_0 true _ A2.out).mono ?_); rintro e w' ⟨rfl, ⟨nd, rfl⟩⟩; refine ⟨_, rfl, ?_⟩) | (go_at_call 26; (with_reducible refine (engrossref1_MayVal.calls a0_1 a0_2 a0_3 true _ A4.out).mono ?_); rintro e w32 ⟨rfl, hb⟩; replace BK348 := bB BK348 hb; replace HB := bW HB hb; (try clear hb); (try clear hb2); (try clear hk); (try clear hi); obtain ⟨hcz33_0, hcz33_1, hcz33_2, hcz33_3, hcz33_4, hcz33_5, hcz33_6, hcz33_7, hfz33_0, hfz33_1, hfz33_2, hfz33_3, hfz33_4, hfz33_5, hfz33_6, hfz33_7⟩ := bf8 (w := w32) BK348) | (go_at_call 26; (with_reducible refine (engrossref1_MayVal.calls a0_5 a0_6 a0_7 true _ A6.out).mono ?_); rintro e w34 ⟨rfl, hb⟩; replace BK348 := bB BK348 hb; replace HB := bW HB hb; (try clear hb); (try clear hb2); (try clear hk); (try clear hi); obtain ⟨hcz35_0, hcz35_1, hcz35_2, hcz35_3, hcz35_4, hcz35_5, hcz35_6, hcz35_7, hfz35_0, hfz35_1, hfz35_2, hfz35_3, hfz35_4, hfz35_5, hfz35_6, hfz35_7⟩ := bf8 (w := w34) BK348))
        go_ret
        exact ⟨by first | rfl | (simp [errW_none, errW_some] <;> rfl) | (simp [*, errW_none, errW_some] <;> rfl), by repeat (first | (with_reducible first | exact HB.out | apply below_alloc | apply pw_below_drewN | apply below_drew1 | refine below_set ?_ GE348.out) | exact HB.out)⟩
       ·rw [if_neg c29] at H
        have c29b0 : (a0_5 == 0) = false := beq_eq_false_iff_ne.mpr c29
        have c29b1 : (a0_5 != 0) = true := bne_iff_ne.mpr c29
        obtain rfl := Option.some.inj H
        go_enter Try.func15, Try.ntmps15
        go_wp2_with (first | ((with_reducible refine gate_dst (N := 1) rfl ?_); refine box_event ?hg (N := 1) ?hd (cs := #[.string a0_0, .int .i64 a0_1, .float .f64 a0_2, .string a0_3, .int .i64 a0_4, .int .i64 a0_5, .float .f64 a0_6, .string a0_7]) (t := 26) ?hr ?_; (case hd => rfl); (case hg => rfl); (case hr => first | (go_simp; done) | (go_simp; rfl)); intro gb348 hg w36 hbox hb; have BK348 := Aside0.mk (hbox); have GW348 := bZ HB hg; have GE348 := bZ HB hg; replace HB := bW HB hb; clear hb hbox hg; obtain ⟨hcz37_0, hcz37_1, hcz37_2, hcz37_3, hcz37_4, hcz37_5, hcz37_6, hcz37_7, hfz37_0, hfz37_1, hfz37_2, hfz37_3, hfz37_4, hfz37_5, hfz37_6, hfz37_7⟩ := bf8 (w := w36) BK348) | ((with_reducible refine gate_callee (f := 37) rfl ?_); refine goesL_ (some 5) rfl rfl Try.func37 (by kernel_rfl) rfl #[.string a0_0] rfl (by (try simp only [List.map_toArray, List.map_cons, List.map_nil]); first | done | rfl | (simp only [List.length_drop, List.length_take]; rfl)) ?_; (with_reducible refine (engrossref1_MayKey.calls a0_0 true _ A2.out).mono ?_); rintro e w' ⟨rfl, ⟨nd, rfl⟩⟩; refine ⟨_, rfl, ?_⟩) | (go_at_call 26; (with_reducible refine (engrossref1_MayVal.calls a0_1 a0_2 a0_3 true _ A4.out).mono ?_); rintro e w38 ⟨rfl, hb⟩; replace BK348 := bB BK348 hb; replace HB := bW HB hb; (try clear hb); (try clear hb2); (try clear hk); (try clear hi); obtain ⟨hcz39_0, hcz39_1, hcz39_2, hcz39_3, hcz39_4, hcz39_5, hcz39_6, hcz39_7, hfz39_0, hfz39_1, hfz39_2, hfz39_3, hfz39_4, hfz39_5, hfz39_6, hfz39_7⟩ := bf8 (w := w38) BK348) | (go_at_call 26; (with_reducible refine (engrossref1_MayVal.calls a0_5 a0_6 a0_7 true _ A6.out).mono ?_); rintro e w40 ⟨rfl, hb⟩; replace BK348 := bB BK348 hb; replace HB := bW HB hb; (try clear hb); (try clear hb2); (try clear hk); (try clear hi); obtain ⟨hcz41_0, hcz41_1, hcz41_2, hcz41_3, hcz41_4, hcz41_5, hcz41_6, hcz41_7, hfz41_0, hfz41_1, hfz41_2, hfz41_3, hfz41_4, hfz41_5, hfz41_6, hfz41_7⟩ := bf8 (w := w40) BK348))
        go_ret
        exact ⟨by first | rfl | (simp [errW_none, errW_some] <;> rfl) | (simp [*, errW_none, errW_some] <;> rfl), by repeat (first | (with_reducible first | exact HB.out | apply below_alloc | apply pw_below_drewN | apply below_drew1 | refine below_set ?_ GE348.out) | exact HB.out)⟩
   ·replace c7 := Bool.eq_false_iff.mpr c7
    subst c7
    have H1 : (some false) = some r := by rw [if_neg (show ¬ (false = true) by decide)] at H; exact H
    clear H
    have H := H1
    clear H1
    obtain rfl := Option.some.inj H
    go_enter Try.func15, Try.ntmps15
    go_wp2_with (first | ((with_reducible refine gate_dst (N := 1) rfl ?_); refine box_event ?hg (N := 1) ?hd (cs := #[.string a0_0, .int .i64 a0_1, .float .f64 a0_2, .string a0_3, .int .i64 a0_4, .int .i64 a0_5, .float .f64 a0_6, .string a0_7]) (t := 26) ?hr ?_; (case hd => rfl); (case hg => rfl); (case hr => first | (go_simp; done) | (go_simp; rfl)); intro gb348 hg w42 hbox hb; have BK348 := Aside0.mk (hbox); have GW348 := bZ HB hg; have GE348 := bZ HB hg; replace HB := bW HB hb; clear hb hbox hg; obtain ⟨hcz43_0, hcz43_1, hcz43_2, hcz43_3, hcz43_4, hcz43_5, hcz43_6, hcz43_7, hfz43_0, hfz43_1, hfz43_2, hfz43_3, hfz43_4, hfz43_5, hfz43_6, hfz43_7⟩ := bf8 (w := w42) BK348) | ((with_reducible refine gate_callee (f := 37) rfl ?_); refine goesL_ (some 5) rfl rfl Try.func37 (by kernel_rfl) rfl #[.string a0_0] rfl (by (try simp only [List.map_toArray, List.map_cons, List.map_nil]); first | done | rfl | (simp only [List.length_drop, List.length_take]; rfl)) ?_; (with_reducible refine (engrossref1_MayKey.calls a0_0 true _ A2.out).mono ?_); rintro e w' ⟨rfl, ⟨nd, rfl⟩⟩; refine ⟨_, rfl, ?_⟩) | (go_at_call 26; (with_reducible refine (engrossref1_MayVal.calls a0_1 a0_2 a0_3 true _ A4.out).mono ?_); rintro e w44 ⟨rfl, hb⟩; replace BK348 := bB BK348 hb; replace HB := bW HB hb; (try clear hb); (try clear hb2); (try clear hk); (try clear hi); obtain ⟨hcz45_0, hcz45_1, hcz45_2, hcz45_3, hcz45_4, hcz45_5, hcz45_6, hcz45_7, hfz45_0, hfz45_1, hfz45_2, hfz45_3, hfz45_4, hfz45_5, hfz45_6, hfz45_7⟩ := bf8 (w := w44) BK348) | (go_at_call 26; (with_reducible refine (engrossref1_MayVal.calls a0_5 a0_6 a0_7 false _ A6.out).mono ?_); rintro e w46 ⟨rfl, hb⟩; replace BK348 := bB BK348 hb; replace HB := bW HB hb; (try clear hb); (try clear hb2); (try clear hk); (try clear hi)))
    go_ret
    exact ⟨by first | rfl | (simp [errW_none, errW_some] <;> rfl) | (simp [*, errW_none, errW_some] <;> rfl), by repeat (first | (with_reducible first | exact HB.out | apply below_alloc | apply pw_below_drewN | apply below_drew1 | refine below_set ?_ GE348.out) | exact HB.out)⟩
  ·replace c5 := Bool.eq_false_iff.mpr c5
   subst c5
   have H1 : (some false) = some r := by rw [if_neg (show ¬ (false = true) by decide)] at H; exact H
   clear H
   have H := H1
   clear H1
   obtain rfl := Option.some.inj H
   go_enter Try.func15, Try.ntmps15
   go_wp2_with (first | ((with_reducible refine gate_dst (N := 1) rfl ?_); refine box_event ?hg (N := 1) ?hd (cs := #[.string a0_0, .int .i64 a0_1, .float .f64 a0_2, .string a0_3, .int .i64 a0_4, .int .i64 a0_5, .float .f64 a0_6, .string a0_7]) (t := 26) ?hr ?_; (case hd => rfl); (case hg => rfl); (case hr => first | (go_simp; done) | (go_simp; rfl)); intro gb348 hg w47 hbox hb; have BK348 := Aside0.mk (hbox); have GW348 := bZ HB hg; have GE348 := bZ HB hg; replace HB := bW HB hb; clear hb hbox hg; obtain ⟨hcz48_0, hcz48_1, hcz48_2, hcz48_3, hcz48_4, hcz48_5, hcz48_6, hcz48_7, hfz48_0, hfz48_1, hfz48_2, hfz48_3, hfz48_4, hfz48_5, hfz48_6, hfz48_7⟩ := bf8 (w := w47) BK348) | ((with_reducible refine gate_callee (f := 37) rfl ?_); refine goesL_ (some 5) rfl rfl Try.func37 (by kernel_rfl) rfl #[.string a0_0] rfl (by (try simp only [List.map_toArray, List.map_cons, List.map_nil]); first | done | rfl | (simp only [List.length_drop, List.length_take]; rfl)) ?_; (with_reducible refine (engrossref1_MayKey.calls a0_0 true _ A2.out).mono ?_); rintro e w' ⟨rfl, ⟨nd, rfl⟩⟩; refine ⟨_, rfl, ?_⟩) | (go_at_call 26; (with_reducible refine (engrossref1_MayVal.calls a0_1 a0_2 a0_3 false _ A4.out).mono ?_); rintro e w49 ⟨rfl, hb⟩; replace BK348 := bB BK348 hb; replace HB := bW HB hb; (try clear hb); (try clear hb2); (try clear hk); (try clear hi)))
   go_ret
   exact ⟨by first | rfl | (simp [errW_none, errW_some] <;> rfl) | (simp [*, errW_none, errW_some] <;> rfl), by repeat (first | (with_reducible first | exact HB.out | apply below_alloc | apply pw_below_drewN | apply below_drew1 | refine below_set ?_ GE348.out) | exact HB.out)⟩
 ·replace c3 := Bool.eq_false_iff.mpr c3
  subst c3
  have H1 : (some false) = some r := by rw [if_neg (show ¬ (false = true) by decide)] at H; exact H
  clear H
  have H := H1
  clear H1
  obtain rfl := Option.some.inj H
  go_enter Try.func15, Try.ntmps15
  go_wp2_with (first | ((with_reducible refine gate_dst (N := 1) rfl ?_); refine box_event ?hg (N := 1) ?hd (cs := #[.string a0_0, .int .i64 a0_1, .float .f64 a0_2, .string a0_3, .int .i64 a0_4, .int .i64 a0_5, .float .f64 a0_6, .string a0_7]) (t := 26) ?hr ?_; (case hd => rfl); (case hg => rfl); (case hr => first | (go_simp; done) | (go_simp; rfl)); intro gb348 hg w50 hbox hb; have BK348 := Aside0.mk (hbox); have GW348 := bZ HB hg; have GE348 := bZ HB hg; replace HB := bW HB hb; clear hb hbox hg; obtain ⟨hcz51_0, hcz51_1, hcz51_2, hcz51_3, hcz51_4, hcz51_5, hcz51_6, hcz51_7, hfz51_0, hfz51_1, hfz51_2, hfz51_3, hfz51_4, hfz51_5, hfz51_6, hfz51_7⟩ := bf8 (w := w50) BK348) | ((with_reducible refine gate_callee (f := 37) rfl ?_); refine goesL_ (some 5) rfl rfl Try.func37 (by kernel_rfl) rfl #[.string a0_0] rfl (by (try simp only [List.map_toArray, List.map_cons, List.map_nil]); first | done | rfl | (simp only [List.length_drop, List.length_take]; rfl)) ?_; (with_reducible refine (engrossref1_MayKey.calls a0_0 false _ A2.out).mono ?_); rintro e w' ⟨rfl, ⟨nd, rfl⟩⟩; refine ⟨_, rfl, ?_⟩))
  go_ret
  exact ⟨by first | rfl | (simp [errW_none, errW_some] <;> rfl) | (simp [*, errW_none, errW_some] <;> rfl), by repeat (first | (with_reducible first | exact HB.out | apply below_alloc | apply pw_below_drewN | apply below_drew1 | refine below_set ?_ GE348.out) | exact HB.out)⟩

end Go.Proofs.Ytjhbeaffcdkhcaa.P
