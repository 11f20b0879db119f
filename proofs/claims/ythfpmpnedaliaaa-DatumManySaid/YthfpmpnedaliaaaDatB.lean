/- The helpers of the datum laws: begun is true; a value of its parts. No condition. -/
import Derived.Test.YthfpmpnedaliaaaDatV
import Derived.Test.YthfpmpnedaliaaaPx3
set_option linter.unusedVariables false
set_option linter.unusedSimpArgs false
namespace Go.Proofs.Ythfpmpnedaliaaa.Pure
open Go.RowKit Go.Proofs.Ythfpmpnedaliaaa.P Go.Proofs.YthfpmpnedaliaaaW.PrintWords Go.Proofs.YthfpmpnedaliaaaW.PrintLast Go.Proofs.YthfpmpnedaliaaaW.PrintMore
theorem begun4 {k : Nat} (hk : 60 ≤ k) : engrosslaw4_begun.f k = some true :=
  at_rounds (g := fun k => engrosslaw4_begun.f k) (fun k => engrosslaw4_begun.mono k) hk (show engrosslaw4_begun.f 60 = some true by decide +kernel)
theorem val_is (kd b : Int) (s : ByteArray) : ∃ t : ByteArray, engrosslaw4_Val.f kd b s = some (kd, b.toNat, t) ∧ t.size ≤ 25 := by
  unfold engrosslaw4_Val.f
  obtain ⟨t, e, h, _⟩ := cut_is s (n := 25)
  rw [show (25 : Int) = ((25 : Nat) : Int) from rfl, e]
  exact ⟨t, rfl, h⟩
end Go.Proofs.Ythfpmpnedaliaaa.Pure
