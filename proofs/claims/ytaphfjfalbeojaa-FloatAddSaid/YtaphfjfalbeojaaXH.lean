/- A sum of two floats, all NaNs one. No condition. -/
import Derived.Test.YtaphfjfalbeojaaFlt0
set_option linter.unusedVariables false
set_option linter.unusedSimpArgs false
namespace Go.Proofs.Ytaphfjfalbeojaa.P
open Go.RowKit Go.Proofs.YtaphfjfalbeojaaW.PrintWords
/-- A sum of two floats, all NaNs one. -/
def addF (x y : Nat) : Nat := match floatBits .add .f64 x y with | some b => b | none => 9221120237041090560
theorem addF_like {x y q : Nat} (h : match floatBits .add .f64 x y with | some b => q = b | none => isNaNb q) : q = addF x y ∨ (isNaNb q ∧ addF x y = 9221120237041090560) := by
  unfold addF
  cases e : floatBits .add .f64 x y with
  | some b => rw [e] at h; exact Or.inl h
  | none => rw [e] at h; exact Or.inr ⟨h, rfl⟩
end Go.Proofs.Ytaphfjfalbeojaa.P
