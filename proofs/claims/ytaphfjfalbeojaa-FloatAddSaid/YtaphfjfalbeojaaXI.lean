/- A sum of two floats in a walk, and what makes all NaNs one of it. No condition. -/
import Derived.Test.YtaphfjfalbeojaaXH
import Derived.Test.YtaphfjfalbeojaaXG
set_option linter.unusedVariables false
set_option linter.unusedSimpArgs false
namespace Go.Proofs.Ytaphfjfalbeojaa.P
open Go Go.RowKit Go.Proofs.YtaphfjfalbeojaaW.PrintWords
theorem upon_add {P : Program} {o : Oper} {a : Act} {K : Act → World → Prop} {Q : Exit → Act → World → Prop} {t : TypeId} {x y : Nat} {W : World}
    (h : ∀ q n, (match floatBits .add .f64 x y with | some b => q = b | none => isNaNb q) → Oper.upon P o a K Q (.ok (.value (.float .f64 q)) (W.drewN n))) :
    Oper.upon P o a K Q ((Sem.run P (binOp .add t (.float .f64 x) (.float .f64 y)) W).andThen fun v w' => .ok (.value v) w') := by
  obtain ⟨q, n, hrun, hrel⟩ := add_any (P := P) t x y W
  rw [hrun]
  exact h q n hrel
theorem add_lt {x y b : Nat} (h : floatBits .add .f64 x y = some b) : b < 18446744073709551616 := (add_num h).2
theorem clean_like {x y q r : Nat} (h : match floatBits .add .f64 x y with | some b => q = b | none => isNaNb q) (hc : engrossref1_Clean.f (addF x y) = some r) : engrossref1_Clean.f q = some r := by
  unfold addF at hc
  cases e : floatBits .add .f64 x y with
  | some b => rw [e] at h hc; dsimp only at h hc; rw [h]; exact hc
  | none =>
    rw [e] at h hc
    dsimp only at h hc
    rw [rclean_is h.1, if_pos h.2]
    rw [rclean_is (by decide), if_pos (by decide)] at hc
    exact hc
end Go.Proofs.Ytaphfjfalbeojaa.P
