/- FloatThree: the order of any three floats is one: the plain statement of the law. -/
import Derived.Test.YtaphfjfalbeojaaFltB
import Derived.Test.YtaphfjfalbeojaaPx5
set_option linter.unusedVariables false
set_option linter.unusedSimpArgs false
namespace Go.Proofs.Ytaphfjfalbeojaa.Pure
open Go.RowKit Go.Proofs.Ytaphfjfalbeojaa.P Go.Proofs.YtaphfjfalbeojaaW.PrintWords Go.Proofs.YtaphfjfalbeojaaW.PrintLast Go.Proofs.YtaphfjfalbeojaaW.PrintMore
theorem FloatThree : engrosslaw3_FloatThree.Pure := by
  intro x y z hx hy hz
  refine ⟨60, ?_⟩
  unfold engrosslaw3_FloatThree.f
  rw [begun3 (by omega)]
  simp only [Option.bind_some, if_true]
  rw [of3, of3, of3]
  simp only [Option.bind_some]
  have ha := toNat_lt hx
  have hb := toNat_lt hy
  have hc := toNat_lt hz
  generalize x.toNat = a at ha
  generalize y.toNat = b at hb
  generalize z.toNat = c at hc
  rw [less_is ha ha, less_is ha hb, less_is hb ha]
  simp only [Option.bind_some, decide_eq_true_eq]
  have key1 : ∀ k, engrosslaw3_FloatThree.j1 (k + 1) a b c false = some true := by
    intro k
    simp only [engrosslaw3_FloatThree.j1]
    rw [if_neg (by simp), same_is ha hb, same_is hb hc, same_is ha hc]
    simp only [Option.bind_some, decide_eq_true_eq]
    split
    · split
      · congr 1; rw [decide_eq_true_eq]; omega
      · rfl
    · rfl
  have key : ∀ k, engrosslaw3_FloatThree.j0 (k + 2) a b c false = some true := by
    intro k
    simp only [engrosslaw3_FloatThree.j0]
    rw [if_neg (by simp), less_is ha hb, less_is hb hc, less_is ha hc]
    simp only [Option.bind_some, decide_eq_true_eq]
    split
    · split
      · have : (!decide (pl a < pl c)) = false := by simp; omega
        rw [this]; exact key1 k
      · exact key1 k
    · exact key1 k
  rw [if_neg (by omega)]
  split
  · have : decide (pl b < pl a) = false := by simp; omega
    rw [this]; exact key 58
  · exact key 58
end Go.Proofs.Ytaphfjfalbeojaa.Pure
