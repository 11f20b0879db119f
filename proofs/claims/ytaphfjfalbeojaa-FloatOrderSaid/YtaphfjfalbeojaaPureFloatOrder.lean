/- FloatOrder: any two floats stand in one order, and their bytes do, too: the plain statement of the law. -/
import Derived.Test.YtaphfjfalbeojaaFltB
import Derived.Test.YtaphfjfalbeojaaPx2
set_option linter.unusedVariables false
set_option linter.unusedSimpArgs false
namespace Go.Proofs.Ytaphfjfalbeojaa.Pure
open Go.RowKit Go.Proofs.Ytaphfjfalbeojaa.P Go.Proofs.YtaphfjfalbeojaaW.PrintWords Go.Proofs.YtaphfjfalbeojaaW.PrintLast Go.Proofs.YtaphfjfalbeojaaW.PrintMore
theorem FloatOrder : engrosslaw3_FloatOrder.Pure := by
  intro x y hx hy
  refine ⟨60, ?_⟩
  unfold engrosslaw3_FloatOrder.f
  rw [begun3 (by omega)]
  simp only [Option.bind_some, if_true]
  rw [of3, of3]
  simp only [Option.bind_some]
  have ha := toNat_lt hx
  have hb := toNat_lt hy
  generalize x.toNat = a at ha
  generalize y.toNat = b at hb
  have pa := pl_lt ha
  have pb := pl_lt hb
  rw [rplace_is ha, rplace_is hb, bytes_is ha (by omega), bytes_is hb (by omega), less_is ha hb, same_is ha hb]
  simp only [Option.bind_some]
  have e1 : (decide (pl a < pl b) == decide ((pl a : Int) - 9223372036854775808 < (pl b : Int) - 9223372036854775808)) = true := by
    rw [beq_iff_eq, decide_eq_decide]; omega
  have e2 : (decide (pl a = pl b) == ((pl a : Int) - 9223372036854775808 == (pl b : Int) - 9223372036854775808)) = true := by
    rw [beq_iff_eq, Bool.eq_iff_iff]; simp only [decide_eq_true_eq, beq_iff_eq]; omega
  rw [if_pos e1, if_pos e2, be8_less pa pb, if_pos e1]
  congr 1
  rw [beq_iff_eq, Bool.eq_iff_iff]
  simp only [beq_iff_eq, be8_eq pa pb]
  omega
end Go.Proofs.Ytaphfjfalbeojaa.Pure
