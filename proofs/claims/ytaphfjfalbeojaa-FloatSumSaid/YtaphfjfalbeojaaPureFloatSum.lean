/- FloatSum: floats are added one by one, in order: the plain statement of the law. -/
import Derived.Test.YtaphfjfalbeojaaFltB
import Derived.Test.YtaphfjfalbeojaaPx6
set_option linter.unusedVariables false
set_option linter.unusedSimpArgs false
namespace Go.Proofs.Ytaphfjfalbeojaa.Pure
open Go.RowKit Go.Proofs.Ytaphfjfalbeojaa.P Go.Proofs.YtaphfjfalbeojaaW.PrintWords Go.Proofs.YtaphfjfalbeojaaW.PrintLast Go.Proofs.YtaphfjfalbeojaaW.PrintMore
theorem fsum_l0 (l : List Int) (hl : l.length ≤ 40) (d : Nat) : ∀ (k i : Nat) (acc : List Nat), i + d = l.length → d < k → acc.length = i → engrosslaw3_FloatSum.l0 k l acc (i : Int) = some true := by
  induction d with
  | zero =>
    intro k i acc hi hk ha
    obtain ⟨k, rfl⟩ : ∃ m, k = m + 1 := ⟨k - 1, by omega⟩
    simp only [engrosslaw3_FloatSum.l0]
    rw [if_neg (by omega)]
    unfold float_Sum.f engrossref1_Add.f
    rw [if_pos (by omega)]
    simp only [Option.bind_some]
    rw [bits_is]
    simp
  | succ d ih =>
    intro k i acc hi hk ha
    obtain ⟨k, rfl⟩ : ∃ m, k = m + 1 := ⟨k - 1, by omega⟩
    simp only [engrosslaw3_FloatSum.l0]
    rw [if_pos (by omega), if_pos (by omega), of3]
    simp only [Option.bind_some]
    rw [if_pos (by omega), w64' (x := (i : Int) + 1) (by omega), show (i : Int) + 1 = ((i + 1 : Nat) : Int) from rfl]
    exact ih k (i + 1) _ (by omega) (by omega) (by simp only [List.length_append, List.length_cons, List.length_nil]; omega)
theorem FloatSum : engrosslaw3_FloatSum.Pure := by
  intro l _ _ _
  refine ⟨100, ?_⟩
  unfold engrosslaw3_FloatSum.f
  rw [begun3 (by omega)]
  simp only [Option.bind_some, if_true]
  have key : ∀ m : List Int, m.length ≤ 40 → engrosslaw3_FloatSum.j0 100 m = some true := by
    intro m hm
    rw [show (100 : Nat) = 99 + 1 from rfl]
    simp only [engrosslaw3_FloatSum.j0]
    exact fsum_l0 m hm m.length 99 0 [] (by omega) (by omega) rfl
  by_cases h : (l.length : Int) > 40
  · rw [if_pos h, if_pos (by omega)]
    exact key _ (by rw [List.length_take]; omega)
  · rw [if_neg h]
    exact key l (by omega)
end Go.Proofs.Ytaphfjfalbeojaa.Pure
