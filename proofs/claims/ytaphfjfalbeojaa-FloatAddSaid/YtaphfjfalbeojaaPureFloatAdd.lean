/- FloatAdd: a sum goes on where it stood: the plain statement of the law. -/
import Derived.Test.YtaphfjfalbeojaaFltB
import Derived.Test.YtaphfjfalbeojaaXI
import Derived.Test.YtaphfjfalbeojaaPx11
set_option linter.unusedVariables false
set_option linter.unusedSimpArgs false
namespace Go.Proofs.Ytaphfjfalbeojaa.Pure
open Go.RowKit Go.Proofs.Ytaphfjfalbeojaa.P Go.Proofs.YtaphfjfalbeojaaW.PrintWords Go.Proofs.YtaphfjfalbeojaaW.PrintLast Go.Proofs.YtaphfjfalbeojaaW.PrintMore
theorem clean_add (l : List Nat) (u : Nat) : engrossref1_Clean.f (addF (sumF l) u) = some (sumF (l ++ [u])) := by
  have hc : engrossref1_Clean.f 9221120237041090560 = some 9221120237041090560 := by
    rw [rclean_is (by decide), if_pos (by decide)]
  unfold sumF
  rw [sumO_snoc]
  cases e : sumO l with
  | none =>
    have h : addF 9221120237041090560 u = 9221120237041090560 := by
      unfold addF
      rw [add_nan (by decide)]
    show engrossref1_Clean.f (addF 9221120237041090560 u) = some 9221120237041090560
    rw [h, hc]
  | some b =>
    show engrossref1_Clean.f (addF b u) = some (match floatBits .add .f64 b u with | some b => b | none => 9221120237041090560)
    unfold addF
    cases e2 : floatBits .add .f64 b u with
    | none => exact hc
    | some c =>
      obtain ⟨h1, h2⟩ := add_num e2
      show engrossref1_Clean.f c = some c
      rw [rclean_is h2, if_neg (by omega)]
theorem fadd_l0 (l : List Int) (x : Int) (hl : l.length ≤ 20) (d : Nat) : ∀ (k i : Nat) (acc : List Nat), i + d = l.length → d < k → acc.length = i → engrosslaw3_FloatAdd.l0 k l x acc (i : Int) = some true := by
  induction d with
  | zero =>
    intro k i acc hi hk ha
    obtain ⟨k, rfl⟩ : ∃ m, k = m + 1 := ⟨k - 1, by omega⟩
    simp only [engrosslaw3_FloatAdd.l0]
    rw [if_neg (by omega), of3]
    unfold float_Sum.f
    rw [if_pos (by omega)]
    simp only [Option.bind_some, List.nil_append, List.length_nil, Nat.zero_add]
    rw [if_pos (by omega), if_pos (by omega), if_pos (by simp; omega)]
    simp only [Option.bind_some]
    rw [clean_add]
    simp only [Option.bind_some]
    rw [bits_is]
    simp
  | succ d ih =>
    intro k i acc hi hk ha
    obtain ⟨k, rfl⟩ : ∃ m, k = m + 1 := ⟨k - 1, by omega⟩
    simp only [engrosslaw3_FloatAdd.l0]
    rw [if_pos (by omega), if_pos (by omega), of3]
    simp only [Option.bind_some]
    rw [if_pos (by omega), w64' (x := (i : Int) + 1) (by omega), show (i : Int) + 1 = ((i + 1 : Nat) : Int) from rfl]
    exact ih k (i + 1) _ (by omega) (by omega) (by simp only [List.length_append, List.length_cons, List.length_nil]; omega)
theorem FloatAdd : engrosslaw3_FloatAdd.Pure := by
  intro l x _ _ _ _
  obtain ⟨k, hk⟩ : ∃ k : Nat, 100 ≤ k := ⟨100, Nat.le_refl _⟩
  refine ⟨k, ?_⟩
  unfold engrosslaw3_FloatAdd.f
  rw [begun3 (by omega)]
  simp only [Option.bind_some, if_true]
  obtain ⟨k, rfl⟩ : ∃ m, k = m + 1 := ⟨k - 1, by omega⟩
  have key : ∀ m : List Int, m.length ≤ 20 → engrosslaw3_FloatAdd.j0 (k + 1) m x = some true := by
    intro m hm
    simp only [engrosslaw3_FloatAdd.j0]
    exact fadd_l0 m x hm m.length k 0 [] (by omega) (by omega) rfl
  by_cases h : (l.length : Int) > 20
  · rw [if_pos h, if_pos (by omega)]
    exact key _ (by rw [List.length_take]; omega)
  · rw [if_neg h]
    exact key l (by omega)
end Go.Proofs.Ytaphfjfalbeojaa.Pure
