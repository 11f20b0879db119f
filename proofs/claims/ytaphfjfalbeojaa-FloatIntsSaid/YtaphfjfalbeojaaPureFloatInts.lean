/- FloatInts: whole numbers as floats have the numbers' order and sums: the plain statement of the law. -/
import Derived.Test.YtaphfjfalbeojaaFltW
import Derived.Test.YtaphfjfalbeojaaPx8
set_option linter.unusedVariables false
set_option linter.unusedSimpArgs false
namespace Go.Proofs.Ytaphfjfalbeojaa.Pure
open Go.RowKit Go.Proofs.Ytaphfjfalbeojaa.P Go.Proofs.YtaphfjfalbeojaaW.PrintWords Go.Proofs.YtaphfjfalbeojaaW.PrintLast Go.Proofs.YtaphfjfalbeojaaW.PrintMore
theorem wf_i32 {x : Int} (h : (Lit.int .i32 x).wf = true) : -2147483648 ≤ x ∧ x < 2147483648 := by
  have : -2147483648 ≤ x ∧ x ≤ 2147483647 := by simpa [Lit.wf, IntKind.min, IntKind.max, IntKind.signed, IntKind.bits] using h
  omega
theorem FloatInts : engrosslaw3_FloatInts.Pure := by
  intro a b ha hb
  obtain ⟨k, hk⟩ : ∃ k : Nat, 60 ≤ k := ⟨60, Nat.le_refl _⟩
  refine ⟨k, ?_⟩
  have a1 := wf_i32 ha
  have b1 := wf_i32 hb
  have hadd := ofInt_add (a := a) (b := b) (by omega) (by omega)
  obtain ⟨x, ex, x2, xn, xV, xz, _, _⟩ := ofInt_V (a := a) (by omega) (by omega)
  obtain ⟨y, ey, y2, yn, yV, yz, _, _⟩ := ofInt_V (a := b) (by omega) (by omega)
  have hp : (0 : Int) < ((2 ^ E0 : Nat) : Int) := Int.natCast_pos.2 (Nat.pow_pos (by decide))
  have hpl : (pl x < pl y ↔ a < b) ∧ (pl x = pl y ↔ a = b) := by
    rcases Int.lt_trichotomy a b with h | h | h
    · have h1 : V x < V y := by rw [xV, yV]; exact Int.mul_lt_mul_of_pos_right h hp
      have := pl_of_V x2 y2 (by omega) (by omega) h1
      omega
    · have h1 : x = y := by rw [← ex, ← ey, h]
      rw [h1]
      omega
    · have h1 : V y < V x := by rw [xV, yV]; exact Int.mul_lt_mul_of_pos_right h hp
      have := pl_of_V y2 x2 (by omega) (by omega) h1
      omega
  have hsum : float_Sum.f [x, y] = some (floatOfInt .f64 (a + b)) := by
    unfold float_Sum.f
    rw [if_pos (by simp)]
    have h0 : sumO [x, y] = some (floatOfInt .f64 (a + b)) := by
      show addO (addO (some 0) x) y = _
      have h1 : addO (some 0) x = some x := by
        show floatBits .add .f64 0 x = _
        rw [zero_add x2 xn]
        congr 1
        split
        · rename_i h; exact (xz h).symm
        · rfl
      rw [h1]
      show floatBits .add .f64 x y = _
      rw [← ex, ← ey]
      exact hadd
    unfold sumF
    rw [h0]
  have hw1 : wrap64 a = a := w64' (by omega)
  have hw2 : wrap64 b = b := w64' (by omega)
  have hw3 : wrap64 (a + b) = a + b := w64' (by omega)
  unfold engrosslaw3_FloatInts.f
  rw [begun3 (by omega)]
  simp only [Option.bind_some, if_true]
  rw [hw1, hw2, hw3, ex, ey, less_is x2 y2, same_is x2 y2, bytes_is x2 (by omega), bytes_is y2 (by omega), hsum]
  simp only [Option.bind_some]
  have e1 : decide (pl x < pl y) = decide (a < b) := decide_eq_decide.2 hpl.1
  have e2 : decide (pl x = pl y) = (a == b) := by
    rw [Bool.eq_iff_iff]
    simp only [decide_eq_true_eq, beq_iff_eq]
    exact hpl.2
  rw [be8_less (pl_lt x2) (pl_lt y2), e1, e2, if_pos (by simp), if_pos (by simp), if_pos (by simp), bits_is]
  simp
end Go.Proofs.Ytaphfjfalbeojaa.Pure
