/- The helpers of the float laws: begun is true; a float of its bits. No condition. -/
import Derived.Test.YtaphfjfalbeojaaFlt1
import Derived.Test.YtaphfjfalbeojaaPx2
set_option linter.unusedVariables false
set_option linter.unusedSimpArgs false
namespace Go.Proofs.Ytaphfjfalbeojaa.Pure
open Go.RowKit Go.Proofs.Ytaphfjfalbeojaa.P Go.Proofs.YtaphfjfalbeojaaW.PrintWords Go.Proofs.YtaphfjfalbeojaaW.PrintLast Go.Proofs.YtaphfjfalbeojaaW.PrintMore
theorem begun3 {k : Nat} (hk : 60 ≤ k) : engrosslaw3_begun.f k = some true :=
  at_rounds (g := fun k => engrosslaw3_begun.f k) (fun k => engrosslaw3_begun.mono k) hk (show engrosslaw3_begun.f 60 = some true by decide +kernel)
theorem of3 (x : Int) : engrosslaw3_of.f x = some x.toNat := rfl
theorem short3 (l : List Int) {n : Nat} : engrosslaw1_Short.f l (n : Int) = some (l.take n) := by
  unfold engrosslaw1_Short.f
  by_cases h : (l.length : Int) > n
  · rw [if_pos h, if_pos (by omega), if_pos (by omega)]
    simp
  · rw [if_neg h, List.take_of_length_le (by omega)]
theorem toNat_lt {x : Int} (h : (Lit.int .u64 x).wf = true) : x.toNat < 18446744073709551616 := by have := wf_u64 h; omega
end Go.Proofs.Ytaphfjfalbeojaa.Pure
