/- ChangeAny: any bytes are a change's, just its, or nobody's: the plain statement of the law. -/
import Derived.Test.YtijnfnlahhgpgaaDoorChgB
import Derived.Test.YtijnfnlahhgpgaaDoorPx8
set_option linter.unusedVariables false
set_option linter.unusedSimpArgs false
namespace Go.Proofs.YtijnfnlahhgpgaaDoor.Pure
open Go.RowKit Go.Proofs.YtijnfnlahhgpgaaDoor.P Go.Proofs.YtijnfnlahhgpgaaDoorW.PrintWords Go.Proofs.YtijnfnlahhgpgaaDoorW.PrintLast Go.Proofs.YtijnfnlahhgpgaaDoorW.PrintMore
theorem ChangeAny : engrosslaw16_ChangeAny.Pure := by
  intro l h1 h2 h3
  obtain ⟨k, hk⟩ : ∃ k : Nat, 2000 ≤ k := ⟨2000, Nat.le_refl _⟩
  refine ⟨k, ?_⟩
  unfold engrosslaw16_ChangeAny.f
  rw [begun16 hk]
  simp only [Option.bind_some]
  rw [if_pos trivial, show engrosslaw1_Short.f l 100 = some (l.take 100) from short_is l (n := 100)]
  simp only [Option.bind_some]
  rw [tells_is (IB_take (fun c hc => wf_u8 (h3 c hc)) _) (by rw [List.length_take]; omega) hk]
  rfl
end Go.Proofs.YtijnfnlahhgpgaaDoor.Pure
