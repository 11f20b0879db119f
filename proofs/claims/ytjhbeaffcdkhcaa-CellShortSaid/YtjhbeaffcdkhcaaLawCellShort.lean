/- The law engrosslaw10_CellShort returns true for every input; its row, out of the walk and the plain statement. No condition. (Lines written by a generator of this session.) -/
import Derived.Test.YtjhbeaffcdkhcaaRows
import Derived.Test.YtjhbeaffcdkhcaaPx12
import Derived.Test.YtjhbeaffcdkhcaaPureCellShort
import Derived.Test.YtjhbeaffcdkhcaaXO
import Derived.WalkKit
import Derived.ProofKit
import Derived.OpenShut
import Derived.ShutString
import Derived.ChangeOld
import Derived.Below
import Derived.SizedLaws
namespace Go.Proofs.Ytjhbeaffcdkhcaa.cellShort
open Go.ChangeShapes Go.WideShapes Go.ChangeAt Go.RowKit Go.Proofs.Ytjhbeaffcdkhcaa.P Go.Proofs.YtjhbeaffcdkhcaaW.PrintWords
open Go.ChangeMaps (open_string shut_string)
set_option linter.unusedVariables false
theorem own : ownKnob Try.prog.godebug = none := by kernel_rfl
theorem laidOut : laidOutB Try.prog = true := by kernel_rfl
theorem open24 : Opens Try.prog k24 24 wf24 := opens_iso (fun x => ⟨x.1, x.2.1, x.2.2⟩) (fun _ => rfl) (fun x h => h) (opens_struct Try.underlying24 (by kernel_rfl) (opensF_cons rfl (by kernel_rfl) (of_decide_eq_true (by kernel_rfl)) (opens_int Try.underlying3) (opensF_cons rfl (by kernel_rfl) (of_decide_eq_true (by kernel_rfl)) (opens_float Try.underlying22) (opensF_one rfl (by kernel_rfl) (opens_string Try.underlying9)))))
theorem open26 : Opens Try.prog k26 26 wf26 := opens_iso (fun x => ⟨x.1, x.2.1, x.2.2.1, x.2.2.2⟩) (fun _ => rfl) (fun x h => h) (opens_struct Try.underlying26 (by kernel_rfl) (opensF_cons rfl (by kernel_rfl) (of_decide_eq_true (by kernel_rfl)) (opens_string Try.underlying9) (opensF_cons rfl (by kernel_rfl) (of_decide_eq_true (by kernel_rfl)) open24 (opensF_cons rfl (by kernel_rfl) (of_decide_eq_true (by kernel_rfl)) (opens_int Try.underlying2) (opensF_one rfl (by kernel_rfl) open24)))))
set_option maxRecDepth 100000 in
theorem lifted (os : Os) (started : os.Started) (H : Type) (enc : TypeId × Value → H) :
    ReturnsInHanded {} Try.checked os 6 .any (Rows.cellShortSpec.pre6 enc Try.prog Try.f6 Rows.cellShortRow.domain false) (Rows.cellShortSpec.post enc Try.prog Try.f6 false true false false) := by
  refine returnsInHanded_of_change_sized (C := Try.checked) own started (by kernel_rfl) Try.func6
    (ChangeSpec.witness6 (enc := enc) (C := Try.checked) false ⟨#[], #[.agg #[.string ByteArray.empty, .int .i64 0, .float .f64 0, .string ByteArray.empty, .int .i64 0, .int .i64 0, .float .f64 0, .string ByteArray.empty]], []⟩ 8 (by kernel_rfl) (by kernel_rfl) (by kernel_rfl) (by kernel_rfl)) ?_
  intro W base args ds gs before hval0 hW hcnd hsz0 _
  have hval : ∀ (j : Nat) t v, Try.f6.params[j]? = some t → args[j]? = some v → Value.okWide Try.prog W .any base t v := hval0
  have hW' := hW
  obtain ⟨p, q, hA0, hV, rfl, hfz, hnd⟩ := hW
  have hA : DataW.TrodAll enc Try.prog W 0 (fun _ => true) true Try.f6.params.toList args.toList ds p := hA0
  rw [Try.params6] at hA hval
  obtain ⟨v0, vs0, d0, ds0, p0, q0, hargs, rfl, rfl, h0, r0⟩ := trodAll_cons hA
  obtain ⟨rfl, rfl, rfl⟩ := trodAll_nil r0
  obtain rfl : args = #[v0] := by cases args; simp_all
  obtain ⟨rfl, rfl⟩ := trodVars_none hV
  have k0 := h0
  have lt0 : ∀ x ∈ p0, x.block < W.heap.size := by obtain ⟨m, hm⟩ := k0; exact DataW.trod_lt m _ _ _ hm
  obtain ⟨x0, cs0, rfl, hK0, w0⟩ := arg_struct Try.underlying26 open26 (hval 0 26 v0 rfl rfl) h0
  obtain rfl := k26_open hK0
  clear hA0 hval0 hsz0
  obtain ⟨k, h⟩ := Pure.CellShort x0 w0
  refine (engrosslaw10_CellShort.calls k x0.f0 x0.f1.f0 x0.f1.f1 x0.f1.f2 x0.f2 x0.f3.f0 x0.f3.f1 x0.f3.f2 true W  h).mono fun e W' ⟨he, bel_⟩ => ?_
  have bel : Below W.heap.size W W' := bel_
  subst he
  exact ⟨_, rfl, _, _, _, [], _, [], hW', trodAll_mk1 (shut_bool Try.underlying4 _), (trodAll_cons_mk (Below.trod laidOut (by kernel_rfl) (of_decide_eq_true (by kernel_rfl)) k0 bel lt0) trodAll_mk0), rfl, bel.frame _, fun h => by cases h⟩
theorem over : Rows.cellShortRow.holds Try.pinned (OpenSpec.ofChange Rows.cellShortSpec) :=
  OpenClaim.holds_of_wide 6 Try.f6 rfl rfl rfl rfl rfl rfl rfl ⟨rfl, rfl, rfl, rfl, rfl⟩ rfl rfl rfl rfl rfl (by kernel_rfl) Try.func6 (by kernel_rfl)
    (of_decide_eq_true (by kernel_rfl)) (by unfold Func.isWrapper; first | (rw [if_pos (by decide +kernel)]; kernel_rfl) | (rw [if_neg (by decide +kernel)]; exact ⟨rfl, rfl⟩))
    (fun os started H enc _ => lifted os started H enc)
theorem proved : Rows.CellShortSaid := over
#print axioms proved
end Go.Proofs.Ytjhbeaffcdkhcaa.cellShort
namespace Go.Proofs.Ytjhbeaffcdkhcaa
/-- The row, under a short name, for the claim. -/
theorem cellShort_holds : Rows.CellShortSaid := cellShort.proved
end Go.Proofs.Ytjhbeaffcdkhcaa
