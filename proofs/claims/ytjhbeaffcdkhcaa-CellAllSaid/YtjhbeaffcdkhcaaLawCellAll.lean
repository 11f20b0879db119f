/- The law engrosslaw10_CellAll returns true for every input; its row, out of the walk and the plain statement. No condition. (Lines written by a generator of this session.) -/
import Derived.Test.YtjhbeaffcdkhcaaRows
import Derived.Test.YtjhbeaffcdkhcaaPx7
import Derived.Test.YtjhbeaffcdkhcaaPureCellAll
import Derived.Test.YtjhbeaffcdkhcaaXO
import Derived.WalkKit
import Derived.ProofKit
import Derived.OpenShut
import Derived.ShutString
import Derived.ChangeOld
import Derived.Below
import Derived.SizedLaws
namespace Go.Proofs.Ytjhbeaffcdkhcaa.cellAll
open Go.ChangeShapes Go.WideShapes Go.ChangeAt Go.RowKit Go.Proofs.Ytjhbeaffcdkhcaa.P Go.Proofs.YtjhbeaffcdkhcaaW.PrintWords
open Go.ChangeMaps (open_string shut_string)
set_option linter.unusedVariables false
theorem own : ownKnob Try.prog.godebug = none := by kernel_rfl
theorem laidOut : laidOutB Try.prog = true := by kernel_rfl
theorem open24 : Opens Try.prog k24 24 wf24 := opens_iso (fun x => ⟨x.1, x.2.1, x.2.2⟩) (fun _ => rfl) (fun x h => h) (opens_struct Try.underlying24 (by kernel_rfl) (opensF_cons rfl (by kernel_rfl) (of_decide_eq_true (by kernel_rfl)) (opens_int Try.underlying3) (opensF_cons rfl (by kernel_rfl) (of_decide_eq_true (by kernel_rfl)) (opens_float Try.underlying22) (opensF_one rfl (by kernel_rfl) (opens_string Try.underlying9)))))
theorem open26 : Opens Try.prog k26 26 wf26 := opens_iso (fun x => ⟨x.1, x.2.1, x.2.2.1, x.2.2.2⟩) (fun _ => rfl) (fun x h => h) (opens_struct Try.underlying26 (by kernel_rfl) (opensF_cons rfl (by kernel_rfl) (of_decide_eq_true (by kernel_rfl)) (opens_string Try.underlying9) (opensF_cons rfl (by kernel_rfl) (of_decide_eq_true (by kernel_rfl)) open24 (opensF_cons rfl (by kernel_rfl) (of_decide_eq_true (by kernel_rfl)) (opens_int Try.underlying2) (opensF_one rfl (by kernel_rfl) open24)))))
set_option maxRecDepth 100000 in
theorem lifted (os : Os) (started : os.Started) (H : Type) (enc : TypeId × Value → H) :
    ReturnsInHanded {} Try.checked os 3 .any (Rows.cellAllSpec.pre6 enc Try.prog Try.f3 Rows.cellAllRow.domain false) (Rows.cellAllSpec.post enc Try.prog Try.f3 false true false false) := by
  refine returnsInHanded_of_change_sized (C := Try.checked) own started (by kernel_rfl) Try.func3
    (ChangeSpec.witness6 (enc := enc) (C := Try.checked) false ⟨#[], #[.agg #[.string ByteArray.empty, .int .i64 0, .float .f64 0, .string ByteArray.empty, .int .i64 0, .int .i64 0, .float .f64 0, .string ByteArray.empty], .agg #[.string ByteArray.empty, .int .i64 0, .float .f64 0, .string ByteArray.empty, .int .i64 0, .int .i64 0, .float .f64 0, .string ByteArray.empty], .int .i64 0, .agg #[.int .i64 0, .float .f64 0, .string ByteArray.empty]], []⟩ 8 (by kernel_rfl) (by kernel_rfl) (by kernel_rfl) (by kernel_rfl)) ?_
  intro W base args ds gs before hval0 hW hcnd hsz0 _
  have hval : ∀ (j : Nat) t v, Try.f3.params[j]? = some t → args[j]? = some v → Value.okWide Try.prog W .any base t v := hval0
  have hW' := hW
  obtain ⟨p, q, hA0, hV, rfl, hfz, hnd⟩ := hW
  have hA : DataW.TrodAll enc Try.prog W 0 (fun _ => true) true Try.f3.params.toList args.toList ds p := hA0
  rw [Try.params3] at hA hval
  obtain ⟨v0, vs0, d0, ds0, p0, q0, hargs, rfl, rfl, h0, r0⟩ := trodAll_cons hA
  obtain ⟨v1, vs1, d1, ds1, p1, q1, rfl, rfl, rfl, h1, r1⟩ := trodAll_cons r0
  obtain ⟨v2, vs2, d2, ds2, p2, q2, rfl, rfl, rfl, h2, r2⟩ := trodAll_cons r1
  obtain ⟨v3, vs3, d3, ds3, p3, q3, rfl, rfl, rfl, h3, r3⟩ := trodAll_cons r2
  obtain ⟨rfl, rfl, rfl⟩ := trodAll_nil r3
  obtain rfl : args = #[v0, v1, v2, v3] := by cases args; simp_all
  obtain ⟨rfl, rfl⟩ := trodVars_none hV
  have k0 := h0
  have lt0 : ∀ x ∈ p0, x.block < W.heap.size := by obtain ⟨m, hm⟩ := k0; exact DataW.trod_lt m _ _ _ hm
  obtain ⟨x0, cs0, rfl, hK0, w0⟩ := arg_struct Try.underlying26 open26 (hval 0 26 v0 rfl rfl) h0
  obtain rfl := k26_open hK0
  have k1 := h1
  have lt1 : ∀ x ∈ p1, x.block < W.heap.size := by obtain ⟨m, hm⟩ := k1; exact DataW.trod_lt m _ _ _ hm
  obtain ⟨x1, cs1, rfl, hK1, w1⟩ := arg_struct Try.underlying26 open26 (hval 1 26 v1 rfl rfl) h1
  obtain rfl := k26_open hK1
  obtain ⟨a2, rfl, rfl, rfl, w2⟩ := open_int Try.underlying2 (hval 2 2 v2 rfl rfl) h2
  have k3 := h3
  have lt3 : ∀ x ∈ p3, x.block < W.heap.size := by obtain ⟨m, hm⟩ := k3; exact DataW.trod_lt m _ _ _ hm
  obtain ⟨x3, cs3, rfl, hK3, w3⟩ := arg_struct Try.underlying24 open24 (hval 3 24 v3 rfl rfl) h3
  obtain rfl := k24_open hK3
  clear hA0 hval0 hsz0
  obtain ⟨k, h⟩ := Pure.CellAll x0 x1 a2 x3 w0 w1 w2 w3
  refine (engrosslaw10_CellAll.calls k x0.f0 x0.f1.f0 x0.f1.f1 x0.f1.f2 x0.f2 x0.f3.f0 x0.f3.f1 x0.f3.f2 x1.f0 x1.f1.f0 x1.f1.f1 x1.f1.f2 x1.f2 x1.f3.f0 x1.f3.f1 x1.f3.f2 a2 x3.f0 x3.f1 x3.f2 true W  h).mono fun e W' ⟨he, bel_⟩ => ?_
  have bel : Below W.heap.size W W' := bel_
  subst he
  exact ⟨_, rfl, _, _, _, [], _, [], hW', trodAll_mk1 (shut_bool Try.underlying4 _), (trodAll_cons_mk (Below.trod laidOut (by kernel_rfl) (of_decide_eq_true (by kernel_rfl)) k0 bel lt0) (trodAll_cons_mk (Below.trod laidOut (by kernel_rfl) (of_decide_eq_true (by kernel_rfl)) k1 bel lt1) (trodAll_cons_mk (shut_int Try.underlying2 w2) (trodAll_cons_mk (Below.trod laidOut (by kernel_rfl) (of_decide_eq_true (by kernel_rfl)) k3 bel lt3) trodAll_mk0)))), rfl, bel.frame _, fun h => by cases h⟩
theorem over : Rows.cellAllRow.holds Try.pinned (OpenSpec.ofChange Rows.cellAllSpec) :=
  OpenClaim.holds_of_wide 3 Try.f3 rfl rfl rfl rfl rfl rfl rfl ⟨rfl, rfl, rfl, rfl, rfl⟩ rfl rfl rfl rfl rfl (by kernel_rfl) Try.func3 (by kernel_rfl)
    (of_decide_eq_true (by kernel_rfl)) (by unfold Func.isWrapper; first | (rw [if_pos (by decide +kernel)]; kernel_rfl) | (rw [if_neg (by decide +kernel)]; exact ⟨rfl, rfl⟩))
    (fun os started H enc _ => lifted os started H enc)
theorem proved : Rows.CellAllSaid := over
#print axioms proved
end Go.Proofs.Ytjhbeaffcdkhcaa.cellAll
namespace Go.Proofs.Ytjhbeaffcdkhcaa
/-- The row, under a short name, for the claim. -/
theorem cellAll_holds : Rows.CellAllSaid := cellAll.proved
end Go.Proofs.Ytjhbeaffcdkhcaa
