/- The law NodeOrder returns true for every input: the words, the walks and the plain statement that its row needs. No condition. (Merged by a program of this session out of its own texts.) -/
import Derived.Test.YtmmjpieafbjggaaRows
import Derived.WalkKit
import Derived.ProofKit
import Derived.OpenShut
import Derived.ShutString
import Derived.ChangeOld
import Derived.Below
import Derived.SizedLaws
import Derived.ArgAppend
import Derived.BigQuiet
import Derived.ChangeArms
import Derived.ChangeSlices
import Derived.DataReads
import Derived.Deep.AppendLies
import Derived.Deep.CutBlock
import Derived.Deep.DeepCutAuto
import Derived.Deep.Draws
import Derived.Deep.LoopGhost
import Derived.Deep.OwnRows
import Derived.Deep.QuietTactic
import Derived.Deep.RegionHeld3
import Derived.KernelRfl
import Derived.Laws.BitsAllLaws
import Derived.Laws.BitsLemmas
import Derived.Laws.BytesArg
import Derived.Laws.Cover2
import Derived.Laws.Externs
import Derived.Laws.FloatArith
import Derived.Laws.IdiomCopy
import Derived.Laws.MakeOwn
import Derived.Laws.OwnMore
import Derived.Laws.Rows
import Derived.Laws.Slices
import Derived.Laws.StructEq
import Derived.Lib.AppendStr
import Derived.Lib.ConvBytes
import Derived.Maps.AppendAt
import Derived.OrdersHeld
import Derived.OwnWalk
import Derived.RowKit
import Derived.RowKit3
import Derived.Tactics
import Derived.Test.YtmmjpieafbjggaaProg
import Derived.WideLaws
import Derived.WideShapes
import Derived.Test.YtmmjpieafbjggaaQNodeOrder7
import Derived.Test.YtmmjpieafbjggaaQNodeOrder9
import Derived.Test.YtmmjpieafbjggaaQNodeOrder10
section
namespace Go.Proofs.Ytmmjpieafbjggaa.nodeOrder
open Go.ChangeShapes Go.WideShapes Go.ChangeAt Go.RowKit Go.Proofs.Ytmmjpieafbjggaa.P Go.Proofs.YtmmjpieafbjggaaW.PrintWords
open Go.ChangeMaps (open_string shut_string)
set_option linter.unusedVariables false
theorem own:ownKnob Try.prog.godebug=none:=by kernel_rfl
theorem laidOut:laidOutB Try.prog=true:=by kernel_rfl
set_option maxRecDepth 100000 in
theorem open54:Opens Try.prog k54 54 wf54:=opens_iso (fun x=>⟨x.1,x.2.1,x.2.2⟩) (fun _=>rfl) (fun x h=>h) (opens_struct Try.underlying54 (by kernel_rfl) (opensF_cons rfl (by kernel_rfl) (of_decide_eq_true (by kernel_rfl)) (opens_int Try.underlying3) (opensF_cons rfl (by kernel_rfl) (of_decide_eq_true (by kernel_rfl)) (opens_float Try.underlying52) (opensF_one rfl (by kernel_rfl) (opens_string Try.underlying9)))))
set_option maxRecDepth 100000 in
theorem open56:Opens Try.prog k56 56 wf56:=opens_iso (fun x=>⟨x.1,x.2.1,x.2.2.1,x.2.2.2⟩) (fun _=>rfl) (fun x h=>h) (opens_struct Try.underlying56 (by kernel_rfl) (opensF_cons rfl (by kernel_rfl) (of_decide_eq_true (by kernel_rfl)) (opens_string Try.underlying9) (opensF_cons rfl (by kernel_rfl) (of_decide_eq_true (by kernel_rfl)) open54 (opensF_cons rfl (by kernel_rfl) (of_decide_eq_true (by kernel_rfl)) (opens_int Try.underlying2) (opensF_one rfl (by kernel_rfl) open54)))))
set_option maxRecDepth 100000 in
theorem open26:Opens Try.prog k26 26 wf26:=opens_iso (fun x=>⟨x.1,x.2.1,x.2.2.1,x.2.2.2⟩) (fun _=>rfl) (fun x h=>h) (opens_struct Try.underlying26 (by kernel_rfl) (opensF_cons rfl (by kernel_rfl) (of_decide_eq_true (by kernel_rfl)) (opens_bool Try.underlying4) (opensF_cons rfl (by kernel_rfl) (of_decide_eq_true (by kernel_rfl)) (opens_slice 56 Try.underlying22 (by kernel_rfl) open56) (opensF_cons rfl (by kernel_rfl) (of_decide_eq_true (by kernel_rfl)) (opens_slice 9 Try.underlying23 (by kernel_rfl) (opens_string Try.underlying9)) (opensF_one rfl (by kernel_rfl) (opens_slice 3 Try.underlying24 (by kernel_rfl) (opens_int Try.underlying3)))))))
set_option maxRecDepth 100000 in
theorem lifted (os:Os) (started:os.Started) (H:Type) (enc:TypeId × Value→H) :
    ReturnsInHanded {} Try.checked os 9 .any (Rows.nodeOrderSpec.pre6 enc Try.prog Try.f9 Rows.nodeOrderRow.domain false) (Rows.nodeOrderSpec.post enc Try.prog Try.f9 false true false false):=by
  refine returnsInHanded_of_change_sized (C:=Try.checked) own started (by kernel_rfl) Try.func9
    (ChangeSpec.witness6 (enc:=enc) (C:=Try.checked) false ⟨#[],#[.agg #[.bool false,.slice none 0 0,.slice none 0 0,.slice none 0 0],.int .i64 0,.int .i64 0],[]⟩ 8 (by kernel_rfl) (by kernel_rfl) (by kernel_rfl) (by kernel_rfl)) ?_
  intro W base args ds gs before hval0 hW hcnd hsz0 _
  have hval:∀ (j:Nat) t v,Try.f9.params[j]? = some t→args[j]? = some v→Value.okWide Try.prog W .any base t v:=hval0
  have hW':=hW
  obtain⟨p,q,hA0,hV,rfl,hfz,hnd⟩:=hW
  have hA:DataW.TrodAll enc Try.prog W 0 (fun _=>true) true Try.f9.params.toList args.toList ds p:=hA0
  rw [Try.params9] at hA hval
  obtain⟨v0,vs0,d0,ds0,p0,q0,hargs,rfl,rfl,h0,r0⟩:=trodAll_cons hA
  obtain⟨v1,vs1,d1,ds1,p1,q1,rfl,rfl,rfl,h1,r1⟩:=trodAll_cons r0
  obtain⟨v2,vs2,d2,ds2,p2,q2,rfl,rfl,rfl,h2,r2⟩:=trodAll_cons r1
  obtain⟨rfl,rfl,rfl⟩:=trodAll_nil r2
  obtain rfl:args = #[v0,v1,v2]:=by cases args;simp_all
  obtain⟨rfl,rfl⟩:=trodVars_none hV
  have k0:=h0
  have lt0:∀ x∈p0,x.block<W.heap.size:=by obtain⟨m,hm⟩:=k0;exact DataW.trod_lt m _ _ _ hm
  obtain⟨x0,cs0,rfl,hK0,w0⟩:=arg_struct Try.underlying26 open26 (hval 0 26 v0 rfl rfl) h0
  obtain⟨A0_1,c0_1,A0_2,c0_2,A0_3,c0_3,rfl,hl0_1,hC0_1,hl0_2,hC0_2,hl0_3,hC0_3⟩:=k26_open hK0
  obtain⟨a1,rfl,rfl,rfl,w1⟩:=open_int Try.underlying3 (hval 1 3 v1 rfl rfl) h1
  obtain⟨a2,rfl,rfl,rfl,w2⟩:=open_int Try.underlying3 (hval 2 3 v2 rfl rfl) h2
  clear hA0 hval0 hsz0
  obtain⟨k,h⟩:=Pure.NodeOrder x0 a1 a2 w0 w1 w2
  refine (engrosslaw11_NodeOrder.calls k x0.f0 A0_1 c0_1 x0.f1 A0_2 c0_2 x0.f2 A0_3 c0_3 x0.f3 a1 a2 true W hC0_1 hl0_1 hC0_2 hl0_2 hC0_3 hl0_3 h).mono fun e W' ⟨he,bel_⟩=>?_
  have bel:Below W.heap.size W W':=bel_
  subst he
  exact⟨_,rfl,_,_,_,[],_,[],hW',trodAll_mk1 (shut_bool Try.underlying4 _),(trodAll_cons_mk (Below.trod laidOut (by kernel_rfl) (of_decide_eq_true (by kernel_rfl)) k0 bel lt0) (trodAll_cons_mk (shut_int Try.underlying3 w1) (trodAll_cons_mk (shut_int Try.underlying3 w2) trodAll_mk0))),rfl,bel.frame _,fun h=>by cases h⟩
theorem over:Rows.nodeOrderRow.holds Try.pinned (OpenSpec.ofChange Rows.nodeOrderSpec) :=
  OpenClaim.holds_of_wide 9 Try.f9 rfl rfl rfl rfl rfl rfl rfl ⟨rfl,rfl,rfl,rfl,rfl⟩ rfl rfl rfl rfl rfl (by kernel_rfl) Try.func9 (by kernel_rfl)
    (of_decide_eq_true (by kernel_rfl)) (by unfold Func.isWrapper;first|(rw [if_pos (by decide +kernel)];kernel_rfl)|(rw [if_neg (by decide +kernel)];exact⟨rfl,rfl⟩))
    (fun os started H enc _=>lifted os started H enc)
theorem proved:Rows.NodeOrderSaid:=over
end Go.Proofs.Ytmmjpieafbjggaa.nodeOrder
namespace Go.Proofs.Ytmmjpieafbjggaa
/-- The row, under a short name, for the claim. -/
theorem nodeOrder_holds:Rows.NodeOrderSaid:=nodeOrder.proved
end Go.Proofs.Ytmmjpieafbjggaa
end
