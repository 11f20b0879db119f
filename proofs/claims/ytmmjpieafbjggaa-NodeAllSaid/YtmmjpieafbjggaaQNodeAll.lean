/- The law NodeAll returns true for every input: the words, the walks and the plain statement that its row needs. No condition. (Merged by a program of this session out of its own texts.) -/
import Derived.Test.YtmmjpieafbjggaaRows
import Derived.WalkKit
import Derived.ProofKit
import Derived.OpenShut
import Derived.ShutString
import Derived.ChangeOld
import Derived.Below
import Derived.SizedLaws
import Derived.ArgAppend
import Derived.BigQuiet
import Derived.ChangeArms
import Derived.ChangeSlices
import Derived.DataReads
import Derived.Deep.AppendLies
import Derived.Deep.CutBlock
import Derived.Deep.DeepCutAuto
import Derived.Deep.Draws
import Derived.Deep.LoopGhost
import Derived.Deep.OwnRows
import Derived.Deep.QuietTactic
import Derived.Deep.RegionHeld3
import Derived.KernelRfl
import Derived.Laws.BitsAllLaws
import Derived.Laws.BitsLemmas
import Derived.Laws.BytesArg
import Derived.Laws.Cover2
import Derived.Laws.Externs
import Derived.Laws.FloatArith
import Derived.Laws.IdiomCopy
import Derived.Laws.MakeOwn
import Derived.Laws.OwnMore
import Derived.Laws.Rows
import Derived.Laws.Slices
import Derived.Laws.StructEq
import Derived.Lib.AppendStr
import Derived.Lib.ConvBytes
import Derived.Maps.AppendAt
import Derived.OrdersHeld
import Derived.OwnWalk
import Derived.RowKit
import Derived.RowKit3
import Derived.Tactics
import Derived.Test.YtmmjpieafbjggaaProg
import Derived.WideLaws
import Derived.WideShapes
import Derived.Test.YtmmjpieafbjggaaQNodeAll8
import Derived.Test.YtmmjpieafbjggaaQNodeAll10
import Derived.Test.YtmmjpieafbjggaaQNodeAll11
section
namespace Go.Proofs.Ytmmjpieafbjggaa.nodeAll
open Go.ChangeShapes Go.WideShapes Go.ChangeAt Go.RowKit Go.Proofs.Ytmmjpieafbjggaa.P Go.Proofs.YtmmjpieafbjggaaW.PrintWords
open Go.ChangeMaps (open_string shut_string)
set_option linter.unusedVariables false
theorem own:ownKnob Try.prog.godebug=none:=by kernel_rfl
theorem laidOut:laidOutB Try.prog=true:=by kernel_rfl
set_option maxRecDepth 100000 in
theorem open54:Opens Try.prog k54 54 wf54:=opens_iso (fun x=>⟨x.1,x.2.1,x.2.2⟩) (fun _=>rfl) (fun x h=>h) (opens_struct Try.underlying54 (by kernel_rfl) (opensF_cons rfl (by kernel_rfl) (of_decide_eq_true (by kernel_rfl)) (opens_int Try.underlying3) (opensF_cons rfl (by kernel_rfl) (of_decide_eq_true (by kernel_rfl)) (opens_float Try.underlying52) (opensF_one rfl (by kernel_rfl) (opens_string Try.underlying9)))))
set_option maxRecDepth 100000 in
theorem open56:Opens Try.prog k56 56 wf56:=opens_iso (fun x=>⟨x.1,x.2.1,x.2.2.1,x.2.2.2⟩) (fun _=>rfl) (fun x h=>h) (opens_struct Try.underlying56 (by kernel_rfl) (opensF_cons rfl (by kernel_rfl) (of_decide_eq_true (by kernel_rfl)) (opens_string Try.underlying9) (opensF_cons rfl (by kernel_rfl) (of_decide_eq_true (by kernel_rfl)) open54 (opensF_cons rfl (by kernel_rfl) (of_decide_eq_true (by kernel_rfl)) (opens_int Try.underlying2) (opensF_one rfl (by kernel_rfl) open54)))))
set_option maxRecDepth 100000 in
theorem open26:Opens Try.prog k26 26 wf26:=opens_iso (fun x=>⟨x.1,x.2.1,x.2.2.1,x.2.2.2⟩) (fun _=>rfl) (fun x h=>h) (opens_struct Try.underlying26 (by kernel_rfl) (opensF_cons rfl (by kernel_rfl) (of_decide_eq_true (by kernel_rfl)) (opens_bool Try.underlying4) (opensF_cons rfl (by kernel_rfl) (of_decide_eq_true (by kernel_rfl)) (opens_slice 56 Try.underlying22 (by kernel_rfl) open56) (opensF_cons rfl (by kernel_rfl) (of_decide_eq_true (by kernel_rfl)) (opens_slice 9 Try.underlying23 (by kernel_rfl) (opens_string Try.underlying9)) (opensF_one rfl (by kernel_rfl) (opens_slice 3 Try.underlying24 (by kernel_rfl) (opens_int Try.underlying3)))))))
set_option maxRecDepth 100000 in
theorem lifted (os:Os) (started:os.Started) (H:Type) (enc:TypeId × Value→H) :
    ReturnsInHanded {} Try.checked os 3 .any (Rows.nodeAllSpec.pre6 enc Try.prog Try.f3 Rows.nodeAllRow.domain false) (Rows.nodeAllSpec.post enc Try.prog Try.f3 false true false false):=by
  refine returnsInHanded_of_change_sized (C:=Try.checked) own started (by kernel_rfl) Try.func3
    (ChangeSpec.witness6 (enc:=enc) (C:=Try.checked) false ⟨#[],#[.agg #[.bool false,.slice none 0 0,.slice none 0 0,.slice none 0 0],.string ByteArray.empty],[]⟩ 8 (by kernel_rfl) (by kernel_rfl) (by kernel_rfl) (by kernel_rfl)) ?_
  intro W base args ds gs before hval0 hW hcnd hsz0 _
  have hval:∀ (j:Nat) t v,Try.f3.params[j]? = some t→args[j]? = some v→Value.okWide Try.prog W .any base t v:=hval0
  have hW':=hW
  obtain⟨p,q,hA0,hV,rfl,hfz,hnd⟩:=hW
  have hA:DataW.TrodAll enc Try.prog W 0 (fun _=>true) true Try.f3.params.toList args.toList ds p:=hA0
  rw [Try.params3] at hA hval
  obtain⟨v0,vs0,d0,ds0,p0,q0,hargs,rfl,rfl,h0,r0⟩:=trodAll_cons hA
  obtain⟨v1,vs1,d1,ds1,p1,q1,rfl,rfl,rfl,h1,r1⟩:=trodAll_cons r0
  obtain⟨rfl,rfl,rfl⟩:=trodAll_nil r1
  obtain rfl:args = #[v0,v1]:=by cases args;simp_all
  obtain⟨rfl,rfl⟩:=trodVars_none hV
  have k0:=h0
  have lt0:∀ x∈p0,x.block<W.heap.size:=by obtain⟨m,hm⟩:=k0;exact DataW.trod_lt m _ _ _ hm
  obtain⟨x0,cs0,rfl,hK0,w0⟩:=arg_struct Try.underlying26 open26 (hval 0 26 v0 rfl rfl) h0
  obtain⟨A0_1,c0_1,A0_2,c0_2,A0_3,c0_3,rfl,hl0_1,hC0_1,hl0_2,hC0_2,hl0_3,hC0_3⟩:=k26_open hK0
  obtain⟨a1,rfl,rfl,rfl,w1⟩:=open_string Try.underlying9 (hval 1 9 v1 rfl rfl) h1
  clear hA0 hval0 hsz0
  obtain⟨k,h⟩:=Pure.NodeAll x0 a1 w0 w1
  refine (engrosslaw11_NodeAll.calls k x0.f0 A0_1 c0_1 x0.f1 A0_2 c0_2 x0.f2 A0_3 c0_3 x0.f3 a1 true W hC0_1 hl0_1 hC0_2 hl0_2 hC0_3 hl0_3 h).mono fun e W' ⟨he,bel_⟩=>?_
  have bel:Below W.heap.size W W':=bel_
  subst he
  exact⟨_,rfl,_,_,_,[],_,[],hW',trodAll_mk1 (shut_bool Try.underlying4 _),(trodAll_cons_mk (Below.trod laidOut (by kernel_rfl) (of_decide_eq_true (by kernel_rfl)) k0 bel lt0) (trodAll_cons_mk (shut_string Try.underlying9 w1) trodAll_mk0)),rfl,bel.frame _,fun h=>by cases h⟩
theorem over:Rows.nodeAllRow.holds Try.pinned (OpenSpec.ofChange Rows.nodeAllSpec) :=
  OpenClaim.holds_of_wide 3 Try.f3 rfl rfl rfl rfl rfl rfl rfl ⟨rfl,rfl,rfl,rfl,rfl⟩ rfl rfl rfl rfl rfl (by kernel_rfl) Try.func3 (by kernel_rfl)
    (of_decide_eq_true (by kernel_rfl)) (by unfold Func.isWrapper;first|(rw [if_pos (by decide +kernel)];kernel_rfl)|(rw [if_neg (by decide +kernel)];exact⟨rfl,rfl⟩))
    (fun os started H enc _=>lifted os started H enc)
theorem proved:Rows.NodeAllSaid:=over
end Go.Proofs.Ytmmjpieafbjggaa.nodeAll
namespace Go.Proofs.Ytmmjpieafbjggaa
/-- The row, under a short name, for the claim. -/
theorem nodeAll_holds:Rows.NodeAllSaid:=nodeAll.proved
end Go.Proofs.Ytmmjpieafbjggaa
end
