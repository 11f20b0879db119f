/- The law NodeAll returns true for every input: the words, the walks and the plain statement that its row needs. No condition. (Merged by a program of this session out of its own texts.) -/
import Derived.ArgAppend
import Derived.Below
import Derived.BigQuiet
import Derived.Deep.AppendLies
import Derived.Deep.CutBlock
import Derived.Deep.DeepCutAuto
import Derived.Deep.Draws
import Derived.Deep.LoopGhost
import Derived.Deep.OwnRows
import Derived.Deep.QuietTactic
import Derived.Deep.RegionHeld3
import Derived.KernelRfl
import Derived.Laws.BitsLemmas
import Derived.Laws.BytesArg
import Derived.Laws.Cover2
import Derived.Laws.Externs
import Derived.Laws.FloatArith
import Derived.Laws.IdiomCopy
import Derived.Laws.MakeOwn
import Derived.Laws.OwnMore
import Derived.Laws.Rows
import Derived.Laws.Slices
import Derived.Laws.StructEq
import Derived.Lib.AppendStr
import Derived.Lib.ConvBytes
import Derived.Maps.AppendAt
import Derived.OrdersHeld
import Derived.OwnWalk
import Derived.RowKit
import Derived.RowKit3
import Derived.Tactics
import Derived.Test.YtmmjpieafbjggaaProg
import Derived.WalkKit
import Derived.WideLaws
import Derived.Test.YtmmjpieafbjggaaQNodeAll4
import Derived.Test.YtmmjpieafbjggaaQNodeAll5
import Derived.Test.YtmmjpieafbjggaaQNodeAll6
import Derived.Test.YtmmjpieafbjggaaQNodeAll7
section
namespace Go.Proofs.Ytmmjpieafbjggaa.P
open Go.RowKit Go.Proofs.YtmmjpieafbjggaaW.PrintWords Go.Proofs.YtmmjpieafbjggaaW.PrintLast Go.Proofs.YtmmjpieafbjggaaW.PrintMore
attribute [local go_sem] max2_int min2_int max_two min_two max_three min_three max_four min_four   -- for this text's walks alone
attribute [local go_sem] x_str_gtr x_str_leq x_str_geq ext_bits ext_frombits ext_neg x_store_float Instr.field asAgg
set_option linter.unusedVariables false
set_option linter.unusedSimpArgs false
mutual
def engrossref10_EqNode.j0:Nat→Bool→Bool→List (S56)→List ByteArray→List Int→Bool→List (S56)→List ByteArray→List Int→Option (Bool)
 | 0,_,_,_,_,_,_,_,_,_=>none
 | k+1,x39,x527000,x527001,x527002,x527003,x528000,x528001,x528002,x528003=>if x39=true then (some false) else (engrossref10_EqNode.l0 k 0 x527000 x527001 x527002 x527003 x528000 x528001 x528002 x528003)
def engrossref10_EqNode.l0:Nat→Int→Bool→List (S56)→List ByteArray→List Int→Bool→List (S56)→List ByteArray→List Int→Option (Bool)
 | 0,_,_,_,_,_,_,_,_,_=>none
 | k+1,x5,x527000,x527001,x527002,x527003,x528000,x528001,x528002,x528003=>if x5<(x527001.length:Int) then (if 0≤x5 then (if x5<(x528001.length:Int) then ((engrossref10_Eq.f ((rd_T56 x527001 x5).f0) ((rd_T56 x527001 x5).f1.f0) ((rd_T56 x527001 x5).f1.f1) ((rd_T56 x527001 x5).f1.f2) ((rd_T56 x527001 x5).f2) ((rd_T56 x527001 x5).f3.f0) ((rd_T56 x527001 x5).f3.f1) ((rd_T56 x527001 x5).f3.f2) ((rd_T56 x528001 x5).f0) ((rd_T56 x528001 x5).f1.f0) ((rd_T56 x528001 x5).f1.f1) ((rd_T56 x528001 x5).f1.f2) ((rd_T56 x528001 x5).f2) ((rd_T56 x528001 x5).f3.f0) ((rd_T56 x528001 x5).f3.f1) ((rd_T56 x528001 x5).f3.f2)).bind fun t530=>(if t530=true then (engrossref10_EqNode.l0 k (wrap64 (x5+1)) x527000 x527001 x527002 x527003 x528000 x528001 x528002 x528003) else (some false))) else (none)) else (none)) else (engrossref10_EqNode.l1 k 0 x527000 x527001 x527002 x527003 x528000 x528001 x528002 x528003)
def engrossref10_EqNode.l1:Nat→Int→Bool→List (S56)→List ByteArray→List Int→Bool→List (S56)→List ByteArray→List Int→Option (Bool)
 | 0,_,_,_,_,_,_,_,_,_=>none
 | k+1,x6,x527000,x527001,x527002,x527003,x528000,x528001,x528002,x528003=>if x6<(x527002.length:Int) then (if 0≤x6 then (if x6<(x528002.length:Int) then (if (rdOf ByteArray.empty x527002 x6).toList=(rdOf ByteArray.empty x528002 x6).toList then (engrossref10_EqNode.l1 k (wrap64 (x6+1)) x527000 x527001 x527002 x527003 x528000 x528001 x528002 x528003) else (some false)) else (none)) else (none)) else (engrossref10_EqNode.l2 k 0 x527000 x527001 x527002 x527003 x528000 x528001 x528002 x528003)
def engrossref10_EqNode.l2:Nat→Int→Bool→List (S56)→List ByteArray→List Int→Bool→List (S56)→List ByteArray→List Int→Option (Bool)
 | 0,_,_,_,_,_,_,_,_,_=>none
 | k+1,x7,x527000,x527001,x527002,x527003,x528000,x528001,x528002,x528003=>if x7<(x527003.length:Int) then (if 0≤x7 then (if x7<(x528003.length:Int) then (if (rd x527003 x7)=(rd x528003 x7) then (engrossref10_EqNode.l2 k (wrap64 (x7+1)) x527000 x527001 x527002 x527003 x528000 x528001 x528002 x528003) else (some false)) else (none)) else (none)) else (some true)
end
def engrossref10_EqNode.f (k:Nat) (a0_0:Bool) (l0_1:List (S56)) (l0_2:List ByteArray) (l0_3:List Int) (a1_0:Bool) (l1_1:List (S56)) (l1_2:List ByteArray) (l1_3:List Int):Option (Bool):=if (a0_0 != a1_0)=true then (engrossref10_EqNode.j0 k true a0_0 l0_1 l0_2 l0_3 a1_0 l1_1 l1_2 l1_3) else (if (l0_1.length:Int)=(l1_1.length:Int) then (if (l0_2.length:Int)=(l1_2.length:Int) then (engrossref10_EqNode.j0 k ((l0_3.length:Int) != (l1_3.length:Int)) a0_0 l0_1 l0_2 l0_3 a1_0 l1_1 l1_2 l1_3) else (engrossref10_EqNode.j0 k true a0_0 l0_1 l0_2 l0_3 a1_0 l1_1 l1_2 l1_3)) else (engrossref10_EqNode.j0 k true a0_0 l0_1 l0_2 l0_3 a1_0 l1_1 l1_2 l1_3))
def engrossref10_EqNode.T6:Bool × List (List Nat × List Nat):=(true,[([],[]),([0],[0]),([],[]),([1,2],[1,2]),([3],[3]),([],[]),([5],[5]),([],[]),([6,7],[6,7]),([8],[8]),([4,9],[4,9]),([10],[10])])
def engrossref10_EqNode.B6:List Nat:=[0,1,0,7,15,0,32,0,224,480,1023,2047]
theorem engrossref10_EqNode.tab6:rtab .any (opsOf Try.f23 6)=engrossref10_EqNode.T6:=by kernel_rfl
theorem engrossref10_EqNode.bits6:waitsOk engrossref10_EqNode.T6.2 engrossref10_EqNode.B6=true:=by kernel_rfl
def engrossref10_EqNode.T11:Bool × List (List Nat × List Nat):=(true,[([],[]),([0],[0]),([],[]),([1,2],[1,2]),([3],[3]),([],[]),([5],[5]),([],[]),([6,7],[6,7]),([8],[8]),([4,9],[4,9])])
def engrossref10_EqNode.B11:List Nat:=[0,1,0,7,15,0,32,0,224,480,1023]
theorem engrossref10_EqNode.tab11:rtab .any (opsOf Try.f23 11)=engrossref10_EqNode.T11:=by kernel_rfl
theorem engrossref10_EqNode.bits11:waitsOk engrossref10_EqNode.T11.2 engrossref10_EqNode.B11=true:=by kernel_rfl
def engrossref10_EqNode.T16:Bool × List (List Nat × List Nat):=(true,[([],[]),([0],[0]),([],[]),([1,2],[1,2]),([3],[3]),([],[]),([5],[5]),([],[]),([6,7],[6,7]),([8],[8]),([4,9],[4,9])])
def engrossref10_EqNode.B16:List Nat:=[0,1,0,7,15,0,32,0,224,480,1023]
theorem engrossref10_EqNode.tab16:rtab .any (opsOf Try.f23 16)=engrossref10_EqNode.T16:=by kernel_rfl
theorem engrossref10_EqNode.bits16:waitsOk engrossref10_EqNode.T16.2 engrossref10_EqNode.B16=true:=by kernel_rfl
set_option maxHeartbeats 8000000 in
set_option maxRecDepth 100000 in
theorem engrossref10_EqNode.calls (k:Nat) (ar:Bool) (bh:Option Addr) (aZ:Nat) (ab:List (S56)) (bi:Option Addr) (ba:Nat) (ag:List ByteArray) (bj:Option Addr) (bb:Nat) (ak:List Int) (au:Bool) (bk:Option Addr) (bc:Nat) (ac:List (S56)) (bl:Option Addr) (bf:Nat) (ah:List ByteArray) (bm:Option Addr) (bg:Nat) (ao:List Int) (r:Bool) (w:World) (ex:Kd.C k56 w bh ab.length ab) (ey:ab.length≤aZ) (ez:Kd.C Kd.string w bi ag.length ag) (eA:ag.length≤ba) (eB:Kd.C (Kd.int .i64) w bj ak.length ak) (eC:ak.length≤bb) (eD:Kd.C k56 w bk ac.length ac) (eE:ac.length≤bc) (eF:Kd.C Kd.string w bl ah.length ah) (eG:ah.length≤bf) (eH:Kd.C (Kd.int .i64) w bm ao.length ao) (eI:ao.length≤bg) (h:engrossref10_EqNode.f k ar ab ag ak au ac ah ao=some r) :
  Calls Try.prog 23 #[.agg #[.bool ar,.slice bh ab.length aZ,.slice bi ag.length ba,.slice bj ak.length bb],.agg #[.bool au,.slice bk ac.length bc,.slice bl ah.length bf,.slice bm ao.length bg]] w fun e w'=>e = .returned (.bool r)∧Below w.heap.size w w':=by
 have hu26:=Try.underlying26
 have hu56:=Try.underlying56
 have eJ:=aK ex
 have f6:=aK ey
 clear ex ey
 have eK:=aK ez
 have f7:=aK eA
 clear ez eA
 have eL:=aK eB
 have f8:=aK eC
 clear eB eC
 have eM:=aK eD
 have f9:=aK eE
 clear eD eE
 have eN:=aK eF
 have ga:=aK eG
 clear eF eG
 have eO:=aK eH
 have gb:=aK eI
 clear eH eI
 have HB:=aK (Below.refl w.heap.size w)
 have H:(if (ar != au)=true then (engrossref10_EqNode.j0 k true ar ab ag ak au ac ah ao) else (if (ab.length:Int)=(ac.length:Int) then (if (ag.length:Int)=(ah.length:Int) then (engrossref10_EqNode.j0 k ((ak.length:Int) != (ao.length:Int)) ar ab ag ak au ac ah ao) else (engrossref10_EqNode.j0 k true ar ab ag ak au ac ah ao)) else (engrossref10_EqNode.j0 k true ar ab ag ak au ac ah ao)))=some r:=h
 clear h
 have HC3:=aK H
 clear H
 go_enter Try.func23,Try.ntmps23
 go_upto_region 1 with (first|((with_reducible refine gate_dst (N:=2) rfl ?_);(try (refine gate_guard (by rfl) ?_;dsimp only));refine box_event ?hg (N:=2) ?hd (cs:=#[.bool ar,.slice bh ab.length aZ,.slice bi ag.length ba,.slice bj ak.length bb]) (t:=26) ?hr ?_;(case hd=>rfl);(case hg=>rfl);(case hr=>first|(go_simp;done)|(go_simp;rfl));intro ap hg w4 hbox hb;have ae:=aK (hbox);have gc:=bZ HB hg;have gf:=bZ HB hg;replace HB:=bW HB hb;clear hb hbox hg)|((with_reducible refine gate_dst (N:=3) rfl ?_);(try (refine gate_guard (by rfl) ?_;dsimp only));refine box_event ?hg (N:=3) ?hd (cs:=#[.bool au,.slice bk ac.length bc,.slice bl ah.length bf,.slice bm ao.length bg]) (t:=26) ?hr ?_;(case hd=>rfl);(case hg=>rfl);(case hr=>first|(go_simp;done)|(go_simp;rfl));intro aq hg w5 hbox hb;have af:=aK (hbox);have gg:=bZ HB hg;have gh:=bZ HB hg;have av:=bL ae hg;have aw:=bG ae hg;replace ae:=bB ae hb;replace HB:=bW HB hb;clear hb hbox hg))
 (try simp only [Act.put,List.setIfInBounds_toArray,List.set_cons_zero,List.set_cons_succ])
 go_cut [39] (fun v39 wc=>∃ (kq:Nat) (dT:Bool),v39 = .bool dT∧Aside0 (engrossref10_EqNode.j0 kq dT ar ab ag ak au ac ah ao=some r)∧Aside0 (kq≤k)∧Aside0 (wc.heap[ap]? = some (.cells #[.bool ar,(.slice bh ab.length aZ),(.slice bi ag.length ba),(.slice bj ak.length bb)] 26 (0,0)))∧Aside0 (wc.heap[aq]? = some (.cells #[.bool au,(.slice bk ac.length bc),(.slice bl ah.length bf),(.slice bm ao.length bg)] 26 (0,0)))∧Aside0 (Below w.heap.size w wc))
 case first =>
  have H:=HC3.out
  clear HC3
  by_cases c6:(ar != au)=true
  ·rw [if_pos c6] at H
   have bN:(ar != au)=true:=c6
   (try (have dU:decide (ar=au)=false:=by simpa using c6))
   (try (have dV:(ar == au)=false:=by simpa using c6))
   (try (have gl:¬ (ar=au):=by simpa using c6))
   clear c6
   (first|rw [bN]|(simp only [i64_w,i32_w];rw [bN])|skip)
   have H':=aK H
   clear H
   have hnb7:=av.out
   have hnc7:=aw.out
   obtain⟨dm,dn,dp,dq,dr,dt,du,dv⟩:=bf4 (w:=w5) ae
   obtain⟨dw,dx,dy,dz,dB,dC,dD,dE⟩:=bf4 (w:=w5) af
   go_wp2
   go_meet
   case rel=>exact⟨_,(true),(by first|rfl|(simp;done)|(simp [*];done)),H',⟨by first|omega|exact Nat.le_refl _⟩,bK ae,bK af,bV HB⟩
  rw [if_neg c6] at H
  have bN:(ar != au)=false:=by simpa using c6
  (try (have dU:decide (ar=au)=true:=by simpa using c6))
  (try (have dV:(ar == au)=true:=by simpa using c6))
  clear c6
  (first|rw [bN]|(simp only [i64_w,i32_w];rw [bN])|skip)
  by_cases c10:(ab.length:Int)=(ac.length:Int)
  rotate_left
  ·rw [if_neg c10] at H
   have dF:((ab.length:Int) == (ac.length:Int))=false:=beq_eq_false_iff_ne.mpr c10
   have dG:((ab.length:Int) != (ac.length:Int))=true:=bne_iff_ne.mpr c10
   have dH:(ab.length == ac.length)=false:=by first|simpa using c10|(simp at c10 ⊢;omega)
   have H':=aK H
   clear H
   have hnb18:=av.out
   have hnc18:=aw.out
   obtain⟨cd,cf,cg,ch,cj,cm,cn,cp⟩:=bf4 (w:=w5) ae
   obtain⟨cq,ct,cu,cv,cw,cx,cz,cA⟩:=bf4 (w:=w5) af
   go_wp2
   go_meet
   case rel=>exact⟨_,(true),(by first|rfl|(simp;done)|(simp [*];done)),H',⟨by first|omega|exact Nat.le_refl _⟩,bK ae,bK af,bV HB⟩
  rw [if_pos c10] at H
  have dF:((ab.length:Int) == (ac.length:Int))=true:=beq_iff_eq.mpr c10
  have dG:((ab.length:Int) != (ac.length:Int))=false:=bne_eq_false_iff_eq.mpr c10
  have dH:(ab.length == ac.length)=true:=by first|simpa using c10|(simp at c10 ⊢;omega)
  clear c10
  by_cases c11:(ag.length:Int)=(ah.length:Int)
  rotate_left
  ·rw [if_neg c11] at H
   have dI:((ag.length:Int) == (ah.length:Int))=false:=beq_eq_false_iff_ne.mpr c11
   have dJ:((ag.length:Int) != (ah.length:Int))=true:=bne_iff_ne.mpr c11
   have dK:(ag.length == ah.length)=false:=by first|simpa using c11|(simp at c11 ⊢;omega)
   have H':=aK H
   clear H
   have hnb15:=av.out
   have hnc15:=aw.out
   obtain⟨cB,cC,cD,cE,cF,cG,cH,cI⟩:=bf4 (w:=w5) ae
   obtain⟨cJ,cK,cL,cM,cN,cO,cP,cQ⟩:=bf4 (w:=w5) af
   go_wp2
   go_meet
   case rel=>exact⟨_,(true),(by first|rfl|(simp;done)|(simp [*];done)),H',⟨by first|omega|exact Nat.le_refl _⟩,bK ae,bK af,bV HB⟩
  rw [if_pos c11] at H
  have dI:((ag.length:Int) == (ah.length:Int))=true:=beq_iff_eq.mpr c11
  have dJ:((ag.length:Int) != (ah.length:Int))=false:=bne_eq_false_iff_eq.mpr c11
  have dK:(ag.length == ah.length)=true:=by first|simpa using c11|(simp at c11 ⊢;omega)
  clear c11
  have H':=aK H
  clear H
  have hnb12:=av.out
  have hnc12:=aw.out
  obtain⟨cR,cS,cT,cU,cV,cX,cY,cZ⟩:=bf4 (w:=w5) ae
  obtain⟨da,db,dc,dd,de,df,dg,dh⟩:=bf4 (w:=w5) af
  go_wp2
  go_meet
  case rel=>exact⟨_,(((ak.length:Int) != (ao.length:Int))),(by first|rfl|(simp;done)|(simp [*];done)),H',⟨by first|omega|exact Nat.le_refl _⟩,bK ae,bK af,bV HB⟩
 case rest =>
  clear HC3
  try clear c1
  try clear c2
  try clear p2
  try clear c6
  try clear bN
  try clear dU
  try clear dV
  try clear c7
  try clear c10
  try clear dF
  try clear dG
  try clear dH
  try clear c11
  try clear dI
  try clear dJ
  try clear dK
  try clear c12
  try clear c15
  try clear c18
  try clear cR cS cT cU
  try clear da db dc dd
  try clear cB cC cD cE
  try clear cJ cK cL cM
  try clear cd cf cg ch
  try clear cq ct cu cv
  try clear dm dn dp dq
  try clear dw dx dy dz
  try clear cV cX cY cZ
  try clear de df dg dh
  try clear cF cG cH cI
  try clear cN cO cP cQ
  try clear cj cm cn cp
  try clear cw cx cz cA
  try clear dr dt du dv
  try clear dB dC dD dE
  obtain⟨kq,dT,rfl,HA,HJ2,ae,af,HB⟩:=hcut
  cases kq with
  | zero=>exact absurd HA.out (by simp [engrossref10_EqNode.j0])
  | succ kj2 =>
   have H:=HA.out
   clear HA
   simp only [engrossref10_EqNode.j0] at H
   by_cases c21:dT=true
   ·subst c21
    have H1:(some false)=some r:=by rw [if_pos rfl] at H;exact H
    clear H
    have H:=H1
    clear H1
    obtain rfl:=Option.some.inj H
    go_wp2
    go_ret
    exact xB HB
   replace c21:=Bool.eq_false_iff.mpr c21
   subst c21
   have H1:(engrossref10_EqNode.l0 kj2 0 ar ab ag ak au ac ah ao)=some r:=by rw [if_neg (show ¬ (false=true) by decide)] at H;exact H
   clear H
   have H:=H1
   clear H1
   have H':=aK H
   clear H
   go_wp2
   go_loopg [5] kj2 (fun kq v5 w'=>∃ (aa:Int),v5 = .int .i64 aa∧Aside0 (engrossref10_EqNode.l0 kq aa ar ab ag ak au ac ah ao=some r)∧Aside0 (kq≤kj2)∧Aside0 (w'.heap[ap]? = some (.cells #[.bool ar,(.slice bh ab.length aZ),(.slice bi ag.length ba),(.slice bj ak.length bb)] 26 (0,0)))∧Aside0 (w'.heap[aq]? = some (.cells #[.bool au,(.slice bk ac.length bc),(.slice bl ah.length bf),(.slice bm ao.length bg)] 26 (0,0)))∧Aside0 (Below w.heap.size w w'))
   case atStart=>exact⟨(0),(by first|rfl|(simp;done)|(simp [*];done)),H',⟨Nat.le_refl _⟩,bK ae,bK af,bV HB⟩
   case round =>
    clear H'
    try clear c1
    try clear c2
    try clear p2
    try clear c6
    try clear bN
    try clear dU
    try clear dV
    try clear c7
    try clear c10
    try clear dF
    try clear dG
    try clear dH
    try clear c11
    try clear dI
    try clear dJ
    try clear dK
    try clear c12
    try clear c15
    try clear c18
    try clear c21
    try clear cR cS cT cU
    try clear da db dc dd
    try clear cB cC cD cE
    try clear cJ cK cL cM
    try clear cd cf cg ch
    try clear cq ct cu cv
    try clear dm dn dp dq
    try clear dw dx dy dz
    try clear cV cX cY cZ
    try clear de df dg dh
    try clear cF cG cH cI
    try clear cN cO cP cQ
    try clear cj cm cn cp
    try clear cw cx cz cA
    try clear dr dt du dv
    try clear dB dC dD dE
    try clear p2
    obtain⟨aa,rfl,HA,HK2,ae,af,HB⟩:=hrel
    cases gk with
    | zero=>exact absurd HA.out (by simp [engrossref10_EqNode.l0])
    | succ k2 =>
     have H:=HA.out
     clear HA
     simp only [engrossref10_EqNode.l0] at H
     by_cases c22:aa<(ab.length:Int)
     ·rw [if_pos c22] at H
      have ev:decide (aa<(ab.length:Int))=true:=decide_eq_true c22
      clear c22
      by_cases c23:0≤aa
      rotate_left
      ·rw [if_neg c23] at H
       exact absurd H (by simp)
      rw [if_pos c23] at H
      have eP:decide (0≤aa)=true:=decide_eq_true c23
      clear c23
      by_cases c24:aa<(ac.length:Int)
      rotate_left
      ·rw [if_neg c24] at H
       exact absurd H (by simp)
      rw [if_pos c24] at H
      have eQ:decide (aa<(ac.length:Int))=true:=decide_eq_true c24
      clear c24
      replace H:=oS H
      obtain⟨fv,fw,H⟩:=H
      replace H:(if fv=true then (engrossref10_EqNode.l0 k2 (wrap64 (aa+1)) ar ab ag ak au ac ah ao) else (some false))=some r:=H
      have A25:=aK fw
      clear fw
      by_cases c26:fv=true
      rotate_left
      ·replace c26:=Bool.eq_false_iff.mpr c26
       subst c26
       have H1:(some false)=some r:=by rw [if_neg (show ¬ (false=true) by decide)] at H;exact H
       clear H
       have H:=H1
       clear H1
       obtain rfl:=Option.some.inj H
       have hnb31:=av.out
       have hnc31:=aw.out
       obtain⟨dW,dX,dY,dZ,d2,d3,d4,d5⟩:=bf4 (w:=wr) ae
       try go_wp2
       replace ae:=aK (blk_drew ae.out)
       replace af:=aK (blk_drew af.out)
       replace HB:=aK (below_drew1 HB.out)
       have bO:0≤(aa:Int):=dA
       have bU:aa<(ab.length:Int):=dA
       obtain⟨ai,e528,ax,ay,az,aA,aC,aD,aE,aG⟩:=at_T56 eJ.out aa bO bU
       have bn:=aG
       have bo:=aE
       have bp:=aD
       have bq:=aC
       have br:=aA
       have bs:=az
       have bu:=ay
       have bv:=ax
       cases e528
       replace ax:=cW HB ax
       replace ay:=cW HB ay
       replace az:=cW HB az
       replace aA:=cW HB aA
       replace aC:=cW HB aC
       replace aD:=cW HB aD
       replace aE:=cW HB aE
       replace aG:=cW HB aG
       replace bO:=eq_true bO
       replace bU:=eq_true bU
       have bX:0≤(aa:Int):=dA
       have bY:aa<(ac.length:Int):=dA
       obtain⟨aj,e529,aH,aI,aJ,aM,aN,aQ,aT,aU⟩:=at_T56 eM.out aa bX bY
       have bw:=aU
       have bx:=aT
       have bA:=aQ
       have bD:=aN
       have bF:=aM
       have bI:=aJ
       have bJ:=aI
       have bM:=aH
       cases e529
       replace aH:=cW HB aH
       replace aI:=cW HB aI
       replace aJ:=cW HB aJ
       replace aM:=cW HB aM
       replace aN:=cW HB aN
       replace aQ:=cW HB aQ
       replace aT:=cW HB aT
       replace aU:=cW HB aU
       replace bX:=eq_true bX
       replace bY:=eq_true bY
       refine start_ (n:=12) (S:=fun w'=>w'.cell? ⟨ap,0,none⟩=some (.bool ar)∧w'.cell? ⟨ap,1,none⟩=some (.slice (some ai) ab.length aZ)∧w'.cell? ⟨ap,2,none⟩=some (.slice bi ag.length ba)∧w'.cell? ⟨ap,3,none⟩=some (.slice bj ak.length bb)∧w'.cell? ⟨aq,0,none⟩=some (.bool au)∧w'.cell? ⟨aq,1,none⟩=some (.slice (some aj) ac.length bc)∧w'.cell? ⟨aq,2,none⟩=some (.slice bl ah.length bf)∧w'.cell? ⟨aq,3,none⟩=some (.slice bm ao.length bg)∧w'.cell? (ai.add ((aa).toNat * 8))=some (.string ((rd_T56 ab aa).f0))∧w'.cell? ⟨(ai.add ((aa).toNat * 8)).block,(ai.add ((aa).toNat * 8)).off+1,none⟩=some (.int .i64 ((rd_T56 ab aa).f1.f0))∧w'.cell? ⟨(ai.add ((aa).toNat * 8)).block,(ai.add ((aa).toNat * 8)).off+2,none⟩=some (.float .f64 ((rd_T56 ab aa).f1.f1))∧w'.cell? ⟨(ai.add ((aa).toNat * 8)).block,(ai.add ((aa).toNat * 8)).off+3,none⟩=some (.string ((rd_T56 ab aa).f1.f2))∧w'.cell? ⟨(ai.add ((aa).toNat * 8)).block,(ai.add ((aa).toNat * 8)).off+4,none⟩=some (.int .i64 ((rd_T56 ab aa).f2))∧w'.cell? ⟨(ai.add ((aa).toNat * 8)).block,(ai.add ((aa).toNat * 8)).off+5,none⟩=some (.int .i64 ((rd_T56 ab aa).f3.f0))∧w'.cell? ⟨(ai.add ((aa).toNat * 8)).block,(ai.add ((aa).toNat * 8)).off+6,none⟩=some (.float .f64 ((rd_T56 ab aa).f3.f1))∧w'.cell? ⟨(ai.add ((aa).toNat * 8)).block,(ai.add ((aa).toNat * 8)).off+7,none⟩=some (.string ((rd_T56 ab aa).f3.f2))∧w'.cell? (aj.add ((aa).toNat * 8))=some (.string ((rd_T56 ac aa).f0))∧w'.cell? ⟨(aj.add ((aa).toNat * 8)).block,(aj.add ((aa).toNat * 8)).off+1,none⟩=some (.int .i64 ((rd_T56 ac aa).f1.f0))∧w'.cell? ⟨(aj.add ((aa).toNat * 8)).block,(aj.add ((aa).toNat * 8)).off+2,none⟩=some (.float .f64 ((rd_T56 ac aa).f1.f1))∧w'.cell? ⟨(aj.add ((aa).toNat * 8)).block,(aj.add ((aa).toNat * 8)).off+3,none⟩=some (.string ((rd_T56 ac aa).f1.f2))∧w'.cell? ⟨(aj.add ((aa).toNat * 8)).block,(aj.add ((aa).toNat * 8)).off+4,none⟩=some (.int .i64 ((rd_T56 ac aa).f2))∧w'.cell? ⟨(aj.add ((aa).toNat * 8)).block,(aj.add ((aa).toNat * 8)).off+5,none⟩=some (.int .i64 ((rd_T56 ac aa).f3.f0))∧w'.cell? ⟨(aj.add ((aa).toNat * 8)).block,(aj.add ((aa).toNat * 8)).off+6,none⟩=some (.float .f64 ((rd_T56 ac aa).f3.f1))∧w'.cell? ⟨(aj.add ((aa).toNat * 8)).block,(aj.add ((aa).toNat * 8)).off+7,none⟩=some (.string ((rd_T56 ac aa).f3.f2))) (ds:=[]) #[false,false,false,false,false,false,false,false,false,false,false,false] (by kernel_rfl) rfl rfl (bn4 ae (bn4 af ⟨(cW HB bv),(cW HB bu),(cW HB bs),(cW HB br),(cW HB bq),(cW HB bp),(cW HB bo),(cW HB bn),(cW HB bM),(cW HB bJ),(cW HB bI),(cW HB bF),(cW HB bD),(cW HB bA),(cW HB bx),(cW HB bw)⟩)) (fun hHeld=>?_);refine with_tabW engrossref10_EqNode.tab6 engrossref10_EqNode.bits6 (fun HT_ HW_=>?_)
       generalize wr.drew=w33 at ae af HB ax ay az aA aC aD aE aG aH aI aJ aM aN aQ aT aU hHeld ⊢
       refine pA 0 47 HT_ ?_
       refine pA 2 49 HT_ ?_
       refine pA 5 52 HT_ ?_
       refine pA 7 54 HT_ ?_
       refine tA 1 48 HT_ HW_ hHeld ?_ (hy:=by rintro w' ⟨s0,s1,s2,s3,s4,s5,s6,s7,s8,s9,s10,s11,s12,s13,s14,s15,s16,s17,s18,s19,s20,s21,s22,s23⟩;go_simp;with_reducible rfl)
       refine pA 3 50 HT_ ?_
       refine tA 4 51 HT_ HW_ hHeld ?_ (hy:=by rintro w' ⟨s0,s1,s2,s3,s4,s5,s6,s7,s8,s9,s10,s11,s12,s13,s14,s15,s16,s17,s18,s19,s20,s21,s22,s23⟩;go_simp;with_reducible rfl)
       refine tA 6 53 HT_ HW_ hHeld ?_ (hy:=by rintro w' ⟨s0,s1,s2,s3,s4,s5,s6,s7,s8,s9,s10,s11,s12,s13,s14,s15,s16,s17,s18,s19,s20,s21,s22,s23⟩;go_simp;with_reducible rfl)
       refine pA 8 55 HT_ ?_
       refine tA 9 56 HT_ HW_ hHeld ?_ (hy:=by rintro w' ⟨s0,s1,s2,s3,s4,s5,s6,s7,s8,s9,s10,s11,s12,s13,s14,s15,s16,s17,s18,s19,s20,s21,s22,s23⟩;go_simp;with_reducible rfl)
       refine oA 10 (some 57) HT_ (fun K hK=>?_)
       refine goes_ Try.func43 (by kernel_rfl) rfl #[.agg #[.string ((rd_T56 ab aa).f0),.int .i64 ((rd_T56 ab aa).f1.f0),.float .f64 ((rd_T56 ab aa).f1.f1),.string ((rd_T56 ab aa).f1.f2),.int .i64 ((rd_T56 ab aa).f2),.int .i64 ((rd_T56 ab aa).f3.f0),.float .f64 ((rd_T56 ab aa).f3.f1),.string ((rd_T56 ab aa).f3.f2)],.agg #[.string ((rd_T56 ac aa).f0),.int .i64 ((rd_T56 ac aa).f1.f0),.float .f64 ((rd_T56 ac aa).f1.f1),.string ((rd_T56 ac aa).f1.f2),.int .i64 ((rd_T56 ac aa).f2),.int .i64 ((rd_T56 ac aa).f3.f0),.float .f64 ((rd_T56 ac aa).f3.f1),.string ((rd_T56 ac aa).f3.f2)]] (by rfl) rfl rfl (by (try simp only [List.map_toArray,List.map_cons,List.map_nil]);first|done|rfl|(simp only [List.length_drop,List.length_take];rfl)) ?_
       with_reducible refine (engrossref10_Eq.calls ((rd_T56 ab aa).f0) ((rd_T56 ab aa).f1.f0) ((rd_T56 ab aa).f1.f1) ((rd_T56 ab aa).f1.f2) ((rd_T56 ab aa).f2) ((rd_T56 ab aa).f3.f0) ((rd_T56 ab aa).f3.f1) ((rd_T56 ab aa).f3.f2) ((rd_T56 ac aa).f0) ((rd_T56 ac aa).f1.f0) ((rd_T56 ac aa).f1.f1) ((rd_T56 ac aa).f1.f2) ((rd_T56 ac aa).f2) ((rd_T56 ac aa).f3.f0) ((rd_T56 ac aa).f3.f1) ((rd_T56 ac aa).f3.f2) false _ A25.out).mono ?_
       rintro e w34 ⟨rfl,hb⟩
       refine⟨_,rfl,?_⟩
       replace ae:=bB ae hb
       replace af:=bB af hb
       replace HB:=bW HB hb
       (try clear hb)
       (try clear hb2)
       (try clear hk)
       (try clear hi)
       refine hK.out _ _ (bn4 ae (bn4 af ⟨(cW HB bv),(cW HB bu),(cW HB bs),(cW HB br),(cW HB bq),(cW HB bp),(cW HB bo),(cW HB bn),(cW HB bM),(cW HB bJ),(cW HB bI),(cW HB bF),(cW HB bD),(cW HB bA),(cW HB bx),(cW HB bw)⟩)) (fun hHeld=>?_)
       clear hK K
       refine norm_ (a':=?_) ?_ ?_
       rotate_left
       ·show Act.put _ (some 57) _=_
        simp only [Act.put,List.setIfInBounds_toArray,List.set_cons_zero,List.set_cons_succ,i64_w,i32_w]
        rfl
       refine pA 11 58 HT_ ?_
       refine done_ (done_of HT_.out (by kernel_rfl)) ?_
       try go_wp2
       go_ret
       exact xB HB
      subst c26
      have H1:(engrossref10_EqNode.l0 k2 (wrap64 (aa+1)) ar ab ag ak au ac ah ao)=some r:=by rw [if_pos rfl] at H;exact H
      clear H
      have H:=H1
      clear H1
      have H':=aK H
      clear H
      have hnb27:=av.out
      have hnc27:=aw.out
      obtain⟨d6,d7,d8,d9,ed,eg,eh,ei⟩:=bf4 (w:=wr) ae
      try go_wp2
      replace ae:=aK (blk_drew ae.out)
      replace af:=aK (blk_drew af.out)
      replace HB:=aK (below_drew1 HB.out)
      have bO:0≤(aa:Int):=dA
      have bU:aa<(ab.length:Int):=dA
      obtain⟨ai,e528,ax,ay,az,aA,aC,aD,aE,aG⟩:=at_T56 eJ.out aa bO bU
      have bn:=aG
      have bo:=aE
      have bp:=aD
      have bq:=aC
      have br:=aA
      have bs:=az
      have bu:=ay
      have bv:=ax
      cases e528
      replace ax:=cW HB ax
      replace ay:=cW HB ay
      replace az:=cW HB az
      replace aA:=cW HB aA
      replace aC:=cW HB aC
      replace aD:=cW HB aD
      replace aE:=cW HB aE
      replace aG:=cW HB aG
      replace bO:=eq_true bO
      replace bU:=eq_true bU
      have bX:0≤(aa:Int):=dA
      have bY:aa<(ac.length:Int):=dA
      obtain⟨aj,e529,aH,aI,aJ,aM,aN,aQ,aT,aU⟩:=at_T56 eM.out aa bX bY
      have bw:=aU
      have bx:=aT
      have bA:=aQ
      have bD:=aN
      have bF:=aM
      have bI:=aJ
      have bJ:=aI
      have bM:=aH
      cases e529
      replace aH:=cW HB aH
      replace aI:=cW HB aI
      replace aJ:=cW HB aJ
      replace aM:=cW HB aM
      replace aN:=cW HB aN
      replace aQ:=cW HB aQ
      replace aT:=cW HB aT
      replace aU:=cW HB aU
      replace bX:=eq_true bX
      replace bY:=eq_true bY
      refine start_ (n:=12) (S:=fun w'=>w'.cell? ⟨ap,0,none⟩=some (.bool ar)∧w'.cell? ⟨ap,1,none⟩=some (.slice (some ai) ab.length aZ)∧w'.cell? ⟨ap,2,none⟩=some (.slice bi ag.length ba)∧w'.cell? ⟨ap,3,none⟩=some (.slice bj ak.length bb)∧w'.cell? ⟨aq,0,none⟩=some (.bool au)∧w'.cell? ⟨aq,1,none⟩=some (.slice (some aj) ac.length bc)∧w'.cell? ⟨aq,2,none⟩=some (.slice bl ah.length bf)∧w'.cell? ⟨aq,3,none⟩=some (.slice bm ao.length bg)∧w'.cell? (ai.add ((aa).toNat * 8))=some (.string ((rd_T56 ab aa).f0))∧w'.cell? ⟨(ai.add ((aa).toNat * 8)).block,(ai.add ((aa).toNat * 8)).off+1,none⟩=some (.int .i64 ((rd_T56 ab aa).f1.f0))∧w'.cell? ⟨(ai.add ((aa).toNat * 8)).block,(ai.add ((aa).toNat * 8)).off+2,none⟩=some (.float .f64 ((rd_T56 ab aa).f1.f1))∧w'.cell? ⟨(ai.add ((aa).toNat * 8)).block,(ai.add ((aa).toNat * 8)).off+3,none⟩=some (.string ((rd_T56 ab aa).f1.f2))∧w'.cell? ⟨(ai.add ((aa).toNat * 8)).block,(ai.add ((aa).toNat * 8)).off+4,none⟩=some (.int .i64 ((rd_T56 ab aa).f2))∧w'.cell? ⟨(ai.add ((aa).toNat * 8)).block,(ai.add ((aa).toNat * 8)).off+5,none⟩=some (.int .i64 ((rd_T56 ab aa).f3.f0))∧w'.cell? ⟨(ai.add ((aa).toNat * 8)).block,(ai.add ((aa).toNat * 8)).off+6,none⟩=some (.float .f64 ((rd_T56 ab aa).f3.f1))∧w'.cell? ⟨(ai.add ((aa).toNat * 8)).block,(ai.add ((aa).toNat * 8)).off+7,none⟩=some (.string ((rd_T56 ab aa).f3.f2))∧w'.cell? (aj.add ((aa).toNat * 8))=some (.string ((rd_T56 ac aa).f0))∧w'.cell? ⟨(aj.add ((aa).toNat * 8)).block,(aj.add ((aa).toNat * 8)).off+1,none⟩=some (.int .i64 ((rd_T56 ac aa).f1.f0))∧w'.cell? ⟨(aj.add ((aa).toNat * 8)).block,(aj.add ((aa).toNat * 8)).off+2,none⟩=some (.float .f64 ((rd_T56 ac aa).f1.f1))∧w'.cell? ⟨(aj.add ((aa).toNat * 8)).block,(aj.add ((aa).toNat * 8)).off+3,none⟩=some (.string ((rd_T56 ac aa).f1.f2))∧w'.cell? ⟨(aj.add ((aa).toNat * 8)).block,(aj.add ((aa).toNat * 8)).off+4,none⟩=some (.int .i64 ((rd_T56 ac aa).f2))∧w'.cell? ⟨(aj.add ((aa).toNat * 8)).block,(aj.add ((aa).toNat * 8)).off+5,none⟩=some (.int .i64 ((rd_T56 ac aa).f3.f0))∧w'.cell? ⟨(aj.add ((aa).toNat * 8)).block,(aj.add ((aa).toNat * 8)).off+6,none⟩=some (.float .f64 ((rd_T56 ac aa).f3.f1))∧w'.cell? ⟨(aj.add ((aa).toNat * 8)).block,(aj.add ((aa).toNat * 8)).off+7,none⟩=some (.string ((rd_T56 ac aa).f3.f2))) (ds:=[]) #[false,false,false,false,false,false,false,false,false,false,false,false] (by kernel_rfl) rfl rfl (bn4 ae (bn4 af ⟨(cW HB bv),(cW HB bu),(cW HB bs),(cW HB br),(cW HB bq),(cW HB bp),(cW HB bo),(cW HB bn),(cW HB bM),(cW HB bJ),(cW HB bI),(cW HB bF),(cW HB bD),(cW HB bA),(cW HB bx),(cW HB bw)⟩)) (fun hHeld=>?_);refine with_tabW engrossref10_EqNode.tab6 engrossref10_EqNode.bits6 (fun HT_ HW_=>?_)
      generalize wr.drew=w29 at ae af HB ax ay az aA aC aD aE aG aH aI aJ aM aN aQ aT aU hHeld ⊢
      refine pA 0 47 HT_ ?_
      refine pA 2 49 HT_ ?_
      refine pA 5 52 HT_ ?_
      refine pA 7 54 HT_ ?_
      refine tA 1 48 HT_ HW_ hHeld ?_ (hy:=by rintro w' ⟨s0,s1,s2,s3,s4,s5,s6,s7,s8,s9,s10,s11,s12,s13,s14,s15,s16,s17,s18,s19,s20,s21,s22,s23⟩;go_simp;with_reducible rfl)
      refine pA 3 50 HT_ ?_
      refine tA 4 51 HT_ HW_ hHeld ?_ (hy:=by rintro w' ⟨s0,s1,s2,s3,s4,s5,s6,s7,s8,s9,s10,s11,s12,s13,s14,s15,s16,s17,s18,s19,s20,s21,s22,s23⟩;go_simp;with_reducible rfl)
      refine tA 6 53 HT_ HW_ hHeld ?_ (hy:=by rintro w' ⟨s0,s1,s2,s3,s4,s5,s6,s7,s8,s9,s10,s11,s12,s13,s14,s15,s16,s17,s18,s19,s20,s21,s22,s23⟩;go_simp;with_reducible rfl)
      refine pA 8 55 HT_ ?_
      refine tA 9 56 HT_ HW_ hHeld ?_ (hy:=by rintro w' ⟨s0,s1,s2,s3,s4,s5,s6,s7,s8,s9,s10,s11,s12,s13,s14,s15,s16,s17,s18,s19,s20,s21,s22,s23⟩;go_simp;with_reducible rfl)
      refine oA 10 (some 57) HT_ (fun K hK=>?_)
      refine goes_ Try.func43 (by kernel_rfl) rfl #[.agg #[.string ((rd_T56 ab aa).f0),.int .i64 ((rd_T56 ab aa).f1.f0),.float .f64 ((rd_T56 ab aa).f1.f1),.string ((rd_T56 ab aa).f1.f2),.int .i64 ((rd_T56 ab aa).f2),.int .i64 ((rd_T56 ab aa).f3.f0),.float .f64 ((rd_T56 ab aa).f3.f1),.string ((rd_T56 ab aa).f3.f2)],.agg #[.string ((rd_T56 ac aa).f0),.int .i64 ((rd_T56 ac aa).f1.f0),.float .f64 ((rd_T56 ac aa).f1.f1),.string ((rd_T56 ac aa).f1.f2),.int .i64 ((rd_T56 ac aa).f2),.int .i64 ((rd_T56 ac aa).f3.f0),.float .f64 ((rd_T56 ac aa).f3.f1),.string ((rd_T56 ac aa).f3.f2)]] (by rfl) rfl rfl (by (try simp only [List.map_toArray,List.map_cons,List.map_nil]);first|done|rfl|(simp only [List.length_drop,List.length_take];rfl)) ?_
      with_reducible refine (engrossref10_Eq.calls ((rd_T56 ab aa).f0) ((rd_T56 ab aa).f1.f0) ((rd_T56 ab aa).f1.f1) ((rd_T56 ab aa).f1.f2) ((rd_T56 ab aa).f2) ((rd_T56 ab aa).f3.f0) ((rd_T56 ab aa).f3.f1) ((rd_T56 ab aa).f3.f2) ((rd_T56 ac aa).f0) ((rd_T56 ac aa).f1.f0) ((rd_T56 ac aa).f1.f1) ((rd_T56 ac aa).f1.f2) ((rd_T56 ac aa).f2) ((rd_T56 ac aa).f3.f0) ((rd_T56 ac aa).f3.f1) ((rd_T56 ac aa).f3.f2) true _ A25.out).mono ?_
      rintro e w30 ⟨rfl,hb⟩
      refine⟨_,rfl,?_⟩
      replace ae:=bB ae hb
      replace af:=bB af hb
      replace HB:=bW HB hb
      (try clear hb)
      (try clear hb2)
      (try clear hk)
      (try clear hi)
      refine hK.out _ _ (bn4 ae (bn4 af ⟨(cW HB bv),(cW HB bu),(cW HB bs),(cW HB br),(cW HB bq),(cW HB bp),(cW HB bo),(cW HB bn),(cW HB bM),(cW HB bJ),(cW HB bI),(cW HB bF),(cW HB bD),(cW HB bA),(cW HB bx),(cW HB bw)⟩)) (fun hHeld=>?_)
      clear hK K
      refine norm_ (a':=?_) ?_ ?_
      rotate_left
      ·show Act.put _ (some 57) _=_
       simp only [Act.put,List.setIfInBounds_toArray,List.set_cons_zero,List.set_cons_succ,i64_w,i32_w]
       rfl
      refine pA 11 58 HT_ ?_
      refine done_ (done_of HT_.out (by kernel_rfl)) ?_
      try go_wp2
      go_roundg k2
      case measure=>have:=HJ2.out;have:=HK2.out;omega
      case rel=>exact⟨(wrap64 (aa+1)),(by first|rfl|(simp;done)|(simp [*];done)),H',⟨by have:=HJ2.out;have:=HK2.out;omega⟩,bK ae,bK af,bV HB⟩
     rw [if_neg c22] at H
     have ev:decide (aa<(ab.length:Int))=false:=decide_eq_false c22
     clear c22
     have H':=aK H
     clear H
     have hnb35:=av.out
     have hnc35:=aw.out
     obtain⟨ej,el,em,ep,er,es,et,eu⟩:=bf4 (w:=wr) ae
     go_wp2
     go_loopg [6] k2 (fun kq v6 w'=>∃ (al:Int),v6 = .int .i64 al∧Aside0 (engrossref10_EqNode.l1 kq al ar ab ag ak au ac ah ao=some r)∧Aside0 (kq≤k2)∧Aside0 (w'.heap[ap]? = some (.cells #[.bool ar,(.slice bh ab.length aZ),(.slice bi ag.length ba),(.slice bj ak.length bb)] 26 (0,0)))∧Aside0 (w'.heap[aq]? = some (.cells #[.bool au,(.slice bk ac.length bc),(.slice bl ah.length bf),(.slice bm ao.length bg)] 26 (0,0)))∧Aside0 (Below w.heap.size w w'))
     case atStart=>exact⟨(0),(by first|rfl|(simp;done)|(simp [*];done)),H',⟨Nat.le_refl _⟩,bK ae,bK af,bV HB⟩
     case round =>
      clear H'
      try clear c1
      try clear c2
      try clear p2
      try clear c3
      try clear c4
      try clear p5
      try clear q5
      try clear hx5
      try clear c6
      try clear bN
      try clear dU
      try clear dV
      try clear p6
      try clear c7
      try clear c10
      try clear dF
      try clear dG
      try clear dH
      try clear c11
      try clear dI
      try clear dJ
      try clear dK
      try clear c12
      try clear c15
      try clear c18
      try clear c21
      try clear c22
      try clear ev
      try clear c23
      try clear eP
      try clear c24
      try clear eQ
      try clear c26
      try clear c27
      try clear c31
      try clear c35
      try clear cR cS cT cU
      try clear da db dc dd
      try clear cB cC cD cE
      try clear cJ cK cL cM
      try clear cd cf cg ch
      try clear cq ct cu cv
      try clear d6 d7 d8 d9
      try clear dW dX dY dZ
      try clear ej el em ep
      try clear dm dn dp dq
      try clear dw dx dy dz
      try clear cV cX cY cZ
      try clear de df dg dh
      try clear cF cG cH cI
      try clear cN cO cP cQ
      try clear cj cm cn cp
      try clear cw cx cz cA
      try clear ed eg eh ei
      try clear d2 d3 d4 d5
      try clear er es et eu
      try clear dr dt du dv
      try clear dB dC dD dE
      try clear ax
      try clear ay
      try clear az
      try clear aA
      try clear aC
      try clear aD
      try clear aE
      try clear aG
      try clear aH
      try clear aI
      try clear aJ
      try clear aM
      try clear aN
      try clear aQ
      try clear aT
      try clear aU
      try clear p2
      try clear bO
      try clear bX
      try clear bU
      try clear bY
      obtain⟨al,rfl,HA,HK3,ae,af,HB⟩:=hrel
      cases gk with
      | zero=>exact absurd HA.out (by simp [engrossref10_EqNode.l1])
      | succ k3 =>
       have H:=HA.out
       clear HA
       simp only [engrossref10_EqNode.l1] at H
       by_cases c37:al<(ag.length:Int)
       ·rw [if_pos c37] at H
        have eR:decide (al<(ag.length:Int))=true:=decide_eq_true c37
        clear c37
        by_cases c38:0≤al
        rotate_left
        ·rw [if_neg c38] at H
         exact absurd H (by simp)
        rw [if_pos c38] at H
        have fz:decide (0≤al)=true:=decide_eq_true c38
        clear c38
        by_cases c39:al<(ah.length:Int)
        rotate_left
        ·rw [if_neg c39] at H
         exact absurd H (by simp)
        rw [if_pos c39] at H
        have fA:decide (al<(ah.length:Int))=true:=decide_eq_true c39
        clear c39
        by_cases c40:(rdOf ByteArray.empty ag al).toList=(rdOf ByteArray.empty ah al).toList
        rotate_left
        ·rw [if_neg c40] at H
         have eS:((rdOf ByteArray.empty ag al).toList == (rdOf ByteArray.empty ah al).toList)=false:=beq_eq_false_iff_ne.mpr c40
         have eT:((rdOf ByteArray.empty ag al).toList != (rdOf ByteArray.empty ah al).toList)=true:=bne_iff_ne.mpr c40
         obtain rfl:=Option.some.inj H
         have hnb44:=av.out
         have hnc44:=aw.out
         obtain⟨eU,eV,eW,eX,eY,eZ,e8,e9⟩:=bf4 (w:=wr) ae
         try go_wp2
         replace ae:=aK (blk_drew ae.out)
         replace af:=aK (blk_drew af.out)
         replace HB:=aK (below_drew1 HB.out)
         have b8:0≤(al:Int):=dA
         have b9:al<(ag.length:Int):=dA
         obtain⟨dL,e531,aV⟩:=Kd.at_string eK.out al b8 b9
         have dP:=aV
         cases e531
         replace aV:=cW HB aV
         replace b8:=eq_true b8
         replace b9:=eq_true b9
         have ca:0≤(al:Int):=dA
         have cb:al<(ah.length:Int):=dA
         obtain⟨dM,e532,aW⟩:=Kd.at_string eN.out al ca cb
         have dQ:=aW
         cases e532
         replace aW:=cW HB aW
         replace ca:=eq_true ca
         replace cb:=eq_true cb
         refine start_ (n:=11) (S:=fun w'=>w'.cell? ⟨ap,0,none⟩=some (.bool ar)∧w'.cell? ⟨ap,1,none⟩=some (.slice bh ab.length aZ)∧w'.cell? ⟨ap,2,none⟩=some (.slice (some dL) ag.length ba)∧w'.cell? ⟨ap,3,none⟩=some (.slice bj ak.length bb)∧w'.cell? ⟨aq,0,none⟩=some (.bool au)∧w'.cell? ⟨aq,1,none⟩=some (.slice bk ac.length bc)∧w'.cell? ⟨aq,2,none⟩=some (.slice (some dM) ah.length bf)∧w'.cell? ⟨aq,3,none⟩=some (.slice bm ao.length bg)∧w'.cell? (dL.add (al).toNat)=some (.string (rdOf ByteArray.empty ag al))∧w'.cell? (dM.add (al).toNat)=some (.string (rdOf ByteArray.empty ah al))) (ds:=[]) #[false,false,false,false,false,false,false,false,false,false,false] (by kernel_rfl) rfl rfl (bn4 ae (bn4 af ⟨(cW HB dP),(cW HB dQ)⟩)) (fun hHeld=>?_);refine with_tabW engrossref10_EqNode.tab11 engrossref10_EqNode.bits11 (fun HT_ HW_=>?_)
         generalize wr.drew=w46 at ae af HB aV aW hHeld ⊢
         refine pA 0 66 HT_ ?_
         refine pA 2 68 HT_ ?_
         refine pA 5 71 HT_ ?_
         refine pA 7 73 HT_ ?_
         refine tA 1 67 HT_ HW_ hHeld ?_ (hy:=by rintro w' ⟨s0,s1,s2,s3,s4,s5,s6,s7,s8,s9⟩;go_simp;with_reducible rfl)
         refine pA 3 69 HT_ ?_
         refine tA 4 70 HT_ HW_ hHeld ?_ (hy:=by rintro w' ⟨s0,s1,s2,s3,s4,s5,s6,s7,s8,s9⟩;go_simp;with_reducible rfl)
         refine tA 6 72 HT_ HW_ hHeld ?_ (hy:=by rintro w' ⟨s0,s1,s2,s3,s4,s5,s6,s7,s8,s9⟩;go_simp;with_reducible rfl)
         refine pA 8 74 HT_ ?_
         refine tA 9 75 HT_ HW_ hHeld ?_ (hy:=by rintro w' ⟨s0,s1,s2,s3,s4,s5,s6,s7,s8,s9⟩;go_simp;with_reducible rfl)
         refine pA 10 76 HT_ ?_
         refine done_ (done_of HT_.out (by kernel_rfl)) ?_
         try go_wp2
         go_ret
         exact xB HB
        rw [if_pos c40] at H
        have eS:((rdOf ByteArray.empty ag al).toList == (rdOf ByteArray.empty ah al).toList)=true:=beq_iff_eq.mpr c40
        have eT:((rdOf ByteArray.empty ag al).toList != (rdOf ByteArray.empty ah al).toList)=false:=bne_eq_false_iff_eq.mpr c40
        clear c40
        have H':=aK H
        clear H
        have hnb41:=av.out
        have hnc41:=aw.out
        obtain⟨fa,fb,fd,fe,ff,fg,fh,fi⟩:=bf4 (w:=wr) ae
        try go_wp2
        replace ae:=aK (blk_drew ae.out)
        replace af:=aK (blk_drew af.out)
        replace HB:=aK (below_drew1 HB.out)
        have b8:0≤(al:Int):=dA
        have b9:al<(ag.length:Int):=dA
        obtain⟨dL,e531,aV⟩:=Kd.at_string eK.out al b8 b9
        have dP:=aV
        cases e531
        replace aV:=cW HB aV
        replace b8:=eq_true b8
        replace b9:=eq_true b9
        have ca:0≤(al:Int):=dA
        have cb:al<(ah.length:Int):=dA
        obtain⟨dM,e532,aW⟩:=Kd.at_string eN.out al ca cb
        have dQ:=aW
        cases e532
        replace aW:=cW HB aW
        replace ca:=eq_true ca
        replace cb:=eq_true cb
        refine start_ (n:=11) (S:=fun w'=>w'.cell? ⟨ap,0,none⟩=some (.bool ar)∧w'.cell? ⟨ap,1,none⟩=some (.slice bh ab.length aZ)∧w'.cell? ⟨ap,2,none⟩=some (.slice (some dL) ag.length ba)∧w'.cell? ⟨ap,3,none⟩=some (.slice bj ak.length bb)∧w'.cell? ⟨aq,0,none⟩=some (.bool au)∧w'.cell? ⟨aq,1,none⟩=some (.slice bk ac.length bc)∧w'.cell? ⟨aq,2,none⟩=some (.slice (some dM) ah.length bf)∧w'.cell? ⟨aq,3,none⟩=some (.slice bm ao.length bg)∧w'.cell? (dL.add (al).toNat)=some (.string (rdOf ByteArray.empty ag al))∧w'.cell? (dM.add (al).toNat)=some (.string (rdOf ByteArray.empty ah al))) (ds:=[]) #[false,false,false,false,false,false,false,false,false,false,false] (by kernel_rfl) rfl rfl (bn4 ae (bn4 af ⟨(cW HB dP),(cW HB dQ)⟩)) (fun hHeld=>?_);refine with_tabW engrossref10_EqNode.tab11 engrossref10_EqNode.bits11 (fun HT_ HW_=>?_)
        generalize wr.drew=w43 at ae af HB aV aW hHeld ⊢
        refine pA 0 66 HT_ ?_
        refine pA 2 68 HT_ ?_
        refine pA 5 71 HT_ ?_
        refine pA 7 73 HT_ ?_
        refine tA 1 67 HT_ HW_ hHeld ?_ (hy:=by rintro w' ⟨s0,s1,s2,s3,s4,s5,s6,s7,s8,s9⟩;go_simp;with_reducible rfl)
        refine pA 3 69 HT_ ?_
        refine tA 4 70 HT_ HW_ hHeld ?_ (hy:=by rintro w' ⟨s0,s1,s2,s3,s4,s5,s6,s7,s8,s9⟩;go_simp;with_reducible rfl)
        refine tA 6 72 HT_ HW_ hHeld ?_ (hy:=by rintro w' ⟨s0,s1,s2,s3,s4,s5,s6,s7,s8,s9⟩;go_simp;with_reducible rfl)
        refine pA 8 74 HT_ ?_
        refine tA 9 75 HT_ HW_ hHeld ?_ (hy:=by rintro w' ⟨s0,s1,s2,s3,s4,s5,s6,s7,s8,s9⟩;go_simp;with_reducible rfl)
        refine pA 10 76 HT_ ?_
        refine done_ (done_of HT_.out (by kernel_rfl)) ?_
        try go_wp2
        go_roundg k3
        case measure=>have:=HJ2.out;have:=HK2.out;have:=HK3.out;omega
        case rel=>exact⟨(wrap64 (al+1)),(by first|rfl|(simp;done)|(simp [*];done)),H',⟨by have:=HJ2.out;have:=HK2.out;have:=HK3.out;omega⟩,bK ae,bK af,bV HB⟩
       rw [if_neg c37] at H
       have eR:decide (al<(ag.length:Int))=false:=decide_eq_false c37
       clear c37
       have H':=aK H
       clear H
       have hnb47:=av.out
       have hnc47:=aw.out
       obtain⟨fj,fk,fl,fm,fp,fq,ft,fu⟩:=bf4 (w:=wr) ae
       go_wp2
       go_loopg [7] k3 (fun kq v7 w'=>∃ (am:Int),v7 = .int .i64 am∧Aside0 (engrossref10_EqNode.l2 kq am ar ab ag ak au ac ah ao=some r)∧Aside0 (kq≤k3)∧Aside0 (w'.heap[ap]? = some (.cells #[.bool ar,(.slice bh ab.length aZ),(.slice bi ag.length ba),(.slice bj ak.length bb)] 26 (0,0)))∧Aside0 (w'.heap[aq]? = some (.cells #[.bool au,(.slice bk ac.length bc),(.slice bl ah.length bf),(.slice bm ao.length bg)] 26 (0,0)))∧Aside0 (Below w.heap.size w w'))
       case atStart=>exact⟨(0),(by first|rfl|(simp;done)|(simp [*];done)),H',⟨Nat.le_refl _⟩,bK ae,bK af,bV HB⟩
       case round =>
        clear H'
        try clear c1
        try clear c2
        try clear p2
        try clear c3
        try clear c4
        try clear p5
        try clear q5
        try clear hx5
        try clear c6
        try clear bN
        try clear dU
        try clear dV
        try clear p6
        try clear c7
        try clear c10
        try clear dF
        try clear dG
        try clear dH
        try clear c11
        try clear dI
        try clear dJ
        try clear dK
        try clear c12
        try clear c15
        try clear c18
        try clear c21
        try clear c22
        try clear ev
        try clear c23
        try clear eP
        try clear c24
        try clear eQ
        try clear c26
        try clear c27
        try clear c31
        try clear c35
        try clear c37
        try clear eR
        try clear c38
        try clear fz
        try clear c39
        try clear fA
        try clear c40
        try clear eS
        try clear eT
        try clear c41
        try clear c43
        try clear c44
        try clear c47
        try clear cR cS cT cU
        try clear da db dc dd
        try clear cB cC cD cE
        try clear cJ cK cL cM
        try clear cd cf cg ch
        try clear cq ct cu cv
        try clear d6 d7 d8 d9
        try clear dW dX dY dZ
        try clear ej el em ep
        try clear fa fb fd fe
        try clear eU eV eW eX
        try clear fj fk fl fm
        try clear dm dn dp dq
        try clear dw dx dy dz
        try clear cV cX cY cZ
        try clear de df dg dh
        try clear cF cG cH cI
        try clear cN cO cP cQ
        try clear cj cm cn cp
        try clear cw cx cz cA
        try clear ed eg eh ei
        try clear d2 d3 d4 d5
        try clear er es et eu
        try clear ff fg fh fi
        try clear eY eZ e8 e9
        try clear fp fq ft fu
        try clear dr dt du dv
        try clear dB dC dD dE
        try clear ax
        try clear ay
        try clear az
        try clear aA
        try clear aC
        try clear aD
        try clear aE
        try clear aG
        try clear aH
        try clear aI
        try clear aJ
        try clear aM
        try clear aN
        try clear aQ
        try clear aT
        try clear aU
        try clear aV
        try clear aW
        try clear p2
        try clear p5
        try clear bO
        try clear bX
        try clear b8
        try clear ca
        try clear p6
        try clear q5
        try clear bU
        try clear bY
        try clear b9
        try clear cb
        obtain⟨am,rfl,HA,HK4,ae,af,HB⟩:=hrel
        cases gk with
        | zero=>exact absurd HA.out (by simp [engrossref10_EqNode.l2])
        | succ k4 =>
         have H:=HA.out
         clear HA
         simp only [engrossref10_EqNode.l2] at H
         by_cases c49:am<(ak.length:Int)
         rotate_left
         ·rw [if_neg c49] at H
          have fB:decide (am<(ak.length:Int))=false:=decide_eq_false c49
          clear c49
          obtain rfl:=Option.some.inj H
          have hnb59:=av.out
          have hnc59:=aw.out
          obtain⟨fE,fF,fG,fH,fI,fJ,fK,fL⟩:=bf4 (w:=wr) ae
          go_wp2
          go_ret
          exact xB HB
         rw [if_pos c49] at H
         have fB:decide (am<(ak.length:Int))=true:=decide_eq_true c49
         clear c49
         by_cases c50:0≤am
         rotate_left
         ·rw [if_neg c50] at H
          exact absurd H (by simp)
         rw [if_pos c50] at H
         have gi:decide (0≤am)=true:=decide_eq_true c50
         clear c50
         by_cases c51:am<(ao.length:Int)
         rotate_left
         ·rw [if_neg c51] at H
          exact absurd H (by simp)
         rw [if_pos c51] at H
         have gj:decide (am<(ao.length:Int))=true:=decide_eq_true c51
         clear c51
         by_cases c52:(rd ak am)=(rd ao am)
         rotate_left
         ·rw [if_neg c52] at H
          have fC:((rd ak am) == (rd ao am))=false:=beq_eq_false_iff_ne.mpr c52
          have fD:((rd ak am) != (rd ao am))=true:=bne_iff_ne.mpr c52
          obtain rfl:=Option.some.inj H
          have hnb56:=av.out
          have hnc56:=aw.out
          obtain⟨fM,fN,fO,fP,fQ,fR,fS,fT⟩:=bf4 (w:=wr) ae
          try go_wp2
          replace ae:=aK (blk_drew ae.out)
          replace af:=aK (blk_drew af.out)
          replace HB:=aK (below_drew1 HB.out)
          have di:0≤(am:Int):=dA
          have dj:am<(ak.length:Int):=dA
          obtain⟨dN,e533,aX⟩:=Kd.at_int eL.out am di dj
          have dR:=aX
          cases e533
          replace aX:=cW HB aX
          replace di:=eq_true di
          replace dj:=eq_true dj
          have dk:0≤(am:Int):=dA
          have dl:am<(ao.length:Int):=dA
          obtain⟨dO,e534,aY⟩:=Kd.at_int eO.out am dk dl
          have dS:=aY
          cases e534
          replace aY:=cW HB aY
          replace dk:=eq_true dk
          replace dl:=eq_true dl
          refine start_ (n:=11) (S:=fun w'=>w'.cell? ⟨ap,0,none⟩=some (.bool ar)∧w'.cell? ⟨ap,1,none⟩=some (.slice bh ab.length aZ)∧w'.cell? ⟨ap,2,none⟩=some (.slice bi ag.length ba)∧w'.cell? ⟨ap,3,none⟩=some (.slice (some dN) ak.length bb)∧w'.cell? ⟨aq,0,none⟩=some (.bool au)∧w'.cell? ⟨aq,1,none⟩=some (.slice bk ac.length bc)∧w'.cell? ⟨aq,2,none⟩=some (.slice bl ah.length bf)∧w'.cell? ⟨aq,3,none⟩=some (.slice (some dO) ao.length bg)∧w'.cell? (dN.add (am).toNat)=some (.int .i64 (rd ak am))∧w'.cell? (dO.add (am).toNat)=some (.int .i64 (rd ao am))) (ds:=[]) #[false,false,false,false,false,false,false,false,false,false,false] (by kernel_rfl) rfl rfl (bn4 ae (bn4 af ⟨(cW HB dR),(cW HB dS)⟩)) (fun hHeld=>?_);refine with_tabW engrossref10_EqNode.tab16 engrossref10_EqNode.bits16 (fun HT_ HW_=>?_)
          generalize wr.drew=w58 at ae af HB aX aY hHeld ⊢
          refine pA 0 84 HT_ ?_
          refine pA 2 86 HT_ ?_
          refine pA 5 89 HT_ ?_
          refine pA 7 91 HT_ ?_
          refine tA 1 85 HT_ HW_ hHeld ?_ (hy:=by rintro w' ⟨s0,s1,s2,s3,s4,s5,s6,s7,s8,s9⟩;go_simp;with_reducible rfl)
          refine pA 3 87 HT_ ?_
          refine tA 4 88 HT_ HW_ hHeld ?_ (hy:=by rintro w' ⟨s0,s1,s2,s3,s4,s5,s6,s7,s8,s9⟩;go_simp;with_reducible rfl)
          refine tA 6 90 HT_ HW_ hHeld ?_ (hy:=by rintro w' ⟨s0,s1,s2,s3,s4,s5,s6,s7,s8,s9⟩;go_simp;with_reducible rfl)
          refine pA 8 92 HT_ ?_
          refine tA 9 93 HT_ HW_ hHeld ?_ (hy:=by rintro w' ⟨s0,s1,s2,s3,s4,s5,s6,s7,s8,s9⟩;go_simp;with_reducible rfl)
          refine pA 10 94 HT_ ?_
          refine done_ (done_of HT_.out (by kernel_rfl)) ?_
          try go_wp2
          go_ret
          exact xB HB
         rw [if_pos c52] at H
         have fC:((rd ak am) == (rd ao am))=true:=beq_iff_eq.mpr c52
         have fD:((rd ak am) != (rd ao am))=false:=bne_eq_false_iff_eq.mpr c52
         clear c52
         have H':=aK H
         clear H
         have hnb53:=av.out
         have hnc53:=aw.out
         obtain⟨fU,fV,fW,fX,fY,fZ,f4,f5⟩:=bf4 (w:=wr) ae
         try go_wp2
         replace ae:=aK (blk_drew ae.out)
         replace af:=aK (blk_drew af.out)
         replace HB:=aK (below_drew1 HB.out)
         have di:0≤(am:Int):=dA
         have dj:am<(ak.length:Int):=dA
         obtain⟨dN,e533,aX⟩:=Kd.at_int eL.out am di dj
         have dR:=aX
         cases e533
         replace aX:=cW HB aX
         replace di:=eq_true di
         replace dj:=eq_true dj
         have dk:0≤(am:Int):=dA
         have dl:am<(ao.length:Int):=dA
         obtain⟨dO,e534,aY⟩:=Kd.at_int eO.out am dk dl
         have dS:=aY
         cases e534
         replace aY:=cW HB aY
         replace dk:=eq_true dk
         replace dl:=eq_true dl
         refine start_ (n:=11) (S:=fun w'=>w'.cell? ⟨ap,0,none⟩=some (.bool ar)∧w'.cell? ⟨ap,1,none⟩=some (.slice bh ab.length aZ)∧w'.cell? ⟨ap,2,none⟩=some (.slice bi ag.length ba)∧w'.cell? ⟨ap,3,none⟩=some (.slice (some dN) ak.length bb)∧w'.cell? ⟨aq,0,none⟩=some (.bool au)∧w'.cell? ⟨aq,1,none⟩=some (.slice bk ac.length bc)∧w'.cell? ⟨aq,2,none⟩=some (.slice bl ah.length bf)∧w'.cell? ⟨aq,3,none⟩=some (.slice (some dO) ao.length bg)∧w'.cell? (dN.add (am).toNat)=some (.int .i64 (rd ak am))∧w'.cell? (dO.add (am).toNat)=some (.int .i64 (rd ao am))) (ds:=[]) #[false,false,false,false,false,false,false,false,false,false,false] (by kernel_rfl) rfl rfl (bn4 ae (bn4 af ⟨(cW HB dR),(cW HB dS)⟩)) (fun hHeld=>?_);refine with_tabW engrossref10_EqNode.tab16 engrossref10_EqNode.bits16 (fun HT_ HW_=>?_)
         generalize wr.drew=w55 at ae af HB aX aY hHeld ⊢
         refine pA 0 84 HT_ ?_
         refine pA 2 86 HT_ ?_
         refine pA 5 89 HT_ ?_
         refine pA 7 91 HT_ ?_
         refine tA 1 85 HT_ HW_ hHeld ?_ (hy:=by rintro w' ⟨s0,s1,s2,s3,s4,s5,s6,s7,s8,s9⟩;go_simp;with_reducible rfl)
         refine pA 3 87 HT_ ?_
         refine tA 4 88 HT_ HW_ hHeld ?_ (hy:=by rintro w' ⟨s0,s1,s2,s3,s4,s5,s6,s7,s8,s9⟩;go_simp;with_reducible rfl)
         refine tA 6 90 HT_ HW_ hHeld ?_ (hy:=by rintro w' ⟨s0,s1,s2,s3,s4,s5,s6,s7,s8,s9⟩;go_simp;with_reducible rfl)
         refine pA 8 92 HT_ ?_
         refine tA 9 93 HT_ HW_ hHeld ?_ (hy:=by rintro w' ⟨s0,s1,s2,s3,s4,s5,s6,s7,s8,s9⟩;go_simp;with_reducible rfl)
         refine pA 10 94 HT_ ?_
         refine done_ (done_of HT_.out (by kernel_rfl)) ?_
         try go_wp2
         go_roundg k4
         case measure=>have:=HJ2.out;have:=HK2.out;have:=HK3.out;have:=HK4.out;omega
         case rel=>exact⟨(wrap64 (am+1)),(by first|rfl|(simp;done)|(simp [*];done)),H',⟨by have:=HJ2.out;have:=HK2.out;have:=HK3.out;have:=HK4.out;omega⟩,bK ae,bK af,bV HB⟩
end Go.Proofs.Ytmmjpieafbjggaa.P
end
section
namespace Go.Proofs.Ytmmjpieafbjggaa.P
open Go.RowKit Go.Proofs.YtmmjpieafbjggaaW.PrintWords Go.Proofs.YtmmjpieafbjggaaW.PrintLast Go.Proofs.YtmmjpieafbjggaaW.PrintMore
attribute [local go_sem] max2_int min2_int max_two min_two max_three min_three max_four min_four   -- for this text's walks alone
attribute [local go_sem] x_str_gtr x_str_leq x_str_geq ext_bits ext_frombits ext_neg x_store_float Instr.field asAgg
set_option linter.unusedVariables false
set_option linter.unusedSimpArgs false
def engrosslaw10_Back.f (a0_0:ByteArray) (a0_1:Int) (a0_2:Nat) (a0_3:ByteArray) (a0_4:Int) (a0_5:Int) (a0_6:Nat) (a0_7:ByteArray):Option (ByteArray × Int × Nat × ByteArray × Int × Int × Nat × ByteArray):=some (a0_0,a0_1,a0_2,a0_3,a0_4,a0_5,a0_6,a0_7)
set_option maxHeartbeats 8000000 in
set_option maxRecDepth 100000 in
theorem engrosslaw10_Back.calls (ab:ByteArray) (ac:Int) (ae:Nat) (af:ByteArray) (ag:Int) (ah:Int) (ai:Nat) (aj:ByteArray) (r1:ByteArray) (r2:Int) (r3:Nat) (r4:ByteArray) (r5:Int) (r6:Int) (r7:Nat) (r8:ByteArray) (w:World) (h:engrosslaw10_Back.f ab ac ae af ag ah ai aj=some (r1,r2,r3,r4,r5,r6,r7,r8)) :
  Calls Try.prog 44 #[.agg #[.string ab,.int .i64 ac,.float .f64 ae,.string af,.int .i64 ag,.int .i64 ah,.float .f64 ai,.string aj]] w fun e w'=>e = .returned (.agg #[.string r1,.int .i64 r2,.float .f64 r3,.string r4,.int .i64 r5,.int .i64 r6,.float .f64 r7,.string r8])∧Below w.heap.size w w':=by
 have hu62:=Try.underlying62
 have hu56:=Try.underlying56
 have hu54:=Try.underlying54
 have HB:=aK (Below.refl w.heap.size w)
 have H:(some (ab,ac,ae,af,ag,ah,ai,aj))=some (r1,r2,r3,r4,r5,r6,r7,r8):=h
 clear h
 simp only [Option.some.injEq,Prod.mk.injEq] at H
 obtain⟨rfl,rfl,rfl,rfl,rfl,rfl,rfl,rfl⟩:=H
 go_enter Try.func44,Try.ntmps44
 go_wp2_with (first|((with_reducible refine gate_dst (N:=1) rfl ?_);refine box_event ?hg (N:=1) ?hd (cs:=#[.string ab,.int .i64 ac,.float .f64 ae,.string af,.int .i64 ag,.int .i64 ah,.float .f64 ai,.string aj]) (t:=62) ?hr ?_;(case hd=>rfl);(case hg=>rfl);(case hr=>first|(go_simp;done)|(go_simp;rfl));intro bh hg w2 hbox hb;have aa:=aK (hbox);have bi:=bZ HB hg;have bj:=bZ HB hg;replace HB:=bW HB hb;clear hb hbox hg)|((with_reducible refine gate_dst (N:=2) rfl ?_);refine box_event ?hg (N:=2) ?hd (cs:=#[.string (⟨#[]⟩:ByteArray),.int .i64 0,.float .f64 0,.string (⟨#[]⟩:ByteArray),.int .i64 0,.int .i64 0,.float .f64 0,.string (⟨#[]⟩:ByteArray)]) (t:=56) ?hr ?_;(case hd=>rfl);(case hg=>rfl);(case hr=>first|(go_simp;done)|(go_simp;rfl));intro ao hg w3 hbox hb;have am:=aK (hbox);have bk:=bZ HB hg;have bl:=bZ HB hg;have ak:=bL aa hg;have al:=bG aa hg;replace aa:=bB aa hb;replace HB:=bW HB hb;clear hb hbox hg;have hnb4:=ak.out;have hnc4:=al.out;obtain⟨ap,aq,ar,au,av,aw,ax,ay,az,aA,aC,aD,aE,aG,aH,aI⟩:=bf8 (w:=w3) aa;obtain⟨aJ,aM,aN,aQ,aT,aU,aV,aW,aX,aY,aZ,ba,bb,bc,bf,bg⟩:=bf8 (w:=w3) am))
 refine bodyPost_ret (results_cell_row rfl _ _ ao 56 #[.string ab,.int .i64 ac,.float .f64 ae,.string af,.int .i64 ag,.int .i64 ah,.float .f64 ai,.string aj] (0,0) _ rfl (bR am) Try.underlying56 rfl (by kernel_rfl)) rfl ?_
 exact xB HB
def engrosslaw11_Back.l0:Nat→Int→Bool→List (S62)→List ByteArray→List Int→Bool→List (S56)→List ByteArray→List Int→Option (Bool × (List (S56)) × List ByteArray × List Int)
 | 0,_,_,_,_,_,_,_,_,_=>none
 | k+1,x4,x538000,x538001,x538002,x538003,x540000,x540001,x540002,x540003=>if x4<(x538001.length:Int) then (if 0≤x4 then ((engrosslaw10_Back.f ((rd_T62 x538001 x4).f0) ((rd_T62 x538001 x4).f1.f0) ((rd_T62 x538001 x4).f1.f1) ((rd_T62 x538001 x4).f1.f2) ((rd_T62 x538001 x4).f2) ((rd_T62 x538001 x4).f3.f0) ((rd_T62 x538001 x4).f3.f1) ((rd_T62 x538001 x4).f3.f2)).bind fun bt541=>(if x540001.length<1599289640401 then (engrosslaw11_Back.l0 k (wrap64 (x4+1)) x538000 x538001 x538002 x538003 x540000 (x540001++[(⟨bt541.1,(⟨bt541.2.1,bt541.2.2.1,bt541.2.2.2.1⟩:S54),bt541.2.2.2.2.1,(⟨bt541.2.2.2.2.2.1,bt541.2.2.2.2.2.2.1,bt541.2.2.2.2.2.2.2⟩:S54)⟩:S56)]) x540002 x540003) else (none))) else (none)) else (some (x540000,x540001,x540002,x540003))
def engrosslaw11_Back.f (k:Nat) (a0_0:Bool) (l0_1:List (S62)) (l0_2:List ByteArray) (l0_3:List Int):Option (Bool × (List (S56)) × List ByteArray × List Int):=engrosslaw11_Back.l0 k 0 a0_0 l0_1 l0_2 l0_3 a0_0 ([]:List (S56)) l0_2 l0_3
def engrosslaw11_Back.T5:Bool × List (List Nat × List Nat):=(true,[([],[]),([0],[0]),([],[]),([2],[2]),([],[]),([3,4],[3,4]),([5],[5]),([6],[6]),([7],[7]),([1,8,7],[1,8]),([0,1,2,3,4,5,6,7,8,9],[]),([10,9,9,0,1,2,3,4,5,6,7,8,9],[9,10])])
def engrosslaw11_Back.B5:List Nat:=[0,1,0,4,0,28,60,124,252,511,1023,2047]
theorem engrosslaw11_Back.tab5:rtab .any (opsOf Try.f24 5)=engrosslaw11_Back.T5:=by kernel_rfl
theorem engrosslaw11_Back.bits5:waitsOk engrosslaw11_Back.T5.2 engrosslaw11_Back.B5=true:=by kernel_rfl
set_option maxHeartbeats 8000000 in
set_option maxRecDepth 100000 in
theorem engrosslaw11_Back.calls (k:Nat) (al:Bool) (bw:Option Addr) (bv:Nat) (ac:List (S62)) (P0_2_:Nat→Prop) (au:Option Addr) (av:Nat) (af:List ByteArray) (P0_3_:Nat→Prop) (aA:Option Addr) (aC:Nat) (ah:List Int) (r1:Bool) (r2:List (S56)) (r3:List ByteArray) (r4:List Int) (w:World) (bI:Kd.C k62 w bw ac.length ac) (bJ:ac.length≤bv) (ct:Kd.V Kd.string 9 w w.heap.size (fun k_=>P0_2_ k_) (.slice au af.length av) af) (cu:Kd.V (Kd.int .i64) 3 w w.heap.size (fun k_=>P0_3_ k_) (.slice aA ah.length aC) ah) (h:engrosslaw11_Back.f k al ac af ah=some (r1,r2,r3,r4)) :
  Calls Try.prog 24 #[.agg #[.bool al,.slice bw ac.length bv,.slice au af.length av,.slice aA ah.length aC]] w fun e w'=>∃ v1_ v2_ v3_:Value,e = .returned (.agg #[.bool r1,v1_,v2_,v3_])∧Kd.R k56 56 w' w.heap.size (fun k_=>(w.heap.size≤k_)) v1_ r2∧Kd.V Kd.string 9 w' w.heap.size (fun k_=>((P0_2_ k_∨P0_3_ k_)∨w.heap.size≤k_)∧some k_≠(v1_:Value).ownBlock) v2_ r3∧Kd.V (Kd.int .i64) 3 w' w.heap.size (fun k_=>((P0_2_ k_∨P0_3_ k_)∨w.heap.size≤k_)∧some k_≠(v1_:Value).ownBlock) v3_ r4∧Below w.heap.size w w':=by
 have hu36:=Try.underlying36
 have hu26:=Try.underlying26
 have hu62:=Try.underlying62
 have cv:=aK bI
 have dn:=aK bJ
 clear bI bJ
 have aE:=aK (show Kd.V Kd.string 9 w w.heap.size (fun k_=>((P0_2_ k_∨P0_3_ k_)∨w.heap.size≤k_)) (.slice au af.length av) af from Kd.V_mono ct (fun k_ hk=>.inl (.inl hk)))
 have aG:=aK (show Kd.V (Kd.int .i64) 3 w w.heap.size (fun k_=>((P0_2_ k_∨P0_3_ k_)∨w.heap.size≤k_)) (.slice aA ah.length aC) ah from Kd.V_mono cu (fun k_ hk=>.inl (.inr hk)))
 have HB:=aK (Below.refl w.heap.size w)
 have H:(engrosslaw11_Back.l0 k 0 al ac af ah al ([]:List (S56)) af ah)=some (r1,r2,r3,r4):=h
 clear h
 have H':=aK H
 clear H
 go_enter Try.func24,Try.ntmps24
 go_wp2_with (first|((with_reducible refine gate_dst (N:=1) rfl ?_);refine box_event ?hg (N:=1) ?hd (cs:=#[.bool al,.slice bw ac.length bv,.slice au af.length av,.slice aA ah.length aC]) (t:=36) ?hr ?_;(case hd=>rfl);(case hg=>rfl);(case hr=>first|(go_simp;done)|(go_simp;rfl));intro aD hg w2 hbox hb;have ae:=aK (hbox);have dp:=bZ HB hg;have cw:=bZ HB hg;replace aE:=aK (Kd.V_below (Kd.V_elderB (by (with_reducible repeat (first|apply Kd.V_alloc|apply Kd.V_drewN|apply Kd.V_drew));exact aE.out) aD (Nat.le_of_eq hg.symm)) hb);replace aG:=aK (Kd.V_below (Kd.V_elderB (by (with_reducible repeat (first|apply Kd.V_alloc|apply Kd.V_drewN|apply Kd.V_drew));exact aG.out) aD (Nat.le_of_eq hg.symm)) hb);replace HB:=bW HB hb;clear hb hbox hg)|((with_reducible refine gate_dst (N:=2) rfl ?_);refine box_event ?hg (N:=2) ?hd (cs:=#[.bool false,.slice none 0 0,.slice none 0 0,.slice none 0 0]) (t:=26) ?hr ?_;(case hd=>rfl);(case hg=>rfl);(case hr=>first|(go_simp;done)|(go_simp;rfl));intro ag hg w3 hbox hb;have am:=aK (hbox);have dq:=bZ HB hg;have cx:=bZ HB hg;have aW:=bL ae hg;have aX:=bG ae hg;replace aE:=aK (Kd.V_below (Kd.V_elderB (by (with_reducible repeat (first|apply Kd.V_alloc|apply Kd.V_drewN|apply Kd.V_drew));exact aE.out) ag (Nat.le_of_eq hg.symm)) hb);replace aG:=aK (Kd.V_below (Kd.V_elderB (by (with_reducible repeat (first|apply Kd.V_alloc|apply Kd.V_drewN|apply Kd.V_drew));exact aG.out) ag (Nat.le_of_eq hg.symm)) hb);replace ae:=bB ae hb;replace HB:=bW HB hb;clear hb hbox hg;have hnb4:=aW.out;have hnc4:=aX.out;obtain⟨bN,bO,bU,bX,bY,b8,b9,ca⟩:=bf4 (w:=w3) ae)|((with_reducible refine gate_dst (N:=3) rfl ?_);refine box_event ?hg (N:=3) ?hd (cs:=#[.bool false,.slice none 0 0,.slice none 0 0,.slice none 0 0]) (t:=26) ?hr ?_;(case hd=>rfl);(case hg=>rfl);(case hr=>first|(go_simp;done)|(go_simp;rfl));intro aa hg w6 hbox hb;have ai:=aK (hbox);have dr:=bZ HB hg;have cz:=bZ HB hg;have ao:=bL ae hg;have aH:=bG ae hg;have ax:=bL am hg;have aY:=bG am hg;replace aE:=aK (Kd.V_below (Kd.V_elderB (by (with_reducible repeat (first|apply Kd.V_alloc|apply Kd.V_drewN|apply Kd.V_drew));exact aE.out) aa (Nat.le_of_eq hg.symm)) hb);replace aG:=aK (Kd.V_below (Kd.V_elderB (by (with_reducible repeat (first|apply Kd.V_alloc|apply Kd.V_drewN|apply Kd.V_drew));exact aG.out) aa (Nat.le_of_eq hg.symm)) hb);replace ae:=bB ae hb;replace am:=bB am hb;replace HB:=bW HB hb;clear hb hbox hg;have hnb7:=aH.out;have hnc7:=ao.out;have hnb8:=aY.out;have hnc8:=ax.out;obtain⟨cb,cd,cf,cg,ch,cj,cm,cn⟩:=bf4 (w:=w6) ai))
 go_loopg [4] k (fun kq v4 w'=>∃ (ab:Int) (aj:List (S56)) (aw:Value),v4 = .int .i64 ab∧Aside0 (engrosslaw11_Back.l0 kq ab al ac af ah al aj af ah=some (r1,r2,r3,r4))∧Aside0 (kq≤k)∧Aside0 (Kd.V Kd.string 9 w' w.heap.size (fun k_=>((P0_2_ k_∨P0_3_ k_)∨w.heap.size≤k_)∧some k_≠(aw:Value).ownBlock∧k_≠aD∧k_≠ag∧k_≠aa) (.slice au af.length av) af)∧Aside0 (Kd.V (Kd.int .i64) 3 w' w.heap.size (fun k_=>((P0_2_ k_∨P0_3_ k_)∨w.heap.size≤k_)∧some k_≠(aw:Value).ownBlock∧k_≠aD∧k_≠ag∧k_≠aa) (.slice aA ah.length aC) ah)∧Aside0 (Kd.R k56 56 w' w.heap.size (fun k_=>(w.heap.size≤k_)) aw aj)∧Aside0 (Kd.V Kd.string 9 w' w.heap.size (fun k_=>((P0_2_ k_∨P0_3_ k_)∨w.heap.size≤k_)∧some k_≠(aw:Value).ownBlock∧k_≠aD∧k_≠ag∧k_≠aa) (.slice au af.length av) af)∧Aside0 (Kd.V (Kd.int .i64) 3 w' w.heap.size (fun k_=>((P0_2_ k_∨P0_3_ k_)∨w.heap.size≤k_)∧some k_≠(aw:Value).ownBlock∧k_≠aD∧k_≠ag∧k_≠aa) (.slice aA ah.length aC) ah)∧Aside0 (w'.heap[aD]? = some (.cells #[.bool al,(.slice bw ac.length bv),(.slice au af.length av),(.slice aA ah.length aC)] 36 (0,0)))∧Aside0 (w'.heap[ag]? = some (.cells #[.bool false,(.slice none 0 0),(.slice none 0 0),(.slice none 0 0)] 26 (0,0)))∧Aside0 (w'.heap[aa]? = some (.cells #[.bool al,aw,(.slice au af.length av),(.slice aA ah.length aC)] 26 (0,0)))∧Aside0 (Below w.heap.size w w'))
 case atStart=>exact⟨(0),(([]:List (S56))),(.slice none 0 0),(by first|rfl|(simp;done)|(simp [*];done)),H',⟨Nat.le_refl _⟩,⟨by (with_reducible repeat (first|apply Kd.V_alloc|apply Kd.V_drewN|apply Kd.V_drew));exact Kd.V_mono (Kd.V_far (p:=⟨aa,3,none⟩) (Kd.V_far (p:=⟨aa,2,none⟩) (Kd.V_far (p:=⟨aa,1,none⟩) (Kd.V_far (p:=⟨aa,0,none⟩) (Kd.V_mono aE.out (fun k_ hk=>(⟨hk,hk.2⟩:_∧k_≠aa))) (fun _ hk=>hk.2) (.bool al)) (fun _ hk=>hk.2) (.slice none 0 0)) (fun _ hk=>hk.2) (.slice au af.length av)) (fun _ hk=>hk.2) (.slice aA ah.length aC)) (fun _ hk=>⟨hk.1.1.1.1,⟨(by simp [Value.ownBlock]),⟨hk.1.1.1.2,⟨hk.1.1.2,hk.1.2⟩⟩⟩⟩)⟩,⟨by (with_reducible repeat (first|apply Kd.V_alloc|apply Kd.V_drewN|apply Kd.V_drew));exact Kd.V_mono (Kd.V_far (p:=⟨aa,3,none⟩) (Kd.V_far (p:=⟨aa,2,none⟩) (Kd.V_far (p:=⟨aa,1,none⟩) (Kd.V_far (p:=⟨aa,0,none⟩) (Kd.V_mono aG.out (fun k_ hk=>(⟨hk,hk.2⟩:_∧k_≠aa))) (fun _ hk=>hk.2) (.bool al)) (fun _ hk=>hk.2) (.slice none 0 0)) (fun _ hk=>hk.2) (.slice au af.length av)) (fun _ hk=>hk.2) (.slice aA ah.length aC)) (fun _ hk=>⟨hk.1.1.1.1,⟨(by simp [Value.ownBlock]),⟨hk.1.1.1.2,⟨hk.1.1.2,hk.1.2⟩⟩⟩⟩)⟩,⟨by first|exact Kd.R_nil _ _ _ _ _|exact Kd.N_nil _ _ _ _ _|exact Kd.V_nil _ _ _ _ _|exact Kd.Q_nil _ _ _ _ _|exact Kd.S_nil _ _ _ _ _⟩,⟨by (with_reducible repeat (first|apply Kd.V_alloc|apply Kd.V_drewN|apply Kd.V_drew));exact Kd.V_mono (Kd.V_far (p:=⟨aa,3,none⟩) (Kd.V_far (p:=⟨aa,2,none⟩) (Kd.V_far (p:=⟨aa,1,none⟩) (Kd.V_far (p:=⟨aa,0,none⟩) (Kd.V_mono aE.out (fun k_ hk=>(⟨hk,hk.2⟩:_∧k_≠aa))) (fun _ hk=>hk.2) (.bool al)) (fun _ hk=>hk.2) (.slice none 0 0)) (fun _ hk=>hk.2) (.slice au af.length av)) (fun _ hk=>hk.2) (.slice aA ah.length aC)) (fun _ hk=>⟨hk.1.1.1.1,⟨(by simp [Value.ownBlock]),⟨hk.1.1.1.2,⟨hk.1.1.2,hk.1.2⟩⟩⟩⟩)⟩,⟨by (with_reducible repeat (first|apply Kd.V_alloc|apply Kd.V_drewN|apply Kd.V_drew));exact Kd.V_mono (Kd.V_far (p:=⟨aa,3,none⟩) (Kd.V_far (p:=⟨aa,2,none⟩) (Kd.V_far (p:=⟨aa,1,none⟩) (Kd.V_far (p:=⟨aa,0,none⟩) (Kd.V_mono aG.out (fun k_ hk=>(⟨hk,hk.2⟩:_∧k_≠aa))) (fun _ hk=>hk.2) (.bool al)) (fun _ hk=>hk.2) (.slice none 0 0)) (fun _ hk=>hk.2) (.slice au af.length av)) (fun _ hk=>hk.2) (.slice aA ah.length aC)) (fun _ hk=>⟨hk.1.1.1.1,⟨(by simp [Value.ownBlock]),⟨hk.1.1.1.2,⟨hk.1.1.2,hk.1.2⟩⟩⟩⟩)⟩,⟨by (with_reducible repeat (first|refine blk_drewN ?_ _|refine blk_drew ?_|refine blk_alloc ?_ _));refine blk_far ?_ ao.out _;(with_reducible repeat (first|refine blk_drewN ?_ _|refine blk_drew ?_|refine blk_alloc ?_ _));refine blk_far ?_ ao.out _;(with_reducible repeat (first|refine blk_drewN ?_ _|refine blk_drew ?_|refine blk_alloc ?_ _));refine blk_far ?_ ao.out _;(with_reducible repeat (first|refine blk_drewN ?_ _|refine blk_drew ?_|refine blk_alloc ?_ _));refine blk_far ?_ ao.out _;(with_reducible repeat (first|refine blk_drewN ?_ _|refine blk_drew ?_|refine blk_alloc ?_ _));exact ae.out⟩,⟨by (with_reducible repeat (first|refine blk_drewN ?_ _|refine blk_drew ?_|refine blk_alloc ?_ _));refine blk_far ?_ ax.out _;(with_reducible repeat (first|refine blk_drewN ?_ _|refine blk_drew ?_|refine blk_alloc ?_ _));refine blk_far ?_ ax.out _;(with_reducible repeat (first|refine blk_drewN ?_ _|refine blk_drew ?_|refine blk_alloc ?_ _));refine blk_far ?_ ax.out _;(with_reducible repeat (first|refine blk_drewN ?_ _|refine blk_drew ?_|refine blk_alloc ?_ _));refine blk_far ?_ ax.out _;(with_reducible repeat (first|refine blk_drewN ?_ _|refine blk_drew ?_|refine blk_alloc ?_ _));exact am.out⟩,⟨by (with_reducible repeat (first|refine blk_drewN ?_ _|refine blk_drew ?_|refine blk_alloc ?_ _));refine blk_put (cs:=#[.bool al,.slice none 0 0,.slice au af.length av,.slice none 0 0]) ?_ 3 _ rfl;(with_reducible repeat (first|refine blk_drewN ?_ _|refine blk_drew ?_|refine blk_alloc ?_ _));refine blk_put (cs:=#[.bool al,.slice none 0 0,.slice none 0 0,.slice none 0 0]) ?_ 2 _ rfl;(with_reducible repeat (first|refine blk_drewN ?_ _|refine blk_drew ?_|refine blk_alloc ?_ _));refine blk_put (cs:=#[.bool al,.slice none 0 0,.slice none 0 0,.slice none 0 0]) ?_ 1 _ rfl;(with_reducible repeat (first|refine blk_drewN ?_ _|refine blk_drew ?_|refine blk_alloc ?_ _));refine blk_put (cs:=#[.bool false,.slice none 0 0,.slice none 0 0,.slice none 0 0]) ?_ 0 _ rfl;(with_reducible repeat (first|refine blk_drewN ?_ _|refine blk_drew ?_|refine blk_alloc ?_ _));exact ai.out⟩,bV HB⟩
 case round =>
  clear H'
  try clear c2
  try clear p2
  try clear c4
  try clear c7
  try clear c8
  try clear bN bO bU bX
  try clear cb cd cf cg
  try clear bY b8 b9 ca
  try clear ch cj cm cn
  obtain⟨ab,aj,aw,rfl,HA,HK1,ay,az,ak,ap,aq,ae,am,ai,HB⟩:=hrel
  cases gk with
  | zero=>exact absurd HA.out (by simp [engrosslaw11_Back.l0])
  | succ k1 =>
   have H:=HA.out
   clear HA
   simp only [engrosslaw11_Back.l0] at H
   by_cases c10:ab<(ac.length:Int)
   rotate_left
   ·rw [if_neg c10] at H
    have cA:decide (ab<(ac.length:Int))=false:=decide_eq_false c10
    clear c10
    simp only [Option.some.injEq,Prod.mk.injEq] at H
    obtain⟨rfl,rfl,rfl,rfl⟩:=H
    have hnb22:=aW.out
    have hnc22:=aX.out
    have hnb23:=ao.out
    have hnc23:=aH.out
    obtain⟨cC,cD,cE,cF,cG,cH,cI,cJ⟩:=bf4 (w:=wr) ae
    have hnb25:=aY.out
    have hnc25:=ax.out
    obtain⟨cK,cL,cM,cN,cO,cP,cQ,cR⟩:=bf4 (w:=wr) ai
    obtain⟨cS,cT,cU,cV,cX,cY,cZ,da⟩:=bf4 (w:=wr) am
    obtain⟨bx,bA,cB⟩:=Kd.R_slice ak.out
    subst cB
    go_wp2
    refine bodyPost_ret (results_cell_row rfl _ _ ag 26 #[.bool al,.slice bx aj.length bA,.slice au af.length av,.slice aA ah.length aC] (0,0) _ rfl (bR am) Try.underlying26 rfl (by kernel_rfl)) rfl ?_
    exact⟨_,_,_,by first|rfl|(simp [errW_none,errW_some] <;> rfl)|(simp [*,errW_none,errW_some] <;> rfl),by (with_reducible repeat (first|apply Kd.R_alloc|apply Kd.R_drewN|apply Kd.R_drew));exact Kd.R_mono (Kd.R_far (p:=⟨ag,3,none⟩) (Kd.R_far (p:=⟨ag,2,none⟩) (Kd.R_far (p:=⟨ag,1,none⟩) (Kd.R_far (p:=⟨ag,0,none⟩) (Kd.R_types ak.out am.out (by decide)) (fun _ hk=>hk.2) (.bool al)) (fun _ hk=>hk.2) (.slice bx aj.length bA)) (fun _ hk=>hk.2) (.slice au af.length av)) (fun _ hk=>hk.2) (.slice aA ah.length aC)) (fun _ hk=>hk.1),by (with_reducible repeat (first|apply Kd.V_alloc|apply Kd.V_drewN|apply Kd.V_drew));exact Kd.V_mono (Kd.V_far (p:=⟨ag,3,none⟩) (Kd.V_far (p:=⟨ag,2,none⟩) (Kd.V_far (p:=⟨ag,1,none⟩) (Kd.V_far (p:=⟨ag,0,none⟩) (Kd.V_mono ap.out (fun k_ hk=>(⟨hk,hk.2.2.2.1⟩:_∧k_≠ag))) (fun _ hk=>hk.2) (.bool al)) (fun _ hk=>hk.2) (.slice bx aj.length bA)) (fun _ hk=>hk.2) (.slice au af.length av)) (fun _ hk=>hk.2) (.slice aA ah.length aC)) (fun _ hk=>⟨hk.1.1,hk.1.2.1⟩),by (with_reducible repeat (first|apply Kd.V_alloc|apply Kd.V_drewN|apply Kd.V_drew));exact Kd.V_mono (Kd.V_far (p:=⟨ag,3,none⟩) (Kd.V_far (p:=⟨ag,2,none⟩) (Kd.V_far (p:=⟨ag,1,none⟩) (Kd.V_far (p:=⟨ag,0,none⟩) (Kd.V_mono aq.out (fun k_ hk=>(⟨hk,hk.2.2.2.1⟩:_∧k_≠ag))) (fun _ hk=>hk.2) (.bool al)) (fun _ hk=>hk.2) (.slice bx aj.length bA)) (fun _ hk=>hk.2) (.slice au af.length av)) (fun _ hk=>hk.2) (.slice aA ah.length aC)) (fun _ hk=>⟨hk.1.1,hk.1.2.1⟩),by repeat (first|(with_reducible first|exact HB.out|apply below_alloc|apply pw_below_drewN|apply below_drew1|refine below_set ?_ cw.out|refine below_set ?_ cx.out|refine below_set ?_ cz.out)|exact HB.out)⟩
   rw [if_pos c10] at H
   have cA:decide (ab<(ac.length:Int))=true:=decide_eq_true c10
   clear c10
   by_cases c11:0≤ab
   rotate_left
   ·rw [if_neg c11] at H
    exact absurd H (by simp)
   rw [if_pos c11] at H
   have dt:decide (0≤ab)=true:=decide_eq_true c11
   clear c11
   replace H:=oS H
   obtain⟨⟨bk,bl,bm,bn,bo,bp,bq,br⟩,cp,H⟩:=H
   replace H:(if aj.length<1599289640401 then (engrosslaw11_Back.l0 k1 (wrap64 (ab+1)) al ac af ah al (aj++[(⟨bk,(⟨bl,bm,bn⟩:S54),bo,(⟨bp,bq,br⟩:S54)⟩:S56)]) af ah) else (none))=some (r1,r2,r3,r4):=H
   have A12:=aK cp
   clear cp
   by_cases c13:aj.length<1599289640401
   rotate_left
   ·rw [if_neg c13] at H
    exact absurd H (by simp)
   rw [if_pos c13] at H
   have LMc13:=aK c13
   clear c13
   obtain⟨aZ,hy549⟩:∃ y_:List (S56),y_=(aj++[(⟨bk,(⟨bl,bm,bn⟩:S54),bo,(⟨bp,bq,br⟩:S54)⟩:S56)]):=⟨_,rfl⟩
   replace H:(engrosslaw11_Back.l0 k1 (wrap64 (ab+1)) al ac af ah al aZ af ah)=some (r1,r2,r3,r4):=by first|(rw [hy549];with_reducible exact H)|(have H2_:=(Option.bind_some _ _).symm.trans H;rw [hy549];with_reducible exact H2_)|(have H2_:=(Option.bind_some _ _).symm.trans H;with_reducible exact H2_)|with_reducible exact H|(rw [hy549];exact H)|exact H
   have Ny549:=aK hy549
   clear hy549
   have H':=aK H
   clear H
   have hnb14:=aW.out
   have hnc14:=aX.out
   have hnb15:=ao.out
   have hnc15:=aH.out
   obtain⟨db,dc,dd,de,df,dg,dh,di⟩:=bf4 (w:=wr) ae
   try go_wp2
   replace ay:=aK (Kd.V_drew ay.out)
   replace az:=aK (Kd.V_drew az.out)
   replace ak:=aK (Kd.R_drew ak.out)
   replace ap:=aK (Kd.V_drew ap.out)
   replace aq:=aK (Kd.V_drew aq.out)
   replace ae:=aK (blk_drew ae.out)
   replace am:=aK (blk_drew am.out)
   replace ai:=aK (blk_drew ai.out)
   replace HB:=aK (below_drew1 HB.out)
   have bD:0≤(ab:Int):=dA
   have bF:ab<(ac.length:Int):=dA
   obtain⟨ar,e540,ba,bb,bc,bf,bg,bh,bi,bj⟩:=at_T62 cv.out ab bD bF
   have aI:=bj
   have aJ:=bi
   have aM:=bh
   have aN:=bg
   have aQ:=bf
   have aT:=bc
   have aU:=bb
   have aV:=ba
   cases e540
   replace ba:=cW HB ba
   replace bb:=cW HB bb
   replace bc:=cW HB bc
   replace bf:=cW HB bf
   replace bg:=cW HB bg
   replace bh:=cW HB bh
   replace bi:=cW HB bi
   replace bj:=cW HB bj
   replace bD:=eq_true bD
   replace bF:=eq_true bF
   refine start_ (n:=12) (S:=fun w'=>w'.cell? ⟨aa,0,none⟩=some (.bool al)∧w'.cell? ⟨aa,1,none⟩=some (aw)∧w'.cell? ⟨aa,2,none⟩=some (.slice au af.length av)∧w'.cell? ⟨aa,3,none⟩=some (.slice aA ah.length aC)∧w'.cell? ⟨aD,0,none⟩=some (.bool al)∧w'.cell? ⟨aD,1,none⟩=some (.slice (some ar) ac.length bv)∧w'.cell? ⟨aD,2,none⟩=some (.slice au af.length av)∧w'.cell? ⟨aD,3,none⟩=some (.slice aA ah.length aC)∧w'.cell? (ar.add ((ab).toNat * 8))=some (.string ((rd_T62 ac ab).f0))∧w'.cell? ⟨(ar.add ((ab).toNat * 8)).block,(ar.add ((ab).toNat * 8)).off+1,none⟩=some (.int .i64 ((rd_T62 ac ab).f1.f0))∧w'.cell? ⟨(ar.add ((ab).toNat * 8)).block,(ar.add ((ab).toNat * 8)).off+2,none⟩=some (.float .f64 ((rd_T62 ac ab).f1.f1))∧w'.cell? ⟨(ar.add ((ab).toNat * 8)).block,(ar.add ((ab).toNat * 8)).off+3,none⟩=some (.string ((rd_T62 ac ab).f1.f2))∧w'.cell? ⟨(ar.add ((ab).toNat * 8)).block,(ar.add ((ab).toNat * 8)).off+4,none⟩=some (.int .i64 ((rd_T62 ac ab).f2))∧w'.cell? ⟨(ar.add ((ab).toNat * 8)).block,(ar.add ((ab).toNat * 8)).off+5,none⟩=some (.int .i64 ((rd_T62 ac ab).f3.f0))∧w'.cell? ⟨(ar.add ((ab).toNat * 8)).block,(ar.add ((ab).toNat * 8)).off+6,none⟩=some (.float .f64 ((rd_T62 ac ab).f3.f1))∧w'.cell? ⟨(ar.add ((ab).toNat * 8)).block,(ar.add ((ab).toNat * 8)).off+7,none⟩=some (.string ((rd_T62 ac ab).f3.f2))) (ds:=[11]) #[false,false,false,false,false,false,false,false,false,false,false,false] (by kernel_rfl) rfl rfl (bn4 ai (bn4 ae ⟨(cW HB aV),(cW HB aU),(cW HB aT),(cW HB aQ),(cW HB aN),(cW HB aM),(cW HB aJ),(cW HB aI)⟩)) (fun hHeld=>?_);refine with_tabW engrosslaw11_Back.tab5 engrosslaw11_Back.bits5 (fun HT_ HW_=>?_)
   generalize wr.drew=w17 at ay az ak ap aq ae am ai HB ba bb bc bf bg bh bi bj hHeld ⊢
   refine pA 0 19 HT_ ?_
   refine pA 2 21 HT_ ?_
   refine pA 4 23 HT_ ?_
   refine tA 1 20 HT_ HW_ hHeld ?_ (hy:=by rintro w' ⟨s0,s1,s2,s3,s4,s5,s6,s7,s8,s9,s10,s11,s12,s13,s14,s15⟩;go_simp;with_reducible rfl)
   refine tA 3 22 HT_ HW_ hHeld ?_ (hy:=by rintro w' ⟨s0,s1,s2,s3,s4,s5,s6,s7,s8,s9,s10,s11,s12,s13,s14,s15⟩;go_simp;with_reducible rfl)
   refine pA 5 24 HT_ ?_
   refine tA 6 25 HT_ HW_ hHeld ?_ (hy:=by rintro w' ⟨s0,s1,s2,s3,s4,s5,s6,s7,s8,s9,s10,s11,s12,s13,s14,s15⟩;go_simp;with_reducible rfl)
   refine oA 7 (some 26) HT_ (fun K hK=>?_)
   refine goes_ Try.func44 (by kernel_rfl) rfl #[.agg #[.string ((rd_T62 ac ab).f0),.int .i64 ((rd_T62 ac ab).f1.f0),.float .f64 ((rd_T62 ac ab).f1.f1),.string ((rd_T62 ac ab).f1.f2),.int .i64 ((rd_T62 ac ab).f2),.int .i64 ((rd_T62 ac ab).f3.f0),.float .f64 ((rd_T62 ac ab).f3.f1),.string ((rd_T62 ac ab).f3.f2)]] (by rfl) rfl rfl (by (try simp only [List.map_toArray,List.map_cons,List.map_nil]);first|done|rfl|(simp only [List.length_drop,List.length_take];rfl)) ?_
   with_reducible refine (engrosslaw10_Back.calls ((rd_T62 ac ab).f0) ((rd_T62 ac ab).f1.f0) ((rd_T62 ac ab).f1.f1) ((rd_T62 ac ab).f1.f2) ((rd_T62 ac ab).f2) ((rd_T62 ac ab).f3.f0) ((rd_T62 ac ab).f3.f1) ((rd_T62 ac ab).f3.f2) bk bl bm bn bo bp bq br _ A12.out).mono ?_
   rintro e w18 ⟨rfl,hb⟩
   refine⟨_,rfl,?_⟩
   replace ay:=vB ay hb
   replace az:=vB az hb
   replace ak:=rB ak hb
   replace ap:=vB ap hb
   replace aq:=vB aq hb
   replace ae:=bB ae hb
   replace am:=bB am hb
   replace ai:=bB ai hb
   replace HB:=bW HB hb
   (try clear hb)
   (try clear hb2)
   (try clear hk)
   (try clear hi)
   refine hK.out _ _ (bn4 ai (bn4 ae ⟨(cW HB aV),(cW HB aU),(cW HB aT),(cW HB aQ),(cW HB aN),(cW HB aM),(cW HB aJ),(cW HB aI)⟩)) (fun hHeld=>?_)
   clear hK K
   refine norm_ (a':=?_) ?_ ?_
   rotate_left
   ·show Act.put _ (some 26) _=_
    simp only [Act.put,List.setIfInBounds_toArray,List.set_cons_zero,List.set_cons_succ,i64_w,i32_w]
    rfl
   refine oA 8 (some 27) HT_ (fun K hK=>?_)
   refine value_ (w1:=?_) (v:=?_) (by rfl) rfl ?_ ?_
   rotate_left 2
   ·go_simp
    constructor
    ·rfl
    ·rfl
   refine hK.out _ _ ⟨(blk_cell (blk_alloc ai.out _) 0).trans rfl,(blk_cell (blk_alloc ai.out _) 1).trans rfl,(blk_cell (blk_alloc ai.out _) 2).trans rfl,(blk_cell (blk_alloc ai.out _) 3).trans rfl,(blk_cell (blk_alloc ae.out _) 0).trans rfl,(blk_cell (blk_alloc ae.out _) 1).trans rfl,(blk_cell (blk_alloc ae.out _) 2).trans rfl,(blk_cell (blk_alloc ae.out _) 3).trans rfl,(World.cell?_alloc_lt _ _ _ (World.block_lt_of_cell? _ _ ((cW HB aV)))).trans ((cW HB aV)),(World.cell?_alloc_lt _ _ _ (World.block_lt_of_cell? _ _ ((cW HB aU)))).trans ((cW HB aU)),(World.cell?_alloc_lt _ _ _ (World.block_lt_of_cell? _ _ ((cW HB aT)))).trans ((cW HB aT)),(World.cell?_alloc_lt _ _ _ (World.block_lt_of_cell? _ _ ((cW HB aQ)))).trans ((cW HB aQ)),(World.cell?_alloc_lt _ _ _ (World.block_lt_of_cell? _ _ ((cW HB aN)))).trans ((cW HB aN)),(World.cell?_alloc_lt _ _ _ (World.block_lt_of_cell? _ _ ((cW HB aM)))).trans ((cW HB aM)),(World.cell?_alloc_lt _ _ _ (World.block_lt_of_cell? _ _ ((cW HB aJ)))).trans ((cW HB aJ)),(World.cell?_alloc_lt _ _ _ (World.block_lt_of_cell? _ _ ((cW HB aI)))).trans ((cW HB aI))⟩ (fun hHeld=>?_)
   clear hK K
   refine norm_ (a':=?_) ?_ ?_
   rotate_left
   ·show Act.put _ (some 27) _=_
    simp only [Act.put,List.setIfInBounds_toArray,List.set_cons_zero,List.set_cons_succ,i64_w,i32_w]
    rfl
   refine oA 9 (some 28) HT_ (fun K hK=>?_)
   refine Kd.R_append_step k56 (w0:=w) w.heap.size (by rfl) (.tmp 20) (.tmp 27) 22 56 (.agg #[(.string ⟨#[]⟩),(.int .i64 0),(.float .f64 0),(.string ⟨#[]⟩),(.int .i64 0),(.int .i64 0),(.float .f64 0),(.string ⟨#[]⟩)]) 88 rfl Try.underlying22 info56 rfl (by decide) (by omega) aw aj (⟨bk,(⟨bl,bm,bn⟩:S54),bo,(⟨bp,bq,br⟩:S54)⟩:S56) [.string bk,.int .i64 bl,.float .f64 bm,.string bn,.int .i64 bo,.int .i64 bp,.float .f64 bq,.string br] (fun k_=>(w.heap.size≤k_)) (fun _=>False) rfl rfl ?aP (fun _ hk=>hk.elim) ?aF ?aO ?aB ?aS ?aL ?_
   (case aP=>exact k56_mkM _ _ _ (⟨bk,(⟨bl,bm,bn⟩:S54),bo,(⟨bp,bq,br⟩:S54)⟩:S56))
   (case aB=>exact (bC HB))
   (case aF=>exact (fun k_ hk=>(Nat.le_trans (below_size (bC HB)) hk)))
   (case aO=>exact (by (with_reducible repeat (first|apply Kd.R_alloc|apply Kd.R_drewN|apply Kd.R_drew));exact ak.out))
   (case aS=>exact (below_size (bC HB)))
   (case aL=>have:=LMc13.out;omega)
   intro dv w19 ho hb hg hat
   rw [← Ny549.out] at ho
   have bM:=aK (ho)
   replace ay:=aK (Kd.V_afterv (ok:=(fun k_=>((P0_2_ k_∨P0_3_ k_)∨w.heap.size≤k_)∧k_≠aD∧k_≠ag∧k_≠aa)) (by (with_reducible repeat (first|apply Kd.V_alloc|apply Kd.V_drewN|apply Kd.V_drew));exact Kd.V_mono ay.out (fun _ hk=>⟨⟨hk.1,⟨hk.2.2.1,⟨hk.2.2.2.1,hk.2.2.2.2⟩⟩⟩,hk.2.1⟩)) hg hat)
   replace az:=aK (Kd.V_afterv (ok:=(fun k_=>((P0_2_ k_∨P0_3_ k_)∨w.heap.size≤k_)∧k_≠aD∧k_≠ag∧k_≠aa)) (by (with_reducible repeat (first|apply Kd.V_alloc|apply Kd.V_drewN|apply Kd.V_drew));exact Kd.V_mono az.out (fun _ hk=>⟨⟨hk.1,⟨hk.2.2.1,⟨hk.2.2.2.1,hk.2.2.2.2⟩⟩⟩,hk.2.1⟩)) hg hat)
   replace ap:=aK (Kd.V_afterv (ok:=(fun k_=>((P0_2_ k_∨P0_3_ k_)∨w.heap.size≤k_)∧k_≠aD∧k_≠ag∧k_≠aa)) (by (with_reducible repeat (first|apply Kd.V_alloc|apply Kd.V_drewN|apply Kd.V_drew));exact Kd.V_mono ap.out (fun _ hk=>⟨⟨hk.1,⟨hk.2.2.1,⟨hk.2.2.2.1,hk.2.2.2.2⟩⟩⟩,hk.2.1⟩)) hg hat)
   replace aq:=aK (Kd.V_afterv (ok:=(fun k_=>((P0_2_ k_∨P0_3_ k_)∨w.heap.size≤k_)∧k_≠aD∧k_≠ag∧k_≠aa)) (by (with_reducible repeat (first|apply Kd.V_alloc|apply Kd.V_drewN|apply Kd.V_drew));exact Kd.V_mono aq.out (fun _ hk=>⟨⟨hk.1,⟨hk.2.2.1,⟨hk.2.2.2.1,hk.2.2.2.2⟩⟩⟩,hk.2.1⟩)) hg hat)
   replace ae:=aK (blk_grown (bQ ae) hg (Kd.R_ne ak.out ae.out (by decide)))
   replace am:=aK (blk_grown (bQ am) hg (Kd.R_ne ak.out am.out (by decide)))
   replace ai:=aK (blk_grown (bQ ai) hg (Kd.R_ne ak.out ai.out (by decide)))
   replace HB:=aK (hb)
   clear ak
   clear ho hb hg hat
   obtain⟨bs,bu,cq⟩:=Kd.R_slice bM.out
   (first|subst cq|(injection cq with f1_ f2_ f3_;have f4_:=f1_.symm;have f5_:=f3_.symm;clear f1_ f2_ f3_;subst f4_;subst f5_))
   refine hK.out _ _ (bn4 ai (bn4 ae ⟨(cW HB aV),(cW HB aU),(cW HB aT),(cW HB aQ),(cW HB aN),(cW HB aM),(cW HB aJ),(cW HB aI)⟩)) (fun hHeld=>?_)
   clear hK K
   refine norm_ (a':=?_) ?_ ?_
   rotate_left
   ·show Act.put _ (some 28) _=_
    simp only [Act.put,List.setIfInBounds_toArray,List.set_cons_zero,List.set_cons_succ,i64_w,i32_w]
    rfl
   refine pA 10 29 HT_ ?_
   refine last_ (i:=11) (N:=none) #[true,true,true,true,true,true,true,true,true,true,true,true] rfl rfl (one_of HT_.out (by kernel_rfl)) (by decide) (fun K hK=>?_)
   have dw:w19.cell? ⟨aa,1,none⟩=some (aw):=(blk_cell ai.out 1).trans rfl
   have du:=blk_frozen ai.out 1
   have dj:=ao.out
   have dk:=ax.out
   have dl:=aH.out
   have dm:=aY.out
   with_reducible refine skip_ (w1:=?_) (by with_unfolding_all rfl) (by with_unfolding_all rfl) ?_ ?_
   rotate_left
   ·go_simp
    rfl
   refine hK.out _ _ ?_
   clear hK K
   refine done_ (done_of HT_.out (by kernel_rfl)) ?_
   try go_wp2
   go_roundg k1
   case measure=>have:=HK1.out;omega
   case rel=>exact⟨(wrap64 (ab+1)),(aZ),(.slice bs aZ.length bu),(by first|rfl|(simp;done)|(simp [*];done)),H',⟨by have:=HK1.out;omega⟩,⟨by (with_reducible repeat (first|apply Kd.V_alloc|apply Kd.V_drewN|apply Kd.V_drew));exact Kd.V_mono (Kd.V_far (p:=⟨aa,1,none⟩) (Kd.V_mono ay.out (fun k_ hk=>(⟨hk,hk.1.2.2.2⟩:_∧k_≠aa))) (fun _ hk=>hk.2) (.slice bs aZ.length bu)) (fun _ hk=>⟨hk.1.1.1,⟨hk.1.2,⟨hk.1.1.2.1,⟨hk.1.1.2.2.1,hk.1.1.2.2.2⟩⟩⟩⟩)⟩,⟨by (with_reducible repeat (first|apply Kd.V_alloc|apply Kd.V_drewN|apply Kd.V_drew));exact Kd.V_mono (Kd.V_far (p:=⟨aa,1,none⟩) (Kd.V_mono az.out (fun k_ hk=>(⟨hk,hk.1.2.2.2⟩:_∧k_≠aa))) (fun _ hk=>hk.2) (.slice bs aZ.length bu)) (fun _ hk=>⟨hk.1.1.1,⟨hk.1.2,⟨hk.1.1.2.1,⟨hk.1.1.2.2.1,hk.1.1.2.2.2⟩⟩⟩⟩)⟩,⟨by (with_reducible repeat (first|apply Kd.R_alloc|apply Kd.R_drewN|apply Kd.R_drew));exact Kd.R_mono (Kd.R_far (p:=⟨aa,1,none⟩) (Kd.R_types bM.out ai.out (by decide)) (fun _ hk=>hk.2) (.slice bs aZ.length bu)) (fun _ hk=>hk.1)⟩,⟨by (with_reducible repeat (first|apply Kd.V_alloc|apply Kd.V_drewN|apply Kd.V_drew));exact Kd.V_mono (Kd.V_far (p:=⟨aa,1,none⟩) (Kd.V_mono ap.out (fun k_ hk=>(⟨hk,hk.1.2.2.2⟩:_∧k_≠aa))) (fun _ hk=>hk.2) (.slice bs aZ.length bu)) (fun _ hk=>⟨hk.1.1.1,⟨hk.1.2,⟨hk.1.1.2.1,⟨hk.1.1.2.2.1,hk.1.1.2.2.2⟩⟩⟩⟩)⟩,⟨by (with_reducible repeat (first|apply Kd.V_alloc|apply Kd.V_drewN|apply Kd.V_drew));exact Kd.V_mono (Kd.V_far (p:=⟨aa,1,none⟩) (Kd.V_mono aq.out (fun k_ hk=>(⟨hk,hk.1.2.2.2⟩:_∧k_≠aa))) (fun _ hk=>hk.2) (.slice bs aZ.length bu)) (fun _ hk=>⟨hk.1.1.1,⟨hk.1.2,⟨hk.1.1.2.1,⟨hk.1.1.2.2.1,hk.1.1.2.2.2⟩⟩⟩⟩)⟩,⟨by (with_reducible repeat (first|refine blk_drewN ?_ _|refine blk_drew ?_|refine blk_alloc ?_ _));refine blk_far ?_ ao.out _;(with_reducible repeat (first|refine blk_drewN ?_ _|refine blk_drew ?_|refine blk_alloc ?_ _));exact ae.out⟩,⟨by (with_reducible repeat (first|refine blk_drewN ?_ _|refine blk_drew ?_|refine blk_alloc ?_ _));refine blk_far ?_ ax.out _;(with_reducible repeat (first|refine blk_drewN ?_ _|refine blk_drew ?_|refine blk_alloc ?_ _));exact am.out⟩,⟨by (with_reducible repeat (first|refine blk_drewN ?_ _|refine blk_drew ?_|refine blk_alloc ?_ _));refine blk_put (cs:=#[.bool al,aw,.slice au af.length av,.slice aA ah.length aC]) ?_ 1 _ rfl;(with_reducible repeat (first|refine blk_drewN ?_ _|refine blk_drew ?_|refine blk_alloc ?_ _));exact ai.out⟩,bV HB⟩
end Go.Proofs.Ytmmjpieafbjggaa.P
end
section
namespace Go.Proofs.Ytmmjpieafbjggaa.P
open Go.RowKit Go.Proofs.YtmmjpieafbjggaaW.PrintWords Go.Proofs.YtmmjpieafbjggaaW.PrintLast Go.Proofs.YtmmjpieafbjggaaW.PrintMore
attribute [local go_sem] max2_int min2_int max_two min_two max_three min_three max_four min_four   -- for this text's walks alone
attribute [local go_sem] x_str_gtr x_str_leq x_str_geq ext_bits ext_frombits ext_neg x_store_float Instr.field asAgg
set_option linter.unusedVariables false
set_option linter.unusedSimpArgs false
mutual
def engrosslaw11_NodeAll.j0:Nat→ByteArray→List Int→Bool→Bool→Bool→List (S56)→List ByteArray→List Int→Option (Bool)
 | 0,_,_,_,_,_,_,_,_=>none
 | k+1,x1,x6,x7,x37,x553000,x553001,x553002,x553003=>if x37=true then (none) else ((engrosslaw11_Of.f k x553000 x553001 x553002 x553003).bind fun bt591=>((node_Encode.f k bt591.1 bt591.2.1 bt591.2.2.1 bt591.2.2.2).bind fun bt601=>(if x7=true then (if (x6.length:Int)>256 then (if bt601.2=4 then (some ((bt601.1.length:Int) == 0)) else (none)) else (engrosslaw11_NodeAll.l0 k x1 x6 bt601.1 bt601.2 0 0 x553000 x553001 x553002 x553003)) else (if bt601.2=1 then (if (bt601.1.length:Int)=0 then ((engrosslaw11_Of.f k x553000 x553001 x553002 x553003).bind fun bt605=>((node_Kid.f k bt605.1 bt605.2.1 bt605.2.2.1 bt605.2.2.2 x1).bind fun t615=>(some (t615 == (-1))))) else (none)) else (none)))))
def engrosslaw11_NodeAll.l0:Nat→ByteArray→List Int→List Int→Int→Int→Int→Bool→List (S56)→List ByteArray→List Int→Option (Bool)
 | 0,_,_,_,_,_,_,_,_,_,_=>none
 | k+1,x1,x6,x8,x9,x10,x11,x553000,x553001,x553002,x553003=>if x11<(x553002.length:Int) then (if 0≤x11 then (if ((Op.bytesLess x1.toList ((rdOf ByteArray.empty x553002 x11).toList))=true) then (engrosslaw11_NodeAll.l0 k x1 x6 x8 x9 x10 (wrap64 (x11+1)) x553000 x553001 x553002 x553003) else (engrosslaw11_NodeAll.l0 k x1 x6 x8 x9 (wrap64 (x10+1)) (wrap64 (x11+1)) x553000 x553001 x553002 x553003)) else (none)) else (if x553000=true then (engrosslaw11_NodeAll.j2 k x1 x6 x8 x9 (-1) x553000 x553001 x553002 x553003) else (engrosslaw11_NodeAll.j2 k x1 x6 x8 x9 x10 x553000 x553001 x553002 x553003))
def engrosslaw11_NodeAll.j2:Nat→ByteArray→List Int→List Int→Int→Int→Bool→List (S56)→List ByteArray→List Int→Option (Bool)
 | 0,_,_,_,_,_,_,_,_,_=>none
 | k+1,x1,x6,x8,x9,x10,x553000,x553001,x553002,x553003=>(node_Decode.f k x8).bind fun bt617=>(if x9=0 then ((engrossref10_Whole.f x6).bind fun t629=>(if (strOfNums x8).toList=(strOfNums t629).toList then (if bt617.2.2.2.2=0 then ((engrosslaw11_Back.f k bt617.1 bt617.2.1 bt617.2.2.1 bt617.2.2.2.1).bind fun bt632=>((engrossref10_EqNode.f k bt632.1 bt632.2.1 bt632.2.2.1 bt632.2.2.2 x553000 x553001 x553002 x553003).bind fun t642=>(if t642=true then ((engrosslaw11_Of.f k x553000 x553001 x553002 x553003).bind fun bt643=>((node_Kid.f k bt643.1 bt643.2.1 bt643.2.2.1 bt643.2.2.2 x1).bind fun t653=>(some (t653 == x10)))) else (none)))) else (none)) else (none))) else (none))
end
def engrosslaw11_NodeAll.f (k:Nat) (a0_0:Bool) (l0_1:List (S56)) (l0_2:List ByteArray) (l0_3:List Int) (a1:ByteArray):Option (Bool):=(engrosslaw11_begun.f k).bind fun t553=>(if t553=true then ((engrosslaw11_Cut.f k a0_0 l0_1 l0_2 l0_3).bind fun bt554=>((engrosslaw1_Cut.f a1 20).bind fun t564=>((engrossref10_NodeBytes.f k bt554.1 bt554.2.1 bt554.2.2.1 bt554.2.2.2).bind fun t565=>((engrossref10_MayNode.f k bt554.1 bt554.2.1 bt554.2.2.1 bt554.2.2.2).bind fun t568=>((engrosslaw11_Of.f k bt554.1 bt554.2.1 bt554.2.2.1 bt554.2.2.2).bind fun bt569=>((node_May.f k bt569.1 bt569.2.1 bt569.2.2.1 bt569.2.2.2).bind fun t579=>(if (t579 != t568)=true then (none) else ((engrosslaw11_Of.f k bt554.1 bt554.2.1 bt554.2.2.1 bt554.2.2.2).bind fun bt580=>((node_Size.f k bt580.1 bt580.2.1 bt580.2.2.1 bt580.2.2.2).bind fun t590=>(engrosslaw11_NodeAll.j0 k t564 t565 t568 (t590 != (t565.length:Int)) bt554.1 bt554.2.1 bt554.2.2.1 bt554.2.2.2)))))))))) else (none))
def engrosslaw11_NodeAll.T23:Bool × List (List Nat × List Nat):=(true,[([],[]),([0],[0]),([1],[1]),([2],[2]),([3,2],[2,3]),([2],[2]),([5,2,2],[2,5]),([6,2],[2,6]),([4,7,2],[2,4,7]),([2,8],[2,8]),([9,6],[9]),([10],[10]),([11,10],[10,11]),([10,12],[10,12]),([13,10],[13]),([14],[14]),([15,14,14],[14,15]),([14],[14]),([16,17,16,14],[14,16,17]),([14,18],[14,18]),([19,18],[19]),([20],[20]),([21,20,20],[20,21]),([20],[20]),([22,23,22,20],[20,22,23]),([20],[20]),([24,25,20],[20,24,25]),([20,26],[20,26]),([27,24,0,1,2,3,4,5,6,7,8,9,10,11,12,13,14,15,16,17,18,19,20,21,22,23,24,25,26,27],[27])])
def engrosslaw11_NodeAll.B23:List Nat:=[0,1,3,7,15,7,39,103,255,511,1023,2047,4095,8191,16383,32767,65535,32767,262143,524287,1048575,2097151,4194303,2097151,16777215,2097151,67108863,134217727,268435455]
theorem engrosslaw11_NodeAll.tab23:rtab .any (opsOf Try.f3 23)=engrosslaw11_NodeAll.T23:=by kernel_rfl
theorem engrosslaw11_NodeAll.bits23:waitsOk engrosslaw11_NodeAll.T23.2 engrosslaw11_NodeAll.B23=true:=by kernel_rfl
set_option maxHeartbeats 8000000 in
set_option maxRecDepth 100000 in
theorem engrosslaw11_NodeAll.calls (k:Nat) (cg:Bool) (dV:Option Addr) (dW:Nat) (bO:List (S56)) (dX:Option Addr) (dY:Nat) (bU:List ByteArray) (dZ:Option Addr) (d2:Nat) (bX:List Int) (a1:ByteArray) (r:Bool) (w:World) (eK:Kd.C k56 w dV bO.length bO) (eL:bO.length≤dW) (eM:Kd.C Kd.string w dX bU.length bU) (eN:bU.length≤dY) (eO:Kd.C (Kd.int .i64) w dZ bX.length bX) (eP:bX.length≤d2) (h:engrosslaw11_NodeAll.f k cg bO bU bX a1=some r) :
  Calls Try.prog 3 #[.agg #[.bool cg,.slice dV bO.length dW,.slice dX bU.length dY,.slice dZ bX.length d2],.string a1] w fun e w'=>e = .returned (.bool r)∧Below w.heap.size w w':=by
 have hu26:=Try.underlying26
 have hu36:=Try.underlying36
 have f4:=aK eK
 have f5:=aK eL
 clear eK eL
 have f6:=aK eM
 have f7:=aK eN
 clear eM eN
 have f8:=aK eO
 have f9:=aK eP
 clear eO eP
 have HB:=aK (Below.refl w.heap.size w)
 have H:((engrosslaw11_begun.f k).bind fun d3=>(if d3=true then ((engrosslaw11_Cut.f k cg bO bU bX).bind fun ak=>((engrosslaw1_Cut.f a1 20).bind fun ax=>((engrossref10_NodeBytes.f k ak.1 ak.2.1 ak.2.2.1 ak.2.2.2).bind fun am=>((engrossref10_MayNode.f k ak.1 ak.2.1 ak.2.2.1 ak.2.2.2).bind fun aH=>((engrosslaw11_Of.f k ak.1 ak.2.1 ak.2.2.1 ak.2.2.2).bind fun aw=>((node_May.f k aw.1 aw.2.1 aw.2.2.1 aw.2.2.2).bind fun bo=>(if (bo != aH)=true then (none) else ((engrosslaw11_Of.f k ak.1 ak.2.1 ak.2.2.1 ak.2.2.2).bind fun aq=>((node_Size.f k aq.1 aq.2.1 aq.2.2.1 aq.2.2.2).bind fun bn=>(engrosslaw11_NodeAll.j0 k ax am aH (bn != (am.length:Int)) ak.1 ak.2.1 ak.2.2.1 ak.2.2.2)))))))))) else (none)))=some r:=h
 clear h
 replace H:=oS H
 obtain⟨d3,A30,H⟩:=H
 replace H:(if d3=true then ((engrosslaw11_Cut.f k cg bO bU bX).bind fun ak=>((engrosslaw1_Cut.f a1 20).bind fun ax=>((engrossref10_NodeBytes.f k ak.1 ak.2.1 ak.2.2.1 ak.2.2.2).bind fun am=>((engrossref10_MayNode.f k ak.1 ak.2.1 ak.2.2.1 ak.2.2.2).bind fun aH=>((engrosslaw11_Of.f k ak.1 ak.2.1 ak.2.2.1 ak.2.2.2).bind fun aw=>((node_May.f k aw.1 aw.2.1 aw.2.2.1 aw.2.2.2).bind fun bo=>(if (bo != aH)=true then (none) else ((engrosslaw11_Of.f k ak.1 ak.2.1 ak.2.2.1 ak.2.2.2).bind fun aq=>((node_Size.f k aq.1 aq.2.1 aq.2.2.1 aq.2.2.2).bind fun bn=>(engrosslaw11_NodeAll.j0 k ax am aH (bn != (am.length:Int)) ak.1 ak.2.1 ak.2.2.1 ak.2.2.2)))))))))) else (none))=some r:=H
 have A3:=aK A30
 clear A30
 by_cases c4:d3=true
 rotate_left
 ·replace c4:=Bool.eq_false_iff.mpr c4
  subst c4
  have H1:(none)=some r:=by rw [if_neg (show ¬ (false=true) by decide)] at H;exact H
  clear H
  have H:=H1
  clear H1
  exact absurd H (by simp)
 subst c4
 have H1:((engrosslaw11_Cut.f k cg bO bU bX).bind fun ak=>((engrosslaw1_Cut.f a1 20).bind fun ax=>((engrossref10_NodeBytes.f k ak.1 ak.2.1 ak.2.2.1 ak.2.2.2).bind fun am=>((engrossref10_MayNode.f k ak.1 ak.2.1 ak.2.2.1 ak.2.2.2).bind fun aH=>((engrosslaw11_Of.f k ak.1 ak.2.1 ak.2.2.1 ak.2.2.2).bind fun aw=>((node_May.f k aw.1 aw.2.1 aw.2.2.1 aw.2.2.2).bind fun bo=>(if (bo != aH)=true then (none) else ((engrosslaw11_Of.f k ak.1 ak.2.1 ak.2.2.1 ak.2.2.2).bind fun aq=>((node_Size.f k aq.1 aq.2.1 aq.2.2.1 aq.2.2.2).bind fun bn=>(engrosslaw11_NodeAll.j0 k ax am aH (bn != (am.length:Int)) ak.1 ak.2.1 ak.2.2.1 ak.2.2.2))))))))))=some r:=by rw [if_pos rfl] at H;exact H
 clear H
 have H:=H1
 clear H1
 replace H:=oS H
 obtain⟨⟨al,ah,ag,ai⟩,A50,H⟩:=H
 replace H:((engrosslaw1_Cut.f a1 20).bind fun ax=>((engrossref10_NodeBytes.f k al ah ag ai).bind fun am=>((engrossref10_MayNode.f k al ah ag ai).bind fun aH=>((engrosslaw11_Of.f k al ah ag ai).bind fun aw=>((node_May.f k aw.1 aw.2.1 aw.2.2.1 aw.2.2.2).bind fun bo=>(if (bo != aH)=true then (none) else ((engrosslaw11_Of.f k al ah ag ai).bind fun aq=>((node_Size.f k aq.1 aq.2.1 aq.2.2.1 aq.2.2.2).bind fun bn=>(engrosslaw11_NodeAll.j0 k ax am aH (bn != (am.length:Int)) al ah ag ai)))))))))=some r:=H
 have A5:=aK A50
 clear A50
 replace H:=oS H
 obtain⟨ax,A60,H⟩:=H
 replace H:((engrossref10_NodeBytes.f k al ah ag ai).bind fun am=>((engrossref10_MayNode.f k al ah ag ai).bind fun aH=>((engrosslaw11_Of.f k al ah ag ai).bind fun aw=>((node_May.f k aw.1 aw.2.1 aw.2.2.1 aw.2.2.2).bind fun bo=>(if (bo != aH)=true then (none) else ((engrosslaw11_Of.f k al ah ag ai).bind fun aq=>((node_Size.f k aq.1 aq.2.1 aq.2.2.1 aq.2.2.2).bind fun bn=>(engrosslaw11_NodeAll.j0 k ax am aH (bn != (am.length:Int)) al ah ag ai))))))))=some r:=H
 have A6:=aK A60
 clear A60
 replace H:=oS H
 obtain⟨am,A70,H⟩:=H
 replace H:((engrossref10_MayNode.f k al ah ag ai).bind fun aH=>((engrosslaw11_Of.f k al ah ag ai).bind fun aw=>((node_May.f k aw.1 aw.2.1 aw.2.2.1 aw.2.2.2).bind fun bo=>(if (bo != aH)=true then (none) else ((engrosslaw11_Of.f k al ah ag ai).bind fun aq=>((node_Size.f k aq.1 aq.2.1 aq.2.2.1 aq.2.2.2).bind fun bn=>(engrosslaw11_NodeAll.j0 k ax am aH (bn != (am.length:Int)) al ah ag ai)))))))=some r:=H
 have A7:=aK A70
 clear A70
 replace H:=oS H
 obtain⟨aH,A80,H⟩:=H
 replace H:((engrosslaw11_Of.f k al ah ag ai).bind fun aw=>((node_May.f k aw.1 aw.2.1 aw.2.2.1 aw.2.2.2).bind fun bo=>(if (bo != aH)=true then (none) else ((engrosslaw11_Of.f k al ah ag ai).bind fun aq=>((node_Size.f k aq.1 aq.2.1 aq.2.2.1 aq.2.2.2).bind fun bn=>(engrosslaw11_NodeAll.j0 k ax am aH (bn != (am.length:Int)) al ah ag ai))))))=some r:=H
 have A8:=aK A80
 clear A80
 have HC9:=aK H
 clear H
 go_enter Try.func3,Try.ntmps3
 go_upto_region 7 with (first|((with_reducible refine gate_dst (N:=2) rfl ?_);(try (refine gate_guard (by rfl) ?_;dsimp only));refine box_event ?hg (N:=2) ?hd (cs:=#[.bool cg,.slice dV bO.length dW,.slice dX bU.length dY,.slice dZ bX.length d2]) (t:=26) ?hr ?_;(case hd=>rfl);(case hg=>rfl);(case hr=>first|(go_simp;done)|(go_simp;rfl));intro ao hg w10 hbox hb;have ab:=aK (hbox);have iX:=bZ HB hg;have iY:=bZ HB hg;replace HB:=bW HB hb;clear hb hbox hg)|((with_reducible refine gate_callee (f:=11) rfl ?_);refine gL (some 14) Try.func11 #[] ?_;(with_reducible refine (engrosslaw11_begun.calls k  true _ A3.out).mono ?_);rintro e w11 ⟨rfl,hb⟩;refine⟨_,rfl,?_⟩;replace ab:=bB ab hb;replace HB:=bW HB hb;(try clear hb);(try clear hb2);(try clear hk);(try clear hi);obtain⟨cF,cG,cH,cI,cJ,cK,cL,cM⟩:=bf4 (w:=w11) ab)|((with_reducible refine gate_callee (f:=12) rfl ?_);refine gL (some 18) Try.func12 #[.agg #[.bool cg,.slice dV bO.length dW,.slice dX bU.length dY,.slice dZ bX.length d2]] ?_;(with_reducible refine (engrosslaw11_Cut.calls k cg _ _ bO _ _ bU _ _ bX al ah ag ai _ ?side1 ?side2 ?side3 ?side4 ?side5 ?side6 A5.out).mono ?_);(case side1=>repeat (first|exact (Kd.C_below f4.out HB.out)|(with_reducible refine Kd.C_alloc ?_ _)|(with_reducible refine Kd.C_drewN ?_ _)|(with_reducible refine Kd.C_drew ?_)));(case side2=>exact f5.out);(case side3=>repeat (first|exact (Kd.C_below f6.out HB.out)|(with_reducible refine Kd.C_alloc ?_ _)|(with_reducible refine Kd.C_drewN ?_ _)|(with_reducible refine Kd.C_drew ?_)));(case side4=>exact f7.out);(case side5=>repeat (first|exact (Kd.C_below f8.out HB.out)|(with_reducible refine Kd.C_alloc ?_ _)|(with_reducible refine Kd.C_drewN ?_ _)|(with_reducible refine Kd.C_drew ?_)));(case side6=>exact f9.out);rintro e w13 ⟨gA,gB,gC,rfl,ho0,ho1,ho2,hb⟩;refine⟨_,rfl,?_⟩;have av:=aK (Kd.R_lower ho0 (below_size (bC HB)));have aE:=aK (Kd.R_lower ho1 (below_size (bC HB)));have aG:=aK (Kd.R_lower ho2 (below_size (bC HB)));replace ab:=bB ab hb;replace HB:=bW HB hb;(try clear hb);(try clear hb2);(try clear hk);(try clear hi);(try clear ho0);(try clear ho1);(try clear ho2))|((with_reducible refine gate_callee (f:=13) rfl ?_);refine gL (some 20) Try.func13 #[.string a1,.int .i64 20] ?_;(with_reducible refine (engrosslaw1_Cut.calls a1 20 ax _ A6.out).mono ?_);rintro e w' ⟨rfl,⟨nd,rfl⟩⟩;refine⟨_,rfl,?_⟩;(try (rw [drewN_self w13];generalize hq_:World.drewN w13 _=w13;have n0_:Aside0 (Kd.R k56 56 w13 w.heap.size (fun _=>True) gA ah):=⟨by rw [← hq_];exact (by (with_reducible repeat (first|apply Kd.R_alloc|apply Kd.R_drewN|apply Kd.R_drew));exact av.out)⟩;have n1_:Aside0 (Kd.R Kd.string 9 w13 w.heap.size (fun _=>True) gB ag):=⟨by rw [← hq_];exact (by (with_reducible repeat (first|apply Kd.R_alloc|apply Kd.R_drewN|apply Kd.R_drew));exact aE.out)⟩;have n2_:Aside0 (Kd.R (Kd.int .i64) 3 w13 w.heap.size (fun _=>True) gC ai):=⟨by rw [← hq_];exact (by (with_reducible repeat (first|apply Kd.R_alloc|apply Kd.R_drewN|apply Kd.R_drew));exact aG.out)⟩;have n3_:=bE ab hq_.symm;have n4_:=bH HB hq_.symm;clear av aE aG ab HB hq_;have av:=n0_;have aE:=n1_;have aG:=n2_;have ab:=n3_;have HB:=n4_;clear n0_ n1_ n2_ n3_ n4_));obtain⟨cN,cO,cP,cQ,cR,cS,cT,cU⟩:=bf4 (w:=w13) ab;obtain⟨az,ay,gD⟩:=Kd.R_slice av.out;subst gD;obtain⟨aQ,aJ,gE⟩:=Kd.R_slice aE.out;subst gE;obtain⟨aT,aM,gF⟩:=Kd.R_slice aG.out;subst gF)|((with_reducible refine gate_callee (f:=14) rfl ?_);refine gL (some 22) Try.func14 #[.agg #[.bool al,.slice az ah.length ay,.slice aQ ag.length aJ,.slice aT ai.length aM]] ?_;(with_reducible refine (engrossref10_NodeBytes.calls k al _ _ ah _ _ ag _ _ ai am _ ?side1 ?side2 ?side3 ?side4 ?side5 ?side6 A7.out).mono ?_);(case side1=>refine (Kd.R_reads' (e:=56) (base:=w.heap.size) (ok:=fun k_=>True) (n:=ah.length) (c:=ay) ?_).2.2;exact (by (with_reducible repeat (first|apply Kd.R_alloc|apply Kd.R_drewN|apply Kd.R_drew));exact (Kd.R_mono (Kd.R_far (p:=⟨ao,3,none⟩) (Kd.R_far (p:=⟨ao,2,none⟩) (Kd.R_far (p:=⟨ao,1,none⟩) (Kd.R_far (p:=⟨ao,0,none⟩) (Kd.R_types av.out ab.out (by decide)) (fun _ hk=>hk.2) (.bool al)) (fun _ hk=>hk.2) (.slice az ah.length ay)) (fun _ hk=>hk.2) (.slice aQ ag.length aJ)) (fun _ hk=>hk.2) (.slice aT ai.length aM)) (fun _ h_=>h_.1))));(case side2=>exact (Kd.R_reads' av.out).2.1);(case side3=>refine (Kd.R_reads' (e:=9) (base:=w.heap.size) (ok:=fun k_=>True) (n:=ag.length) (c:=aJ) ?_).2.2;exact (by (with_reducible repeat (first|apply Kd.R_alloc|apply Kd.R_drewN|apply Kd.R_drew));exact (Kd.R_mono (Kd.R_far (p:=⟨ao,3,none⟩) (Kd.R_far (p:=⟨ao,2,none⟩) (Kd.R_far (p:=⟨ao,1,none⟩) (Kd.R_far (p:=⟨ao,0,none⟩) (Kd.R_types aE.out ab.out (by decide)) (fun _ hk=>hk.2) (.bool al)) (fun _ hk=>hk.2) (.slice az ah.length ay)) (fun _ hk=>hk.2) (.slice aQ ag.length aJ)) (fun _ hk=>hk.2) (.slice aT ai.length aM)) (fun _ h_=>h_.1))));(case side4=>exact (Kd.R_reads' aE.out).2.1);(case side5=>refine (Kd.R_reads' (e:=3) (base:=w.heap.size) (ok:=fun k_=>True) (n:=ai.length) (c:=aM) ?_).2.2;exact (by (with_reducible repeat (first|apply Kd.R_alloc|apply Kd.R_drewN|apply Kd.R_drew));exact (Kd.R_mono (Kd.R_far (p:=⟨ao,3,none⟩) (Kd.R_far (p:=⟨ao,2,none⟩) (Kd.R_far (p:=⟨ao,1,none⟩) (Kd.R_far (p:=⟨ao,0,none⟩) (Kd.R_types aG.out ab.out (by decide)) (fun _ hk=>hk.2) (.bool al)) (fun _ hk=>hk.2) (.slice az ah.length ay)) (fun _ hk=>hk.2) (.slice aQ ag.length aJ)) (fun _ hk=>hk.2) (.slice aT ai.length aM)) (fun _ h_=>h_.1))));(case side6=>exact (Kd.R_reads' aG.out).2.1);rintro e w18 ⟨bx,rfl,ho0,hb⟩;refine⟨_,rfl,?_⟩;have aX:=aK (Kd.R_lower ho0 (below_size (bC HB)));replace av:=aK (Kd.R_below (by (with_reducible repeat (first|apply Kd.R_alloc|apply Kd.R_drewN|apply Kd.R_drew));exact (Kd.R_mono (Kd.R_far (p:=⟨ao,3,none⟩) (Kd.R_far (p:=⟨ao,2,none⟩) (Kd.R_far (p:=⟨ao,1,none⟩) (Kd.R_far (p:=⟨ao,0,none⟩) (Kd.R_types av.out ab.out (by decide)) (fun _ hk=>hk.2) (.bool al)) (fun _ hk=>hk.2) (.slice az ah.length ay)) (fun _ hk=>hk.2) (.slice aQ ag.length aJ)) (fun _ hk=>hk.2) (.slice aT ai.length aM)) (fun _ h_=>h_.1))) hb);replace aE:=aK (Kd.R_below (by (with_reducible repeat (first|apply Kd.R_alloc|apply Kd.R_drewN|apply Kd.R_drew));exact (Kd.R_mono (Kd.R_far (p:=⟨ao,3,none⟩) (Kd.R_far (p:=⟨ao,2,none⟩) (Kd.R_far (p:=⟨ao,1,none⟩) (Kd.R_far (p:=⟨ao,0,none⟩) (Kd.R_types aE.out ab.out (by decide)) (fun _ hk=>hk.2) (.bool al)) (fun _ hk=>hk.2) (.slice az ah.length ay)) (fun _ hk=>hk.2) (.slice aQ ag.length aJ)) (fun _ hk=>hk.2) (.slice aT ai.length aM)) (fun _ h_=>h_.1))) hb);replace aG:=aK (Kd.R_below (by (with_reducible repeat (first|apply Kd.R_alloc|apply Kd.R_drewN|apply Kd.R_drew));exact (Kd.R_mono (Kd.R_far (p:=⟨ao,3,none⟩) (Kd.R_far (p:=⟨ao,2,none⟩) (Kd.R_far (p:=⟨ao,1,none⟩) (Kd.R_far (p:=⟨ao,0,none⟩) (Kd.R_types aG.out ab.out (by decide)) (fun _ hk=>hk.2) (.bool al)) (fun _ hk=>hk.2) (.slice az ah.length ay)) (fun _ hk=>hk.2) (.slice aQ ag.length aJ)) (fun _ hk=>hk.2) (.slice aT ai.length aM)) (fun _ h_=>h_.1))) hb);replace ab:=aK (blk_below (g:=ao) (o:=.cells #[.bool al,.slice az ah.length ay,.slice aQ ag.length aJ,.slice aT ai.length aM] 26 (0,0)) (bR ab) hb);replace HB:=bW HB hb;(try clear hb);(try clear hb2);(try clear hk);(try clear hi);(try clear ho0);obtain⟨cV,cX,cY,cZ,da,db,dc,dd⟩:=bf4 (w:=w18) ab)|((with_reducible refine gate_callee (f:=15) rfl ?_);refine gL (some 24) Try.func15 #[.agg #[.bool al,.slice az ah.length ay,.slice aQ ag.length aJ,.slice aT ai.length aM]] ?_;(with_reducible refine (engrossref10_MayNode.calls k al _ _ ah _ _ ag _ _ ai aH _ ?side1 ?side2 ?side3 ?side4 ?side5 ?side6 A8.out).mono ?_);(case side1=>exact sC (Kd.R_reads' av.out).2.2);(case side2=>exact (Kd.R_reads' av.out).2.1);(case side3=>exact sC (Kd.R_reads' aE.out).2.2);(case side4=>exact (Kd.R_reads' aE.out).2.1);(case side5=>exact sC (Kd.R_reads' aG.out).2.2);(case side6=>exact (Kd.R_reads' aG.out).2.1);rintro e w20 ⟨rfl,hb⟩;refine⟨_,rfl,?_⟩;replace av:=rB av hb;replace aE:=rB aE hb;replace aG:=rB aG hb;replace aX:=rB aX hb;replace ab:=bB ab hb;replace HB:=bW HB hb;(try clear hb);(try clear hb2);(try clear hk);(try clear hi)))
 (try simp only [Act.put,List.setIfInBounds_toArray,List.set_cons_zero,List.set_cons_succ])
 go_cut [37] (fun v37 wc=>∃ (kq:Nat) (dz:Bool),v37 = .bool dz∧Aside0 (engrosslaw11_NodeAll.j0 kq ax am aH dz al ah ag ai=some r)∧Aside0 (kq≤k)∧Aside0 (Kd.R (Kd.int .u8) 5 wc w.heap.size (fun _=>True) bx am)∧Aside0 (Kd.R k56 56 wc w.heap.size (fun _=>True) (.slice az ah.length ay) ah)∧Aside0 (Kd.R Kd.string 9 wc w.heap.size (fun _=>True) (.slice aQ ag.length aJ) ag)∧Aside0 (Kd.R (Kd.int .i64) 3 wc w.heap.size (fun _=>True) (.slice aT ai.length aM) ai)∧Aside0 (wc.heap[ao]? = some (.cells #[.bool al,(.slice az ah.length ay),(.slice aQ ag.length aJ),(.slice aT ai.length aM)] 26 (0,0)))∧Aside0 (Below w.heap.size w wc))
 case first =>
  have H:=HC9.out
  clear HC9
  replace H:=oS H
  obtain⟨⟨d4,de,d5,d6⟩,fB,H⟩:=H
  replace H:((node_May.f k d4 de d5 d6).bind fun bo=>(if (bo != aH)=true then (none) else ((engrosslaw11_Of.f k al ah ag ai).bind fun aq=>((node_Size.f k aq.1 aq.2.1 aq.2.2.1 aq.2.2.2).bind fun bn=>(engrosslaw11_NodeAll.j0 k ax am aH (bn != (am.length:Int)) al ah ag ai)))))=some r:=H
  have A21:=aK fB
  clear fB
  replace H:=oS H
  obtain⟨bo,fC,H⟩:=H
  replace H:(if (bo != aH)=true then (none) else ((engrosslaw11_Of.f k al ah ag ai).bind fun aq=>((node_Size.f k aq.1 aq.2.1 aq.2.2.1 aq.2.2.2).bind fun bn=>(engrosslaw11_NodeAll.j0 k ax am aH (bn != (am.length:Int)) al ah ag ai))))=some r:=H
  have A22:=aK fC
  clear fC
  by_cases c23:(bo != aH)=true
  ·rw [if_pos c23] at H
   exact absurd H (by simp)
  rw [if_neg c23] at H
  have cu:(bo != aH)=false:=by simpa using c23
  (try (have d7:decide (bo=aH)=true:=by simpa using c23))
  (try (have d8:(bo == aH)=true:=by simpa using c23))
  clear c23
  (first|rw [cu]|(simp only [i64_w,i32_w];rw [cu])|skip)
  replace H:=oS H
  obtain⟨⟨ex,ey,ez,eA⟩,fD,H⟩:=H
  replace H:((node_Size.f k ex ey ez eA).bind fun bn=>(engrosslaw11_NodeAll.j0 k ax am aH (bn != (am.length:Int)) al ah ag ai))=some r:=H
  have A24:=aK fD
  clear fD
  replace H:=oS H
  obtain⟨bn,fE,H⟩:=H
  replace H:(engrosslaw11_NodeAll.j0 k ax am aH (bn != (am.length:Int)) al ah ag ai)=some r:=H
  have A25:=aK fE
  clear fE
  have H':=aK H
  clear H
  obtain⟨df,dg,dh,di,dj,dk,dl,dm⟩:=bf4 (w:=w20) ab
  go_wp2_with (first|((with_reducible refine gate_callee (f:=17) rfl ?_);refine gL (some 26) Try.func17 #[.agg #[.bool al,.slice az ah.length ay,.slice aQ ag.length aJ,.slice aT ai.length aM]] ?_;(with_reducible refine (engrosslaw11_Of.calls k al _ _ ah (fun k_=>some k_=(.slice aQ ag.length aJ:Value).ownBlock) _ _ ag (fun k_=>some k_=(.slice aT ai.length aM:Value).ownBlock) _ _ ai d4 de d5 d6 _ ?side1 ?side2 ?side3 ?side4 A21.out).mono ?_);(case side1=>exact sC (Kd.R_reads' av.out).2.2);(case side2=>exact (Kd.R_reads' av.out).2.1);(case side3=>exact Kd.R_V (Kd.R_tight rfl (Kd.R_types (Kd.R_apart' (Kd.R_apart' (Kd.R_apart' (aE.out) (Kd.R_typed av.out) (by decide)) (Kd.R_typed aG.out) (by decide)) (Kd.R_typed aX.out) (by decide)) ab.out (by decide))));(case side4=>exact Kd.R_V (Kd.R_tight rfl (Kd.R_types (Kd.R_apart' (Kd.R_apart' (Kd.R_apart' (aG.out) (Kd.R_typed av.out) (by decide)) (Kd.R_typed aE.out) (by decide)) (Kd.R_typed aX.out) (by decide)) ab.out (by decide))));rintro e w27 ⟨fF,jc,jd,rfl,ho0,ho1,ho2,hb⟩;refine⟨_,rfl,?_⟩;have br:=aK (Kd.R_lower (Kd.R_mono (ok':=fun k_=>True) ho0 (fun _ hk_=>trivial)) (below_size (bC HB)));have q0_:=(Kd.R_types (Kd.R_apart' (Kd.R_apart' (Kd.R_apart' (aE.out) (Kd.R_typed av.out) (by decide)) (Kd.R_typed aG.out) (by decide)) (Kd.R_typed aX.out) (by decide)) ab.out (by decide));have q1_:=(Kd.R_types (Kd.R_apart' (Kd.R_apart' (Kd.R_apart' (aG.out) (Kd.R_typed av.out) (by decide)) (Kd.R_typed aE.out) (by decide)) (Kd.R_typed aX.out) (by decide)) ab.out (by decide));have bF:=aK (Kd.V_lower (Kd.V_mono (ok':=fun k_=>some k_≠(fF:Value).ownBlock∧some k_≠(.slice az ah.length ay:Value).ownBlock∧some k_≠(bx:Value).ownBlock∧k_≠ao) ho1 (fun k_ hk_=>⟨hk_.2,Or.elim hk_.1 (fun hs_=>Or.elim hs_ (fun hs_=>(q0_.1 k_ hs_.symm).1.1.1.2) (fun hs_=>(q1_.1 k_ hs_.symm).1.1.1.2)) (fun hn_=>(rF av k_ hn_)),Or.elim hk_.1 (fun hs_=>Or.elim hs_ (fun hs_=>(q0_.1 k_ hs_.symm).1.2) (fun hs_=>(q1_.1 k_ hs_.symm).1.2)) (fun hn_=>(rF aX k_ hn_)),Or.elim hk_.1 (fun hs_=>Or.elim hs_ (fun hs_=>(q0_.1 k_ hs_.symm).2) (fun hs_=>(q1_.1 k_ hs_.symm).2)) (fun hn_=>(Kd.freshB (bQ ab) k_ hn_))⟩)) (below_size (bC HB)));have bI:=aK (Kd.V_lower (Kd.V_mono (ok':=fun k_=>some k_≠(fF:Value).ownBlock∧some k_≠(.slice az ah.length ay:Value).ownBlock∧some k_≠(bx:Value).ownBlock∧k_≠ao) ho2 (fun k_ hk_=>⟨hk_.2,Or.elim hk_.1 (fun hs_=>Or.elim hs_ (fun hs_=>(q0_.1 k_ hs_.symm).1.1.1.2) (fun hs_=>(q1_.1 k_ hs_.symm).1.1.1.2)) (fun hn_=>(rF av k_ hn_)),Or.elim hk_.1 (fun hs_=>Or.elim hs_ (fun hs_=>(q0_.1 k_ hs_.symm).1.2) (fun hs_=>(q1_.1 k_ hs_.symm).1.2)) (fun hn_=>(rF aX k_ hn_)),Or.elim hk_.1 (fun hs_=>Or.elim hs_ (fun hs_=>(q0_.1 k_ hs_.symm).2) (fun hs_=>(q1_.1 k_ hs_.symm).2)) (fun hn_=>(Kd.freshB (bQ ab) k_ hn_))⟩)) (below_size (bC HB)));clear q0_ q1_;replace av:=rB av hb;replace aE:=rB aE hb;replace aG:=rB aG hb;replace aX:=rB aX hb;replace ab:=bB ab hb;replace HB:=bW HB hb;(try clear hb);(try clear hb2);(try clear hk);(try clear hi);(try clear ho0);(try clear ho1);(try clear ho2);obtain⟨eB,eC,gG⟩:=Kd.R_slice br.out;subst gG;obtain⟨gH,gI,gJ⟩:=Kd.V_slice bF.out;subst gJ;obtain⟨gK,gM,gN⟩:=Kd.V_slice bI.out;subst gN)|((with_reducible refine gate_callee (f:=16) rfl ?_);refine gL (some 27) Try.func16 #[.agg #[.bool d4,.slice eB de.length eC,.slice gH d5.length gI,.slice gK d6.length gM]] ?_;(with_reducible refine (node_May.calls k d4 _ _ de _ _ d5 _ _ d6 bo _ ?side1 ?side2 ?side3 ?side4 ?side5 ?side6 A22.out).mono ?_);(case side1=>exact sC (Kd.R_reads' br.out).2.2);(case side2=>exact (Kd.R_reads' br.out).2.1);(case side3=>exact sC (Kd.V_reads' bF.out).2.2);(case side4=>exact (Kd.V_reads' bF.out).2.1);(case side5=>exact sC (Kd.V_reads' bI.out).2.2);(case side6=>exact (Kd.V_reads' bI.out).2.1);rintro e w31 ⟨rfl,hb⟩;refine⟨_,rfl,?_⟩;replace av:=rB av hb;replace aE:=rB aE hb;replace aG:=rB aG hb;replace aX:=rB aX hb;replace br:=rB br hb;replace bF:=vB bF hb;replace bI:=vB bI hb;replace ab:=bB ab hb;replace HB:=bW HB hb;(try clear hb);(try clear hb2);(try clear hk);(try clear hi);obtain⟨dn,dp,dq,dr,dt,du,dv,dw⟩:=bf4 (w:=w31) ab)|(go_at_call 17;(with_reducible refine (engrosslaw11_Of.calls k al _ _ ah (fun k_=>some k_=(.slice aQ ag.length aJ:Value).ownBlock) _ _ ag (fun k_=>some k_=(.slice aT ai.length aM:Value).ownBlock) _ _ ai ex ey ez eA _ ?side1 ?side2 ?side3 ?side4 A24.out).mono ?_);(case side1=>exact sC (Kd.R_reads' av.out).2.2);(case side2=>exact (Kd.R_reads' av.out).2.1);(case side3=>exact Kd.R_V (Kd.R_tight rfl (Kd.R_types (Kd.R_apart' (Kd.R_apart' (Kd.R_apart' (Kd.R_apart' (aE.out) (Kd.R_typed av.out) (by decide)) (Kd.R_typed aG.out) (by decide)) (Kd.R_typed aX.out) (by decide)) (Kd.R_typed br.out) (by decide)) ab.out (by decide))));(case side4=>exact Kd.R_V (Kd.R_tight rfl (Kd.R_types (Kd.R_apart' (Kd.R_apart' (Kd.R_apart' (Kd.R_apart' (aG.out) (Kd.R_typed av.out) (by decide)) (Kd.R_typed aE.out) (by decide)) (Kd.R_typed aX.out) (by decide)) (Kd.R_typed br.out) (by decide)) ab.out (by decide))));rintro e w33 ⟨fG,je,jf,rfl,ho0,ho1,ho2,hb⟩;have cv:=aK (Kd.R_lower (Kd.R_new' (Kd.R_mono (ok':=fun k_=>True) ho0 (fun _ hk_=>trivial)) (Kd.R_lt (by (with_reducible repeat (first|apply Kd.R_alloc|apply Kd.R_drewN|apply Kd.R_drew));exact br.out))) (below_size (bC HB)));have q0_:=(Kd.R_types (Kd.R_apart' (Kd.R_apart' (Kd.R_apart' (Kd.R_apart' (aE.out) (Kd.R_typed av.out) (by decide)) (Kd.R_typed aG.out) (by decide)) (Kd.R_typed aX.out) (by decide)) (Kd.R_typed br.out) (by decide)) ab.out (by decide));have q1_:=(Kd.R_types (Kd.R_apart' (Kd.R_apart' (Kd.R_apart' (Kd.R_apart' (aG.out) (Kd.R_typed av.out) (by decide)) (Kd.R_typed aE.out) (by decide)) (Kd.R_typed aX.out) (by decide)) (Kd.R_typed br.out) (by decide)) ab.out (by decide));have cw:=aK (Kd.V_lower (Kd.V_mono (ok':=fun k_=>some k_≠(fG:Value).ownBlock∧some k_≠(.slice az ah.length ay:Value).ownBlock∧some k_≠(bx:Value).ownBlock∧some k_≠(.slice eB de.length eC:Value).ownBlock∧k_≠ao) ho1 (fun k_ hk_=>⟨hk_.2,Or.elim hk_.1 (fun hs_=>Or.elim hs_ (fun hs_=>(q0_.1 k_ hs_.symm).1.1.1.1.2) (fun hs_=>(q1_.1 k_ hs_.symm).1.1.1.1.2)) (fun hn_=>(rF av k_ hn_)),Or.elim hk_.1 (fun hs_=>Or.elim hs_ (fun hs_=>(q0_.1 k_ hs_.symm).1.1.2) (fun hs_=>(q1_.1 k_ hs_.symm).1.1.2)) (fun hn_=>(rF aX k_ hn_)),Or.elim hk_.1 (fun hs_=>Or.elim hs_ (fun hs_=>(q0_.1 k_ hs_.symm).1.2) (fun hs_=>(q1_.1 k_ hs_.symm).1.2)) (fun hn_=>(rF br k_ hn_)),Or.elim hk_.1 (fun hs_=>Or.elim hs_ (fun hs_=>(q0_.1 k_ hs_.symm).2) (fun hs_=>(q1_.1 k_ hs_.symm).2)) (fun hn_=>(Kd.freshB (bQ ab) k_ hn_))⟩)) (below_size (bC HB)));have cx:=aK (Kd.V_lower (Kd.V_mono (ok':=fun k_=>some k_≠(fG:Value).ownBlock∧some k_≠(.slice az ah.length ay:Value).ownBlock∧some k_≠(bx:Value).ownBlock∧some k_≠(.slice eB de.length eC:Value).ownBlock∧k_≠ao) ho2 (fun k_ hk_=>⟨hk_.2,Or.elim hk_.1 (fun hs_=>Or.elim hs_ (fun hs_=>(q0_.1 k_ hs_.symm).1.1.1.1.2) (fun hs_=>(q1_.1 k_ hs_.symm).1.1.1.1.2)) (fun hn_=>(rF av k_ hn_)),Or.elim hk_.1 (fun hs_=>Or.elim hs_ (fun hs_=>(q0_.1 k_ hs_.symm).1.1.2) (fun hs_=>(q1_.1 k_ hs_.symm).1.1.2)) (fun hn_=>(rF aX k_ hn_)),Or.elim hk_.1 (fun hs_=>Or.elim hs_ (fun hs_=>(q0_.1 k_ hs_.symm).1.2) (fun hs_=>(q1_.1 k_ hs_.symm).1.2)) (fun hn_=>(rF br k_ hn_)),Or.elim hk_.1 (fun hs_=>Or.elim hs_ (fun hs_=>(q0_.1 k_ hs_.symm).2) (fun hs_=>(q1_.1 k_ hs_.symm).2)) (fun hn_=>(Kd.freshB (bQ ab) k_ hn_))⟩)) (below_size (bC HB)));clear q0_ q1_;replace av:=rB av hb;replace aE:=rB aE hb;replace aG:=rB aG hb;replace aX:=rB aX hb;replace br:=rE br (Kd.R_base ho0) hb;replace bF:=vE bF (Kd.R_base ho0) hb;replace bI:=vE bI (Kd.R_base ho0) hb;replace ab:=bB ab hb;replace HB:=bW HB hb;(try clear hb);(try clear hb2);(try clear hk);(try clear hi);(try clear ho0);(try clear ho1);(try clear ho2);obtain⟨jg,jh,gO⟩:=Kd.R_slice cv.out;subst gO;obtain⟨ji,jj,gP⟩:=Kd.V_slice cw.out;subst gP;obtain⟨jk,jl,gQ⟩:=Kd.V_slice cx.out;subst gQ)|(go_at_call 18;(with_reducible refine (node_Size.calls k ex _ _ ey _ _ ez _ _ eA bn _ ?side1 ?side2 ?side3 ?side4 ?side5 ?side6 A25.out).mono ?_);(case side1=>exact sC (Kd.R_reads' cv.out).2.2);(case side2=>exact (Kd.R_reads' cv.out).2.1);(case side3=>exact sC (Kd.V_reads' cw.out).2.2);(case side4=>exact (Kd.V_reads' cw.out).2.1);(case side5=>exact sC (Kd.V_reads' cx.out).2.2);(case side6=>exact (Kd.V_reads' cx.out).2.1);rintro e w37 ⟨rfl,hb⟩;replace av:=rB av hb;replace aE:=rB aE hb;replace aG:=rB aG hb;replace aX:=rB aX hb;replace br:=rB br hb;replace bF:=vB bF hb;replace bI:=vB bI hb;replace cv:=rB cv hb;replace cw:=vB cw hb;replace cx:=vB cx hb;replace ab:=bB ab hb;replace HB:=bW HB hb;(try clear hb);(try clear hb2);(try clear hk);(try clear hi);obtain⟨jm,jn,gR⟩:=Kd.R_slice aX.out;subst gR))
  go_meet
  case rel=>exact⟨_,((bn != (am.length:Int))),(by first|rfl|(simp;done)|(simp [*];done)),H',⟨by first|omega|exact Nat.le_refl _⟩,⟨by (with_reducible repeat (first|apply Kd.R_alloc|apply Kd.R_drewN|apply Kd.R_drew));exact aX.out⟩,⟨by (with_reducible repeat (first|apply Kd.R_alloc|apply Kd.R_drewN|apply Kd.R_drew));exact av.out⟩,⟨by (with_reducible repeat (first|apply Kd.R_alloc|apply Kd.R_drewN|apply Kd.R_drew));exact aE.out⟩,⟨by (with_reducible repeat (first|apply Kd.R_alloc|apply Kd.R_drewN|apply Kd.R_drew));exact aG.out⟩,bK ab,bV HB⟩
 case rest =>
  clear HC9
  try clear c1
  try clear c2
  try clear p2
  try clear c3
  try clear c4
  try clear c11
  try clear c12
  try clear c13
  try clear c14
  try clear c15
  try clear c16
  try clear c17
  try clear c23
  try clear cu
  try clear d7
  try clear d8
  try clear cF cG cH cI
  try clear cN cO cP cQ
  try clear cV cX cY cZ
  try clear df dg dh di
  try clear dn dp dq dr
  try clear cJ cK cL cM
  try clear cR cS cT cU
  try clear da db dc dd
  try clear dj dk dl dm
  try clear dt du dv dw
  obtain⟨kq,dz,rfl,HA,HJ8,aj,aa,ac,ae,ab,HB⟩:=hcut
  cases kq with
  | zero=>exact absurd HA.out (by simp [engrosslaw11_NodeAll.j0])
  | succ kj8 =>
   have H:=HA.out
   clear HA
   simp only [engrosslaw11_NodeAll.j0] at H
   by_cases c39:dz=true
   ·subst c39
    have H1:(none)=some r:=by rw [if_pos rfl] at H;exact H
    clear H
    have H:=H1
    clear H1
    exact absurd H (by simp)
   replace c39:=Bool.eq_false_iff.mpr c39
   subst c39
   have H1:((engrosslaw11_Of.f kj8 al ah ag ai).bind fun dB=>((node_Encode.f kj8 dB.1 dB.2.1 dB.2.2.1 dB.2.2.2).bind fun bu=>(if aH=true then (if (am.length:Int)>256 then (if bu.2=4 then (some ((bu.1.length:Int) == 0)) else (none)) else (engrosslaw11_NodeAll.l0 kj8 ax am bu.1 bu.2 0 0 al ah ag ai)) else (if bu.2=1 then (if (bu.1.length:Int)=0 then ((engrosslaw11_Of.f kj8 al ah ag ai).bind fun bl=>((node_Kid.f kj8 bl.1 bl.2.1 bl.2.2.1 bl.2.2.2 ax).bind fun bA=>(some (bA == (-1))))) else (none)) else (none)))))=some r:=by rw [if_neg (show ¬ (false=true) by decide)] at H;exact H
   clear H
   have H:=H1
   clear H1
   replace H:=oS H
   obtain⟨⟨b9,bD,ca,cb⟩,fH,H⟩:=H
   replace H:((node_Encode.f kj8 b9 bD ca cb).bind fun bu=>(if aH=true then (if (am.length:Int)>256 then (if bu.2=4 then (some ((bu.1.length:Int) == 0)) else (none)) else (engrosslaw11_NodeAll.l0 kj8 ax am bu.1 bu.2 0 0 al ah ag ai)) else (if bu.2=1 then (if (bu.1.length:Int)=0 then ((engrosslaw11_Of.f kj8 al ah ag ai).bind fun bl=>((node_Kid.f kj8 bl.1 bl.2.1 bl.2.2.1 bl.2.2.2 ax).bind fun bA=>(some (bA == (-1))))) else (none)) else (none))))=some r:=H
   have A40:=aK fH
   clear fH
   replace H:=oS H
   obtain⟨⟨aA,bk⟩,fI,H⟩:=H
   replace H:(if aH=true then (if (am.length:Int)>256 then (if bk=4 then (some ((aA.length:Int) == 0)) else (none)) else (engrosslaw11_NodeAll.l0 kj8 ax am aA bk 0 0 al ah ag ai)) else (if bk=1 then (if (aA.length:Int)=0 then ((engrosslaw11_Of.f kj8 al ah ag ai).bind fun bl=>((node_Kid.f kj8 bl.1 bl.2.1 bl.2.2.1 bl.2.2.2 ax).bind fun bA=>(some (bA == (-1))))) else (none)) else (none)))=some r:=H
   have A41:=aK fI
   clear fI
   by_cases c42:aH=true
   rotate_left
   ·replace c42:=Bool.eq_false_iff.mpr c42
    subst c42
    have H1:(if bk=1 then (if (aA.length:Int)=0 then ((engrosslaw11_Of.f kj8 al ah ag ai).bind fun bl=>((node_Kid.f kj8 bl.1 bl.2.1 bl.2.2.1 bl.2.2.2 ax).bind fun bA=>(some (bA == (-1))))) else (none)) else (none))=some r:=by rw [if_neg (show ¬ (false=true) by decide)] at H;exact H
    clear H
    have H:=H1
    clear H1
    by_cases dC:bk=1
    rotate_left
    ·rw [if_neg dC] at H
     exact absurd H (by simp)
    rw [if_pos dC] at H
    have iT:(bk == 1)=true:=beq_iff_eq.mpr dC
    have iU:(bk != 1)=false:=bne_eq_false_iff_eq.mpr dC
    clear dC
    by_cases dD:(aA.length:Int)=0
    rotate_left
    ·rw [if_neg dD] at H
     exact absurd H (by simp)
    rw [if_pos dD] at H
    have iV:((aA.length:Int) == 0)=true:=beq_iff_eq.mpr dD
    have iW:((aA.length:Int) != 0)=false:=bne_eq_false_iff_eq.mpr dD
    clear dD
    replace H:=oS H
    obtain⟨⟨eD,eE,eF,eG⟩,eQ,H⟩:=H
    replace H:((node_Kid.f kj8 eD eE eF eG ax).bind fun bA=>(some (bA == (-1))))=some r:=H
    have gS:=aK eQ
    clear eQ
    replace H:=oS H
    obtain⟨bA,eR,H⟩:=H
    replace H:(some (bA == (-1)))=some r:=H
    have gT:=aK eR
    clear eR
    obtain rfl:=Option.some.inj H
    obtain⟨gU,gV,gW,gX,gY,gZ,g4,g5⟩:=bf4 (w:=wc) ab
    go_wp2_with (first|((with_reducible refine gate_callee (f:=17) rfl ?_);refine gL (some 40) Try.func17 #[.agg #[.bool al,.slice az ah.length ay,.slice aQ ag.length aJ,.slice aT ai.length aM]] ?_;(with_reducible refine (engrosslaw11_Of.calls kj8 al _ _ ah (fun k_=>some k_=(.slice aQ ag.length aJ:Value).ownBlock) _ _ ag (fun k_=>some k_=(.slice aT ai.length aM:Value).ownBlock) _ _ ai b9 bD ca cb _ ?side1 ?side2 ?side3 ?side4 A40.out).mono ?_);(case side1=>exact sC (Kd.R_reads' aa.out).2.2);(case side2=>exact (Kd.R_reads' aa.out).2.1);(case side3=>exact Kd.R_V (Kd.R_tight rfl (Kd.R_types (Kd.R_apart' (Kd.R_apart' (Kd.R_apart' (ac.out) (Kd.R_typed aj.out) (by decide)) (Kd.R_typed aa.out) (by decide)) (Kd.R_typed ae.out) (by decide)) ab.out (by decide))));(case side4=>exact Kd.R_V (Kd.R_tight rfl (Kd.R_types (Kd.R_apart' (Kd.R_apart' (Kd.R_apart' (ae.out) (Kd.R_typed aj.out) (by decide)) (Kd.R_typed aa.out) (by decide)) (Kd.R_typed ac.out) (by decide)) ab.out (by decide))));rintro e jo ⟨ch,fJ,fK,rfl,ho0,ho1,ho2,hb⟩;refine⟨_,rfl,?_⟩;have aI:=aK (Kd.R_lower (Kd.R_mono (ok':=fun k_=>True) ho0 (fun _ hk_=>trivial)) (below_size (bC HB)));have q0_:=(Kd.R_types (Kd.R_apart' (Kd.R_apart' (Kd.R_apart' (ac.out) (Kd.R_typed aj.out) (by decide)) (Kd.R_typed aa.out) (by decide)) (Kd.R_typed ae.out) (by decide)) ab.out (by decide));have q1_:=(Kd.R_types (Kd.R_apart' (Kd.R_apart' (Kd.R_apart' (ae.out) (Kd.R_typed aj.out) (by decide)) (Kd.R_typed aa.out) (by decide)) (Kd.R_typed ac.out) (by decide)) ab.out (by decide));have bi:=aK (Kd.V_lower (Kd.V_mono (ok':=fun k_=>some k_≠(ch:Value).ownBlock∧some k_≠(bx:Value).ownBlock∧some k_≠(.slice az ah.length ay:Value).ownBlock∧k_≠ao) ho1 (fun k_ hk_=>⟨hk_.2,Or.elim hk_.1 (fun hs_=>Or.elim hs_ (fun hs_=>(q0_.1 k_ hs_.symm).1.1.1.2) (fun hs_=>(q1_.1 k_ hs_.symm).1.1.1.2)) (fun hn_=>(rF aj k_ hn_)),Or.elim hk_.1 (fun hs_=>Or.elim hs_ (fun hs_=>(q0_.1 k_ hs_.symm).1.1.2) (fun hs_=>(q1_.1 k_ hs_.symm).1.1.2)) (fun hn_=>(rF aa k_ hn_)),Or.elim hk_.1 (fun hs_=>Or.elim hs_ (fun hs_=>(q0_.1 k_ hs_.symm).2) (fun hs_=>(q1_.1 k_ hs_.symm).2)) (fun hn_=>(Kd.freshB (bQ ab) k_ hn_))⟩)) (below_size (bC HB)));have bj:=aK (Kd.V_lower (Kd.V_mono (ok':=fun k_=>some k_≠(ch:Value).ownBlock∧some k_≠(bx:Value).ownBlock∧some k_≠(.slice az ah.length ay:Value).ownBlock∧k_≠ao) ho2 (fun k_ hk_=>⟨hk_.2,Or.elim hk_.1 (fun hs_=>Or.elim hs_ (fun hs_=>(q0_.1 k_ hs_.symm).1.1.1.2) (fun hs_=>(q1_.1 k_ hs_.symm).1.1.1.2)) (fun hn_=>(rF aj k_ hn_)),Or.elim hk_.1 (fun hs_=>Or.elim hs_ (fun hs_=>(q0_.1 k_ hs_.symm).1.1.2) (fun hs_=>(q1_.1 k_ hs_.symm).1.1.2)) (fun hn_=>(rF aa k_ hn_)),Or.elim hk_.1 (fun hs_=>Or.elim hs_ (fun hs_=>(q0_.1 k_ hs_.symm).2) (fun hs_=>(q1_.1 k_ hs_.symm).2)) (fun hn_=>(Kd.freshB (bQ ab) k_ hn_))⟩)) (below_size (bC HB)));clear q0_ q1_;replace aj:=rB aj hb;replace aa:=rB aa hb;replace ac:=rB ac hb;replace ae:=rB ae hb;replace ab:=bB ab hb;replace HB:=bW HB hb;(try clear hb);(try clear hb2);(try clear hk);(try clear hi);(try clear ho0);(try clear ho1);(try clear ho2);obtain⟨d9,ed,ga⟩:=Kd.R_slice aI.out;subst ga;obtain⟨gb,gc,gf⟩:=Kd.V_slice bi.out;subst gf;obtain⟨gg,gh,gi⟩:=Kd.V_slice bj.out;subst gi)|((with_reducible refine gate_callee (f:=19) rfl ?_);refine gL (some 41) Try.func19 #[.agg #[.bool b9,.slice d9 bD.length ed,.slice gb ca.length gc,.slice gg cb.length gh]] ?_;(with_reducible refine (node_Encode.calls kj8 b9 _ _ bD _ _ ca _ _ cb aA bk _ ?side1 ?side2 ?side3 ?side4 ?side5 ?side6 A41.out).mono ?_);(case side1=>exact sC (Kd.R_reads' aI.out).2.2);(case side2=>exact (Kd.R_reads' aI.out).2.1);(case side3=>exact sC (Kd.V_reads' bi.out).2.2);(case side4=>exact (Kd.V_reads' bi.out).2.1);(case side5=>exact sC (Kd.V_reads' bj.out).2.2);(case side6=>exact (Kd.V_reads' bj.out).2.1);rintro e g6 ⟨dx,rfl,ho0,hb⟩;refine⟨_,rfl,?_⟩;have bs:=aK (Kd.R_lower (Kd.R_new' ho0 (Kd.R_lt (by (with_reducible repeat (first|apply Kd.R_alloc|apply Kd.R_drewN|apply Kd.R_drew));exact aj.out))) (below_size (bC HB)));replace aj:=rE aj (Kd.R_base ho0) hb;replace aa:=rB aa hb;replace ac:=rB ac hb;replace ae:=rB ae hb;replace aI:=rB aI hb;replace bi:=vE bi (Kd.R_base ho0) hb;replace bj:=vE bj (Kd.R_base ho0) hb;replace ab:=bB ab hb;replace HB:=bW HB hb;(try clear hb);(try clear hb2);(try clear hk);(try clear hi);(try clear ho0);obtain⟨eS,eT,gj⟩:=Kd.R_slice bs.out;subst gj;obtain⟨g7,g8,g9,hD,hG,hH,hI,hJ⟩:=bf4 (w:=g6) ab)|(go_at_call 17;(with_reducible refine (engrosslaw11_Of.calls kj8 al _ _ ah (fun k_=>some k_=(.slice aQ ag.length aJ:Value).ownBlock) _ _ ag (fun k_=>some k_=(.slice aT ai.length aM:Value).ownBlock) _ _ ai eD eE eF eG _ ?side1 ?side2 ?side3 ?side4 gS.out).mono ?_);(case side1=>exact sC (Kd.R_reads' aa.out).2.2);(case side2=>exact (Kd.R_reads' aa.out).2.1);(case side3=>exact Kd.R_V (Kd.R_tight rfl (Kd.R_types (Kd.R_apart' (Kd.R_apart' (Kd.R_apart' (Kd.R_apart' (Kd.R_apart' (ac.out) (Kd.R_typed aj.out) (by decide)) (Kd.R_typed aa.out) (by decide)) (Kd.R_typed ae.out) (by decide)) (Kd.R_typed aI.out) (by decide)) (Kd.R_typed bs.out) (by decide)) ab.out (by decide))));(case side4=>exact Kd.R_V (Kd.R_tight rfl (Kd.R_types (Kd.R_apart' (Kd.R_apart' (Kd.R_apart' (Kd.R_apart' (Kd.R_apart' (ae.out) (Kd.R_typed aj.out) (by decide)) (Kd.R_typed aa.out) (by decide)) (Kd.R_typed ac.out) (by decide)) (Kd.R_typed aI.out) (by decide)) (Kd.R_typed bs.out) (by decide)) ab.out (by decide))));rintro e jp ⟨fL,jq,jr,rfl,ho0,ho1,ho2,hb⟩;have cz:=aK (Kd.R_lower (Kd.R_new' (Kd.R_mono (ok':=fun k_=>True) ho0 (fun _ hk_=>trivial)) (Kd.R_lt (by (with_reducible repeat (first|apply Kd.R_alloc|apply Kd.R_drewN|apply Kd.R_drew));exact aI.out))) (below_size (bC HB)));have q0_:=(Kd.R_types (Kd.R_apart' (Kd.R_apart' (Kd.R_apart' (Kd.R_apart' (Kd.R_apart' (ac.out) (Kd.R_typed aj.out) (by decide)) (Kd.R_typed aa.out) (by decide)) (Kd.R_typed ae.out) (by decide)) (Kd.R_typed aI.out) (by decide)) (Kd.R_typed bs.out) (by decide)) ab.out (by decide));have q1_:=(Kd.R_types (Kd.R_apart' (Kd.R_apart' (Kd.R_apart' (Kd.R_apart' (Kd.R_apart' (ae.out) (Kd.R_typed aj.out) (by decide)) (Kd.R_typed aa.out) (by decide)) (Kd.R_typed ac.out) (by decide)) (Kd.R_typed aI.out) (by decide)) (Kd.R_typed bs.out) (by decide)) ab.out (by decide));have cA:=aK (Kd.V_lower (Kd.V_mono (ok':=fun k_=>some k_≠(fL:Value).ownBlock∧some k_≠(bx:Value).ownBlock∧some k_≠(.slice az ah.length ay:Value).ownBlock∧some k_≠(.slice d9 bD.length ed:Value).ownBlock∧some k_≠(.slice eS aA.length eT:Value).ownBlock∧k_≠ao) ho1 (fun k_ hk_=>⟨hk_.2,Or.elim hk_.1 (fun hs_=>Or.elim hs_ (fun hs_=>(q0_.1 k_ hs_.symm).1.1.1.1.1.2) (fun hs_=>(q1_.1 k_ hs_.symm).1.1.1.1.1.2)) (fun hn_=>(rF aj k_ hn_)),Or.elim hk_.1 (fun hs_=>Or.elim hs_ (fun hs_=>(q0_.1 k_ hs_.symm).1.1.1.1.2) (fun hs_=>(q1_.1 k_ hs_.symm).1.1.1.1.2)) (fun hn_=>(rF aa k_ hn_)),Or.elim hk_.1 (fun hs_=>Or.elim hs_ (fun hs_=>(q0_.1 k_ hs_.symm).1.1.2) (fun hs_=>(q1_.1 k_ hs_.symm).1.1.2)) (fun hn_=>(rF aI k_ hn_)),Or.elim hk_.1 (fun hs_=>Or.elim hs_ (fun hs_=>(q0_.1 k_ hs_.symm).1.2) (fun hs_=>(q1_.1 k_ hs_.symm).1.2)) (fun hn_=>(rF bs k_ hn_)),Or.elim hk_.1 (fun hs_=>Or.elim hs_ (fun hs_=>(q0_.1 k_ hs_.symm).2) (fun hs_=>(q1_.1 k_ hs_.symm).2)) (fun hn_=>(Kd.freshB (bQ ab) k_ hn_))⟩)) (below_size (bC HB)));have cB:=aK (Kd.V_lower (Kd.V_mono (ok':=fun k_=>some k_≠(fL:Value).ownBlock∧some k_≠(bx:Value).ownBlock∧some k_≠(.slice az ah.length ay:Value).ownBlock∧some k_≠(.slice d9 bD.length ed:Value).ownBlock∧some k_≠(.slice eS aA.length eT:Value).ownBlock∧k_≠ao) ho2 (fun k_ hk_=>⟨hk_.2,Or.elim hk_.1 (fun hs_=>Or.elim hs_ (fun hs_=>(q0_.1 k_ hs_.symm).1.1.1.1.1.2) (fun hs_=>(q1_.1 k_ hs_.symm).1.1.1.1.1.2)) (fun hn_=>(rF aj k_ hn_)),Or.elim hk_.1 (fun hs_=>Or.elim hs_ (fun hs_=>(q0_.1 k_ hs_.symm).1.1.1.1.2) (fun hs_=>(q1_.1 k_ hs_.symm).1.1.1.1.2)) (fun hn_=>(rF aa k_ hn_)),Or.elim hk_.1 (fun hs_=>Or.elim hs_ (fun hs_=>(q0_.1 k_ hs_.symm).1.1.2) (fun hs_=>(q1_.1 k_ hs_.symm).1.1.2)) (fun hn_=>(rF aI k_ hn_)),Or.elim hk_.1 (fun hs_=>Or.elim hs_ (fun hs_=>(q0_.1 k_ hs_.symm).1.2) (fun hs_=>(q1_.1 k_ hs_.symm).1.2)) (fun hn_=>(rF bs k_ hn_)),Or.elim hk_.1 (fun hs_=>Or.elim hs_ (fun hs_=>(q0_.1 k_ hs_.symm).2) (fun hs_=>(q1_.1 k_ hs_.symm).2)) (fun hn_=>(Kd.freshB (bQ ab) k_ hn_))⟩)) (below_size (bC HB)));clear q0_ q1_;replace aj:=rB aj hb;replace aa:=rB aa hb;replace ac:=rB ac hb;replace ae:=rB ae hb;replace aI:=rE aI (Kd.R_base ho0) hb;replace bi:=vE bi (Kd.R_base ho0) hb;replace bj:=vE bj (Kd.R_base ho0) hb;replace bs:=rB bs hb;replace ab:=bB ab hb;replace HB:=bW HB hb;(try clear hb);(try clear hb2);(try clear hk);(try clear hi);(try clear ho0);(try clear ho1);(try clear ho2);obtain⟨iZ,i5,gl⟩:=Kd.R_slice cz.out;subst gl;obtain⟨i6,i7,gm⟩:=Kd.V_slice cA.out;subst gm;obtain⟨i8,i9,gn⟩:=Kd.V_slice cB.out;subst gn)|(go_at_call 20;(with_reducible refine (node_Kid.calls kj8 eD _ _ eE _ _ eF _ _ eG ax bA _ ?side1 ?side2 ?side3 ?side4 ?side5 ?side6 gT.out).mono ?_);(case side1=>exact sC (Kd.R_reads' cz.out).2.2);(case side2=>exact (Kd.R_reads' cz.out).2.1);(case side3=>exact sC (Kd.V_reads' cA.out).2.2);(case side4=>exact (Kd.V_reads' cA.out).2.1);(case side5=>exact sC (Kd.V_reads' cB.out).2.2);(case side6=>exact (Kd.V_reads' cB.out).2.1);rintro e js ⟨rfl,hb⟩;replace aj:=rB aj hb;replace aa:=rB aa hb;replace ac:=rB ac hb;replace ae:=rB ae hb;replace aI:=rB aI hb;replace bi:=vB bi hb;replace bj:=vB bj hb;replace bs:=rB bs hb;replace cz:=rB cz hb;replace cA:=vB cA hb;replace cB:=vB cB hb;replace ab:=bB ab hb;replace HB:=bW HB hb;(try clear hb);(try clear hb2);(try clear hk);(try clear hi)))
    go_ret
    exact xB HB
   subst c42
   have H1:(if (am.length:Int)>256 then (if bk=4 then (some ((aA.length:Int) == 0)) else (none)) else (engrosslaw11_NodeAll.l0 kj8 ax am aA bk 0 0 al ah ag ai))=some r:=by rw [if_pos rfl] at H;exact H
   clear H
   have H:=H1
   clear H1
   by_cases c43:(am.length:Int)>256
   ·rw [if_pos c43] at H
    have eg:decide (256<(am.length:Int))=true:=decide_eq_true c43
    have eh:decide (256<am.length)=true:=decide_eq_true (by omega)
    clear c43
    by_cases c44:bk=4
    rotate_left
    ·rw [if_neg c44] at H
     exact absurd H (by simp)
    rw [if_pos c44] at H
    have eU:(bk == 4)=true:=beq_iff_eq.mpr c44
    have eV:(bk != 4)=false:=bne_eq_false_iff_eq.mpr c44
    clear c44
    obtain rfl:=Option.some.inj H
    obtain⟨dE,dF,dG,dH,dI,dJ,dK,dL⟩:=bf4 (w:=wc) ab
    go_wp2_with (first|((with_reducible refine gate_callee (f:=17) rfl ?_);refine gL (some 40) Try.func17 #[.agg #[.bool al,.slice az ah.length ay,.slice aQ ag.length aJ,.slice aT ai.length aM]] ?_;(with_reducible refine (engrosslaw11_Of.calls kj8 al _ _ ah (fun k_=>some k_=(.slice aQ ag.length aJ:Value).ownBlock) _ _ ag (fun k_=>some k_=(.slice aT ai.length aM:Value).ownBlock) _ _ ai b9 bD ca cb _ ?side1 ?side2 ?side3 ?side4 A40.out).mono ?_);(case side1=>exact sC (Kd.R_reads' aa.out).2.2);(case side2=>exact (Kd.R_reads' aa.out).2.1);(case side3=>exact Kd.R_V (Kd.R_tight rfl (Kd.R_types (Kd.R_apart' (Kd.R_apart' (Kd.R_apart' (ac.out) (Kd.R_typed aj.out) (by decide)) (Kd.R_typed aa.out) (by decide)) (Kd.R_typed ae.out) (by decide)) ab.out (by decide))));(case side4=>exact Kd.R_V (Kd.R_tight rfl (Kd.R_types (Kd.R_apart' (Kd.R_apart' (Kd.R_apart' (ae.out) (Kd.R_typed aj.out) (by decide)) (Kd.R_typed aa.out) (by decide)) (Kd.R_typed ac.out) (by decide)) ab.out (by decide))));rintro e w46 ⟨ch,fJ,fK,rfl,ho0,ho1,ho2,hb⟩;refine⟨_,rfl,?_⟩;have aI:=aK (Kd.R_lower (Kd.R_mono (ok':=fun k_=>True) ho0 (fun _ hk_=>trivial)) (below_size (bC HB)));have q0_:=(Kd.R_types (Kd.R_apart' (Kd.R_apart' (Kd.R_apart' (ac.out) (Kd.R_typed aj.out) (by decide)) (Kd.R_typed aa.out) (by decide)) (Kd.R_typed ae.out) (by decide)) ab.out (by decide));have q1_:=(Kd.R_types (Kd.R_apart' (Kd.R_apart' (Kd.R_apart' (ae.out) (Kd.R_typed aj.out) (by decide)) (Kd.R_typed aa.out) (by decide)) (Kd.R_typed ac.out) (by decide)) ab.out (by decide));have bi:=aK (Kd.V_lower (Kd.V_mono (ok':=fun k_=>some k_≠(ch:Value).ownBlock∧some k_≠(bx:Value).ownBlock∧some k_≠(.slice az ah.length ay:Value).ownBlock∧k_≠ao) ho1 (fun k_ hk_=>⟨hk_.2,Or.elim hk_.1 (fun hs_=>Or.elim hs_ (fun hs_=>(q0_.1 k_ hs_.symm).1.1.1.2) (fun hs_=>(q1_.1 k_ hs_.symm).1.1.1.2)) (fun hn_=>(rF aj k_ hn_)),Or.elim hk_.1 (fun hs_=>Or.elim hs_ (fun hs_=>(q0_.1 k_ hs_.symm).1.1.2) (fun hs_=>(q1_.1 k_ hs_.symm).1.1.2)) (fun hn_=>(rF aa k_ hn_)),Or.elim hk_.1 (fun hs_=>Or.elim hs_ (fun hs_=>(q0_.1 k_ hs_.symm).2) (fun hs_=>(q1_.1 k_ hs_.symm).2)) (fun hn_=>(Kd.freshB (bQ ab) k_ hn_))⟩)) (below_size (bC HB)));have bj:=aK (Kd.V_lower (Kd.V_mono (ok':=fun k_=>some k_≠(ch:Value).ownBlock∧some k_≠(bx:Value).ownBlock∧some k_≠(.slice az ah.length ay:Value).ownBlock∧k_≠ao) ho2 (fun k_ hk_=>⟨hk_.2,Or.elim hk_.1 (fun hs_=>Or.elim hs_ (fun hs_=>(q0_.1 k_ hs_.symm).1.1.1.2) (fun hs_=>(q1_.1 k_ hs_.symm).1.1.1.2)) (fun hn_=>(rF aj k_ hn_)),Or.elim hk_.1 (fun hs_=>Or.elim hs_ (fun hs_=>(q0_.1 k_ hs_.symm).1.1.2) (fun hs_=>(q1_.1 k_ hs_.symm).1.1.2)) (fun hn_=>(rF aa k_ hn_)),Or.elim hk_.1 (fun hs_=>Or.elim hs_ (fun hs_=>(q0_.1 k_ hs_.symm).2) (fun hs_=>(q1_.1 k_ hs_.symm).2)) (fun hn_=>(Kd.freshB (bQ ab) k_ hn_))⟩)) (below_size (bC HB)));clear q0_ q1_;replace aj:=rB aj hb;replace aa:=rB aa hb;replace ac:=rB ac hb;replace ae:=rB ae hb;replace ab:=bB ab hb;replace HB:=bW HB hb;(try clear hb);(try clear hb2);(try clear hk);(try clear hi);(try clear ho0);(try clear ho1);(try clear ho2);obtain⟨hL,hO,hP⟩:=Kd.R_slice aI.out;subst hP;obtain⟨hX,hY,hZ⟩:=Kd.V_slice bi.out;subst hZ;obtain⟨ia,ib,ic⟩:=Kd.V_slice bj.out;subst ic)|((with_reducible refine gate_callee (f:=19) rfl ?_);refine gL (some 41) Try.func19 #[.agg #[.bool b9,.slice hL bD.length hO,.slice hX ca.length hY,.slice ia cb.length ib]] ?_;(with_reducible refine (node_Encode.calls kj8 b9 _ _ bD _ _ ca _ _ cb aA bk _ ?side1 ?side2 ?side3 ?side4 ?side5 ?side6 A41.out).mono ?_);(case side1=>exact sC (Kd.R_reads' aI.out).2.2);(case side2=>exact (Kd.R_reads' aI.out).2.1);(case side3=>exact sC (Kd.V_reads' bi.out).2.2);(case side4=>exact (Kd.V_reads' bi.out).2.1);(case side5=>exact sC (Kd.V_reads' bj.out).2.2);(case side6=>exact (Kd.V_reads' bj.out).2.1);rintro e w50 ⟨dx,rfl,ho0,hb⟩;refine⟨_,rfl,?_⟩;have bs:=aK (Kd.R_lower (Kd.R_new' ho0 (Kd.R_lt (by (with_reducible repeat (first|apply Kd.R_alloc|apply Kd.R_drewN|apply Kd.R_drew));exact aj.out))) (below_size (bC HB)));replace aj:=rE aj (Kd.R_base ho0) hb;replace aa:=rB aa hb;replace ac:=rB ac hb;replace ae:=rB ae hb;replace aI:=rB aI hb;replace bi:=vE bi (Kd.R_base ho0) hb;replace bj:=vE bj (Kd.R_base ho0) hb;replace ab:=bB ab hb;replace HB:=bW HB hb;(try clear hb);(try clear hb2);(try clear hk);(try clear hi);(try clear ho0);obtain⟨jt,ju,ie⟩:=Kd.R_slice aj.out;subst ie;obtain⟨jv,jw,ig⟩:=Kd.R_slice bs.out;subst ig))
    go_ret
    exact xB HB
   rw [if_neg c43] at H
   have eg:decide (256<(am.length:Int))=false:=decide_eq_false c43
   have eh:decide (256<am.length)=false:=decide_eq_false (by omega)
   clear c43
   have H':=aK H
   clear H
   obtain⟨dM,dN,dO,dP,dQ,dR,dS,dT⟩:=bf4 (w:=wc) ab
   go_wp2_with (first|((with_reducible refine gate_callee (f:=17) rfl ?_);refine gL (some 40) Try.func17 #[.agg #[.bool al,.slice az ah.length ay,.slice aQ ag.length aJ,.slice aT ai.length aM]] ?_;(with_reducible refine (engrosslaw11_Of.calls kj8 al _ _ ah (fun k_=>some k_=(.slice aQ ag.length aJ:Value).ownBlock) _ _ ag (fun k_=>some k_=(.slice aT ai.length aM:Value).ownBlock) _ _ ai b9 bD ca cb _ ?side1 ?side2 ?side3 ?side4 A40.out).mono ?_);(case side1=>exact sC (Kd.R_reads' aa.out).2.2);(case side2=>exact (Kd.R_reads' aa.out).2.1);(case side3=>exact Kd.R_V (Kd.R_tight rfl (Kd.R_types (Kd.R_apart' (Kd.R_apart' (Kd.R_apart' (ac.out) (Kd.R_typed aj.out) (by decide)) (Kd.R_typed aa.out) (by decide)) (Kd.R_typed ae.out) (by decide)) ab.out (by decide))));(case side4=>exact Kd.R_V (Kd.R_tight rfl (Kd.R_types (Kd.R_apart' (Kd.R_apart' (Kd.R_apart' (ae.out) (Kd.R_typed aj.out) (by decide)) (Kd.R_typed aa.out) (by decide)) (Kd.R_typed ac.out) (by decide)) ab.out (by decide))));rintro e w54 ⟨ch,fJ,fK,rfl,ho0,ho1,ho2,hb⟩;refine⟨_,rfl,?_⟩;have aI:=aK (Kd.R_lower (Kd.R_mono (ok':=fun k_=>True) ho0 (fun _ hk_=>trivial)) (below_size (bC HB)));have q0_:=(Kd.R_types (Kd.R_apart' (Kd.R_apart' (Kd.R_apart' (ac.out) (Kd.R_typed aj.out) (by decide)) (Kd.R_typed aa.out) (by decide)) (Kd.R_typed ae.out) (by decide)) ab.out (by decide));have q1_:=(Kd.R_types (Kd.R_apart' (Kd.R_apart' (Kd.R_apart' (ae.out) (Kd.R_typed aj.out) (by decide)) (Kd.R_typed aa.out) (by decide)) (Kd.R_typed ac.out) (by decide)) ab.out (by decide));have bi:=aK (Kd.V_lower (Kd.V_mono (ok':=fun k_=>some k_≠(ch:Value).ownBlock∧some k_≠(bx:Value).ownBlock∧some k_≠(.slice az ah.length ay:Value).ownBlock∧k_≠ao) ho1 (fun k_ hk_=>⟨hk_.2,Or.elim hk_.1 (fun hs_=>Or.elim hs_ (fun hs_=>(q0_.1 k_ hs_.symm).1.1.1.2) (fun hs_=>(q1_.1 k_ hs_.symm).1.1.1.2)) (fun hn_=>(rF aj k_ hn_)),Or.elim hk_.1 (fun hs_=>Or.elim hs_ (fun hs_=>(q0_.1 k_ hs_.symm).1.1.2) (fun hs_=>(q1_.1 k_ hs_.symm).1.1.2)) (fun hn_=>(rF aa k_ hn_)),Or.elim hk_.1 (fun hs_=>Or.elim hs_ (fun hs_=>(q0_.1 k_ hs_.symm).2) (fun hs_=>(q1_.1 k_ hs_.symm).2)) (fun hn_=>(Kd.freshB (bQ ab) k_ hn_))⟩)) (below_size (bC HB)));have bj:=aK (Kd.V_lower (Kd.V_mono (ok':=fun k_=>some k_≠(ch:Value).ownBlock∧some k_≠(bx:Value).ownBlock∧some k_≠(.slice az ah.length ay:Value).ownBlock∧k_≠ao) ho2 (fun k_ hk_=>⟨hk_.2,Or.elim hk_.1 (fun hs_=>Or.elim hs_ (fun hs_=>(q0_.1 k_ hs_.symm).1.1.1.2) (fun hs_=>(q1_.1 k_ hs_.symm).1.1.1.2)) (fun hn_=>(rF aj k_ hn_)),Or.elim hk_.1 (fun hs_=>Or.elim hs_ (fun hs_=>(q0_.1 k_ hs_.symm).1.1.2) (fun hs_=>(q1_.1 k_ hs_.symm).1.1.2)) (fun hn_=>(rF aa k_ hn_)),Or.elim hk_.1 (fun hs_=>Or.elim hs_ (fun hs_=>(q0_.1 k_ hs_.symm).2) (fun hs_=>(q1_.1 k_ hs_.symm).2)) (fun hn_=>(Kd.freshB (bQ ab) k_ hn_))⟩)) (below_size (bC HB)));clear q0_ q1_;replace aj:=rB aj hb;replace aa:=rB aa hb;replace ac:=rB ac hb;replace ae:=rB ae hb;replace ab:=bB ab hb;replace HB:=bW HB hb;(try clear hb);(try clear hb2);(try clear hk);(try clear hi);(try clear ho0);(try clear ho1);(try clear ho2);obtain⟨ij,ik,il⟩:=Kd.R_slice aI.out;subst il;obtain⟨im,io,ip⟩:=Kd.V_slice bi.out;subst ip;obtain⟨iq,iu,iv⟩:=Kd.V_slice bj.out;subst iv)|((with_reducible refine gate_callee (f:=19) rfl ?_);refine gL (some 41) Try.func19 #[.agg #[.bool b9,.slice ij bD.length ik,.slice im ca.length io,.slice iq cb.length iu]] ?_;(with_reducible refine (node_Encode.calls kj8 b9 _ _ bD _ _ ca _ _ cb aA bk _ ?side1 ?side2 ?side3 ?side4 ?side5 ?side6 A41.out).mono ?_);(case side1=>exact sC (Kd.R_reads' aI.out).2.2);(case side2=>exact (Kd.R_reads' aI.out).2.1);(case side3=>exact sC (Kd.V_reads' bi.out).2.2);(case side4=>exact (Kd.V_reads' bi.out).2.1);(case side5=>exact sC (Kd.V_reads' bj.out).2.2);(case side6=>exact (Kd.V_reads' bj.out).2.1);rintro e w58 ⟨dx,rfl,ho0,hb⟩;refine⟨_,rfl,?_⟩;have bs:=aK (Kd.R_lower (Kd.R_new' ho0 (Kd.R_lt (by (with_reducible repeat (first|apply Kd.R_alloc|apply Kd.R_drewN|apply Kd.R_drew));exact aj.out))) (below_size (bC HB)));replace aj:=rE aj (Kd.R_base ho0) hb;replace aa:=rB aa hb;replace ac:=rB ac hb;replace ae:=rB ae hb;replace aI:=rB aI hb;replace bi:=vE bi (Kd.R_base ho0) hb;replace bj:=vE bj (Kd.R_base ho0) hb;replace ab:=bB ab hb;replace HB:=bW HB hb;(try clear hb);(try clear hb2);(try clear hk);(try clear hi);(try clear ho0);obtain⟨bY,b8,iw⟩:=Kd.R_slice aj.out;subst iw))
   go_loopg [10,11] kj8 (fun kq v10 v11 w'=>∃ (cd:Int) (bm:Int),v10 = .int .i64 cd∧v11 = .int .i64 bm∧Aside0 (engrosslaw11_NodeAll.l0 kq ax am aA bk cd bm al ah ag ai=some r)∧Aside0 (kq≤kj8)∧Aside0 (Kd.R (Kd.int .u8) 5 w' w.heap.size (fun k_=>some k_≠(dx:Value).ownBlock) (.slice bY am.length b8) am)∧Aside0 (Kd.R (Kd.int .u8) 5 w' w.heap.size (fun k_=>some k_≠((.slice bY am.length b8):Value).ownBlock) dx aA)∧Aside0 (Kd.R k56 56 w' w.heap.size (fun _=>True) (.slice az ah.length ay) ah)∧Aside0 (Kd.R Kd.string 9 w' w.heap.size (fun _=>True) (.slice aQ ag.length aJ) ag)∧Aside0 (Kd.R (Kd.int .i64) 3 w' w.heap.size (fun _=>True) (.slice aT ai.length aM) ai)∧Aside0 (w'.heap[ao]? = some (.cells #[.bool al,(.slice az ah.length ay),(.slice aQ ag.length aJ),(.slice aT ai.length aM)] 26 (0,0)))∧Aside0 (Below w.heap.size w w'))
   case atStart=>exact⟨(0),(0),(by first|rfl|(simp;done)|(simp [*];done)),(by first|rfl|(simp;done)|(simp [*];done)),H',⟨Nat.le_refl _⟩,⟨by (with_reducible repeat (first|apply Kd.R_alloc|apply Kd.R_drewN|apply Kd.R_drew));exact Kd.R_mono aj.out (fun _ hk=>hk.2)⟩,⟨by (with_reducible repeat (first|apply Kd.R_alloc|apply Kd.R_drewN|apply Kd.R_drew));exact Kd.R_mono bs.out (fun _ hk=>hk.2)⟩,⟨by (with_reducible repeat (first|apply Kd.R_alloc|apply Kd.R_drewN|apply Kd.R_drew));exact aa.out⟩,⟨by (with_reducible repeat (first|apply Kd.R_alloc|apply Kd.R_drewN|apply Kd.R_drew));exact ac.out⟩,⟨by (with_reducible repeat (first|apply Kd.R_alloc|apply Kd.R_drewN|apply Kd.R_drew));exact ae.out⟩,bK ab,bV HB⟩
   case round =>
    clear H'
    try clear c1
    try clear c2
    try clear p2
    try clear c3
    try clear c4
    try clear c11
    try clear c12
    try clear c13
    try clear c14
    try clear c15
    try clear c16
    try clear c17
    try clear c19
    try clear c23
    try clear cu
    try clear d7
    try clear d8
    try clear c39
    try clear c42
    try clear c43
    try clear eg
    try clear eh
    try clear c44
    try clear eU
    try clear eV
    try clear cF cG cH cI
    try clear cN cO cP cQ
    try clear cV cX cY cZ
    try clear df dg dh di
    try clear dn dp dq dr
    try clear dE dF dG dH
    try clear dM dN dO dP
    try clear cJ cK cL cM
    try clear cR cS cT cU
    try clear da db dc dd
    try clear dj dk dl dm
    try clear dt du dv dw
    try clear dI dJ dK dL
    try clear dQ dR dS dT
    try clear p2
    obtain⟨cd,bm,rfl,rfl,HA,HK2,aj,ar,aa,ac,ae,ab,HB⟩:=hrel
    cases gk with
    | zero=>exact absurd HA.out (by simp [engrosslaw11_NodeAll.l0])
    | succ k2 =>
     have H:=HA.out
     clear HA
     simp only [engrosslaw11_NodeAll.l0] at H
     by_cases c60:bm<(ag.length:Int)
     ·rw [if_pos c60] at H
      have eW:decide (bm<(ag.length:Int))=true:=decide_eq_true c60
      clear c60
      by_cases c61:0≤bm
      rotate_left
      ·rw [if_neg c61] at H
       exact absurd H (by simp)
      rw [if_pos c61] at H
      have gp:decide (0≤bm)=true:=decide_eq_true c61
      clear c61
      by_cases c62:((Op.bytesLess ax.toList ((rdOf ByteArray.empty ag bm).toList))=true)
      ·rw [if_pos c62] at H
       have eX:(Op.bytesLess ax.toList ((rdOf ByteArray.empty ag bm).toList))=true:=c62
       clear c62
       have H':=aK H
       clear H
       obtain⟨eY,eZ,e8,e9,fa,fb,fd,fe⟩:=bf4 (w:=wr) ab
       have cj:0≤(bm:Int):=dA
       have cm:bm<(ag.length:Int):=dA
       obtain⟨gq,e616,dU⟩:=Kd.at_string (Kd.R_reads' ac.out).2.2 bm cj cm
       cases e616
       replace cj:=eq_true cj
       replace cm:=eq_true cm
       go_wp2
       go_roundg k2
       case measure=>have:=HJ8.out;have:=HK2.out;omega
       case rel=>exact⟨(cd),(wrap64 (bm+1)),(by first|rfl|(simp;done)|(simp [*];done)),(by first|rfl|(simp;done)|(simp [*];done)),H',⟨by have:=HJ8.out;have:=HK2.out;omega⟩,⟨by (with_reducible repeat (first|apply Kd.R_alloc|apply Kd.R_drewN|apply Kd.R_drew));exact aj.out⟩,⟨by (with_reducible repeat (first|apply Kd.R_alloc|apply Kd.R_drewN|apply Kd.R_drew));exact ar.out⟩,⟨by (with_reducible repeat (first|apply Kd.R_alloc|apply Kd.R_drewN|apply Kd.R_drew));exact aa.out⟩,⟨by (with_reducible repeat (first|apply Kd.R_alloc|apply Kd.R_drewN|apply Kd.R_drew));exact ac.out⟩,⟨by (with_reducible repeat (first|apply Kd.R_alloc|apply Kd.R_drewN|apply Kd.R_drew));exact ae.out⟩,bK ab,bV HB⟩
      rw [if_neg c62] at H
      have eX:(Op.bytesLess ax.toList ((rdOf ByteArray.empty ag bm).toList))=false:=by simpa using c62
      clear c62
      have H':=aK H
      clear H
      obtain⟨ff,fg,fh,fi,fj,fk,fl,fm⟩:=bf4 (w:=wr) ab
      have cj:0≤(bm:Int):=dA
      have cm:bm<(ag.length:Int):=dA
      obtain⟨gq,e616,dU⟩:=Kd.at_string (Kd.R_reads' ac.out).2.2 bm cj cm
      cases e616
      replace cj:=eq_true cj
      replace cm:=eq_true cm
      go_wp2
      go_roundg k2
      case measure=>have:=HJ8.out;have:=HK2.out;omega
      case rel=>exact⟨(wrap64 (cd+1)),(wrap64 (bm+1)),(by first|rfl|(simp;done)|(simp [*];done)),(by first|rfl|(simp;done)|(simp [*];done)),H',⟨by have:=HJ8.out;have:=HK2.out;omega⟩,⟨by (with_reducible repeat (first|apply Kd.R_alloc|apply Kd.R_drewN|apply Kd.R_drew));exact aj.out⟩,⟨by (with_reducible repeat (first|apply Kd.R_alloc|apply Kd.R_drewN|apply Kd.R_drew));exact ar.out⟩,⟨by (with_reducible repeat (first|apply Kd.R_alloc|apply Kd.R_drewN|apply Kd.R_drew));exact aa.out⟩,⟨by (with_reducible repeat (first|apply Kd.R_alloc|apply Kd.R_drewN|apply Kd.R_drew));exact ac.out⟩,⟨by (with_reducible repeat (first|apply Kd.R_alloc|apply Kd.R_drewN|apply Kd.R_drew));exact ae.out⟩,bK ab,bV HB⟩
     rw [if_neg c60] at H
     have eW:decide (bm<(ag.length:Int))=false:=decide_eq_false c60
     clear c60
     have eH:=aK H
     clear H
     obtain⟨fp,fq,ft,fu,fv,fw,fz,fA⟩:=bf4 (w:=wr) ab
     go_upto_if 89 with (fail)
     go_cut [10] (fun v10 wc=>∃ (kq:Nat) (bv:Int),v10 = .int .i64 bv∧Aside0 (engrosslaw11_NodeAll.j2 kq ax am aA bk bv al ah ag ai=some r)∧Aside0 (kq≤k2)∧Aside0 (Kd.R (Kd.int .u8) 5 wc w.heap.size (fun k_=>some k_≠(dx:Value).ownBlock) (.slice bY am.length b8) am)∧Aside0 (Kd.R (Kd.int .u8) 5 wc w.heap.size (fun k_=>some k_≠((.slice bY am.length b8):Value).ownBlock) dx aA)∧Aside0 (Kd.R k56 56 wc w.heap.size (fun _=>True) (.slice az ah.length ay) ah)∧Aside0 (Kd.R Kd.string 9 wc w.heap.size (fun _=>True) (.slice aQ ag.length aJ) ag)∧Aside0 (Kd.R (Kd.int .i64) 3 wc w.heap.size (fun _=>True) (.slice aT ai.length aM) ai)∧Aside0 (wc.heap[ao]? = some (.cells #[.bool al,(.slice az ah.length ay),(.slice aQ ag.length aJ),(.slice aT ai.length aM)] 26 (0,0)))∧Aside0 (Below w.heap.size w wc))
     case first =>
      have H:=eH.out
      clear eH
      by_cases c67:al=true
      ·subst c67
       have H1:(engrosslaw11_NodeAll.j2 k2 ax am aA bk (-1) true ah ag ai)=some r:=by rw [if_pos rfl] at H;exact H
       clear H
       have H:=H1
       clear H1
       have H':=aK H
       clear H
       go_wp2
       go_meet
       case rel=>exact⟨_,((-1)),(by first|rfl|(simp;done)|(simp [*];done)),H',⟨by have:=HJ8.out;have:=HK2.out;first|omega|exact Nat.le_refl _⟩,⟨by (with_reducible repeat (first|apply Kd.R_alloc|apply Kd.R_drewN|apply Kd.R_drew));exact aj.out⟩,⟨by (with_reducible repeat (first|apply Kd.R_alloc|apply Kd.R_drewN|apply Kd.R_drew));exact ar.out⟩,⟨by (with_reducible repeat (first|apply Kd.R_alloc|apply Kd.R_drewN|apply Kd.R_drew));exact aa.out⟩,⟨by (with_reducible repeat (first|apply Kd.R_alloc|apply Kd.R_drewN|apply Kd.R_drew));exact ac.out⟩,⟨by (with_reducible repeat (first|apply Kd.R_alloc|apply Kd.R_drewN|apply Kd.R_drew));exact ae.out⟩,bK ab,bV HB⟩
      replace c67:=Bool.eq_false_iff.mpr c67
      subst c67
      have H1:(engrosslaw11_NodeAll.j2 k2 ax am aA bk cd false ah ag ai)=some r:=by rw [if_neg (show ¬ (false=true) by decide)] at H;exact H
      clear H
      have H:=H1
      clear H1
      have H':=aK H
      clear H
      go_wp2
      go_meet
      case rel=>exact⟨_,(cd),(by first|rfl|(simp;done)|(simp [*];done)),H',⟨by have:=HJ8.out;have:=HK2.out;first|omega|exact Nat.le_refl _⟩,⟨by (with_reducible repeat (first|apply Kd.R_alloc|apply Kd.R_drewN|apply Kd.R_drew));exact aj.out⟩,⟨by (with_reducible repeat (first|apply Kd.R_alloc|apply Kd.R_drewN|apply Kd.R_drew));exact ar.out⟩,⟨by (with_reducible repeat (first|apply Kd.R_alloc|apply Kd.R_drewN|apply Kd.R_drew));exact aa.out⟩,⟨by (with_reducible repeat (first|apply Kd.R_alloc|apply Kd.R_drewN|apply Kd.R_drew));exact ac.out⟩,⟨by (with_reducible repeat (first|apply Kd.R_alloc|apply Kd.R_drewN|apply Kd.R_drew));exact ae.out⟩,bK ab,bV HB⟩
     case rest =>
      clear eH
      try clear c1
      try clear c2
      try clear p2
      try clear c3
      try clear c4
      try clear c6
      try clear p6
      try clear q6
      try clear hx6
      try clear c11
      try clear c12
      try clear c13
      try clear c14
      try clear c15
      try clear c16
      try clear c17
      try clear c19
      try clear c23
      try clear cu
      try clear d7
      try clear d8
      try clear c39
      try clear c42
      try clear c43
      try clear eg
      try clear eh
      try clear c44
      try clear eU
      try clear eV
      try clear c60
      try clear eW
      try clear c61
      try clear gp
      try clear p61
      try clear q61
      try clear jx
      try clear c62
      try clear eX
      try clear p64
      try clear c67
      try clear cF cG cH cI
      try clear cN cO cP cQ
      try clear cV cX cY cZ
      try clear df dg dh di
      try clear dn dp dq dr
      try clear dE dF dG dH
      try clear dM dN dO dP
      try clear eY eZ e8 e9
      try clear ff fg fh fi
      try clear fp fq ft fu
      try clear cJ cK cL cM
      try clear cR cS cT cU
      try clear da db dc dd
      try clear dj dk dl dm
      try clear dt du dv dw
      try clear dI dJ dK dL
      try clear dQ dR dS dT
      try clear fa fb fd fe
      try clear fj fk fl fm
      try clear fv fw fz fA
      try clear dU
      try clear p2
      try clear cj
      try clear cm
      obtain⟨kq,bv,rfl,HA,jy,aj,ar,aa,ac,ae,ab,HB⟩:=hcut
      cases kq with
      | zero=>exact absurd HA.out (by simp [engrosslaw11_NodeAll.j2])
      | succ bq =>
       have H:=HA.out
       clear HA
       simp only [engrosslaw11_NodeAll.j2] at H
       replace H:=oS H
       obtain⟨⟨aZ,aN,aU,aV,cn⟩,fM,H⟩:=H
       replace H:(if bk=0 then ((engrossref10_Whole.f am).bind fun cf=>(if (strOfNums aA).toList=(strOfNums cf).toList then (if cn=0 then ((engrosslaw11_Back.f bq aZ aN aU aV).bind fun bJ=>((engrossref10_EqNode.f bq bJ.1 bJ.2.1 bJ.2.2.1 bJ.2.2.2 al ah ag ai).bind fun cp=>(if cp=true then ((engrosslaw11_Of.f bq al ah ag ai).bind fun aY=>((node_Kid.f bq aY.1 aY.2.1 aY.2.2.1 aY.2.2.2 ax).bind fun bw=>(some (bw == bv)))) else (none)))) else (none)) else (none))) else (none))=some r:=H
       have A68:=aK fM
       clear fM
       by_cases c69:bk=0
       rotate_left
       ·rw [if_neg c69] at H
        have gr:(bk == 0)=false:=beq_eq_false_iff_ne.mpr c69
        have gu:(bk != 0)=true:=bne_iff_ne.mpr c69
        exact absurd H (by simp)
       rw [if_pos c69] at H
       have gr:(bk == 0)=true:=beq_iff_eq.mpr c69
       have gu:(bk != 0)=false:=bne_eq_false_iff_eq.mpr c69
       clear c69
       replace H:=oS H
       obtain⟨cf,fN,H⟩:=H
       replace H:(if (strOfNums aA).toList=(strOfNums cf).toList then (if cn=0 then ((engrosslaw11_Back.f bq aZ aN aU aV).bind fun bJ=>((engrossref10_EqNode.f bq bJ.1 bJ.2.1 bJ.2.2.1 bJ.2.2.2 al ah ag ai).bind fun cp=>(if cp=true then ((engrosslaw11_Of.f bq al ah ag ai).bind fun aY=>((node_Kid.f bq aY.1 aY.2.1 aY.2.2.1 aY.2.2.2 ax).bind fun bw=>(some (bw == bv)))) else (none)))) else (none)) else (none))=some r:=H
       have A70:=aK fN
       clear fN
       by_cases c71:(strOfNums aA).toList=(strOfNums cf).toList
       rotate_left
       ·rw [if_neg c71] at H
        have gv:((strOfNums aA).toList == (strOfNums cf).toList)=false:=beq_eq_false_iff_ne.mpr c71
        have gw:((strOfNums aA).toList != (strOfNums cf).toList)=true:=bne_iff_ne.mpr c71
        exact absurd H (by simp)
       rw [if_pos c71] at H
       have gv:((strOfNums aA).toList == (strOfNums cf).toList)=true:=beq_iff_eq.mpr c71
       have gw:((strOfNums aA).toList != (strOfNums cf).toList)=false:=bne_eq_false_iff_eq.mpr c71
       clear c71
       by_cases c72:cn=0
       rotate_left
       ·rw [if_neg c72] at H
        have gx:(cn == 0)=false:=beq_eq_false_iff_ne.mpr c72
        have gy:(cn != 0)=true:=bne_iff_ne.mpr c72
        exact absurd H (by simp)
       rw [if_pos c72] at H
       have gx:(cn == 0)=true:=beq_iff_eq.mpr c72
       have gy:(cn != 0)=false:=bne_eq_false_iff_eq.mpr c72
       clear c72
       replace H:=oS H
       obtain⟨⟨ei,dy,ej,el⟩,fO,H⟩:=H
       replace H:((engrossref10_EqNode.f bq ei dy ej el al ah ag ai).bind fun cp=>(if cp=true then ((engrosslaw11_Of.f bq al ah ag ai).bind fun aY=>((node_Kid.f bq aY.1 aY.2.1 aY.2.2.1 aY.2.2.2 ax).bind fun bw=>(some (bw == bv)))) else (none)))=some r:=H
       have A73:=aK fO
       clear fO
       replace H:=oS H
       obtain⟨cp,fP,H⟩:=H
       replace H:(if cp=true then ((engrosslaw11_Of.f bq al ah ag ai).bind fun aY=>((node_Kid.f bq aY.1 aY.2.1 aY.2.2.1 aY.2.2.2 ax).bind fun bw=>(some (bw == bv)))) else (none))=some r:=H
       have A74:=aK fP
       clear fP
       by_cases c75:cp=true
       rotate_left
       ·replace c75:=Bool.eq_false_iff.mpr c75
        subst c75
        have H1:(none)=some r:=by rw [if_neg (show ¬ (false=true) by decide)] at H;exact H
        clear H
        have H:=H1
        clear H1
        exact absurd H (by simp)
       subst c75
       have H1:((engrosslaw11_Of.f bq al ah ag ai).bind fun aY=>((node_Kid.f bq aY.1 aY.2.1 aY.2.2.1 aY.2.2.2 ax).bind fun bw=>(some (bw == bv))))=some r:=by rw [if_pos rfl] at H;exact H
       clear H
       have H:=H1
       clear H1
       replace H:=oS H
       obtain⟨⟨em,ep,er,es⟩,fQ,H⟩:=H
       replace H:((node_Kid.f bq em ep er es ax).bind fun bw=>(some (bw == bv)))=some r:=H
       have A76:=aK fQ
       clear fQ
       replace H:=oS H
       obtain⟨bw,fR,H⟩:=H
       replace H:(some (bw == bv))=some r:=H
       have A77:=aK fR
       clear fR
       obtain rfl:=Option.some.inj H
       obtain⟨cq,ct,ix⟩:=Kd.R_slice ar.out
       subst ix
       try go_wp2_with (first|((with_reducible refine gate_callee (f:=21) rfl ?_);refine gL (some 92) Try.func21 #[.slice cq aA.length ct] ?_;(with_reducible refine (node_Decode.calls bq _ _ aA aZ aN aU aV cn _ ?side1 ?side2 A68.out).mono ?_);(case side1=>exact sC (Kd.R_reads' ar.out).2.2);(case side2=>exact (Kd.R_reads' ar.out).2.1);rintro e w79 ⟨jz,jA,jB,rfl,ho0,ho1,ho2,hb⟩;refine⟨_,rfl,?_⟩;have au:=aK (Kd.R_lower ho0 (below_size (bC HB)));have aC:=aK (Kd.R_lower (Kd.R_new' ho1 (Kd.R_lt (by (with_reducible repeat (first|apply Kd.R_alloc|apply Kd.R_drewN|apply Kd.R_drew));exact ac.out))) (below_size (bC HB)));have aD:=aK (Kd.R_lower (Kd.R_new' ho2 (Kd.R_lt (by (with_reducible repeat (first|apply Kd.R_alloc|apply Kd.R_drewN|apply Kd.R_drew));exact ae.out))) (below_size (bC HB)));replace aj:=rB aj hb;replace ar:=rB ar hb;replace aa:=rB aa hb;replace ac:=rE ac (Kd.R_base ho1) hb;replace ae:=rE ae (Kd.R_base ho2) hb;replace ab:=bB ab hb;replace HB:=bW HB hb;(try clear hb);(try clear hb2);(try clear hk);(try clear hi);(try clear ho0);(try clear ho1);(try clear ho2))|((with_reducible refine gate_dst (N:=12) rfl ?_);(try (refine gate_guard (by rfl) ?_;dsimp only));refine box_event ?hg (N:=12) ?hd (cs:=#[.bool false,.slice none 0 0,.slice none 0 0,.slice none 0 0]) (t:=36) ?hr ?_;(case hd=>rfl);(case hg=>rfl);(case hr=>first|(go_simp;done)|(go_simp;rfl));intro af hg w80 hbox hb;have ap:=aK (hbox);have ja:=bZ HB hg;have jb:=bZ HB hg;have eu:=bL ab hg;have ev:=bG ab hg;replace aj:=rB aj hb;replace ar:=rB ar hb;replace aa:=rB aa hb;replace ac:=rB ac hb;replace ae:=rB ae hb;replace au:=rB au hb;replace aC:=rB aC hb;replace aD:=rB aD hb;replace ab:=bB ab hb;replace HB:=bW HB hb;clear hb hbox hg;have hnb81:=ev.out;have hnc81:=eu.out;obtain⟨iL,iM,iN,iO,iP,iQ,iR,iS⟩:=bf4 (w:=w80) ap;obtain⟨ba,bb,iy⟩:=Kd.R_slice au.out;subst iy;obtain⟨bc,bf,iz⟩:=Kd.R_slice aC.out;subst iz;obtain⟨bg,bh,iA⟩:=Kd.R_slice aD.out;subst iA))
       have n0_:Aside0 (Kd.R (Kd.int .u8) 5 ((((w80.setCell ⟨af,0,none⟩ (.bool aZ)).setCell ⟨af,1,none⟩ (.slice ba aN.length bb)).setCell ⟨af,2,none⟩ (.slice bc aU.length bf)).setCell ⟨af,3,none⟩ (.slice bg aV.length bh)) w.heap.size (fun k_=>some k_≠(.slice cq aA.length ct:Value).ownBlock) (.slice bY am.length b8) am):=⟨by (with_reducible repeat (first|apply Kd.R_alloc|apply Kd.R_drewN|apply Kd.R_drew));exact Kd.R_mono (Kd.R_far (p:=⟨af,3,none⟩) (Kd.R_far (p:=⟨af,2,none⟩) (Kd.R_far (p:=⟨af,1,none⟩) (Kd.R_far (p:=⟨af,0,none⟩) (Kd.R_types aj.out ap.out (by decide)) (fun _ hk=>hk.2) (.bool aZ)) (fun _ hk=>hk.2) (.slice ba aN.length bb)) (fun _ hk=>hk.2) (.slice bc aU.length bf)) (fun _ hk=>hk.2) (.slice bg aV.length bh)) (fun _ hk=>hk.1)⟩
       have n1_:Aside0 (Kd.R (Kd.int .u8) 5 ((((w80.setCell ⟨af,0,none⟩ (.bool aZ)).setCell ⟨af,1,none⟩ (.slice ba aN.length bb)).setCell ⟨af,2,none⟩ (.slice bc aU.length bf)).setCell ⟨af,3,none⟩ (.slice bg aV.length bh)) w.heap.size (fun k_=>some k_≠(.slice bY am.length b8:Value).ownBlock) (.slice cq aA.length ct) aA):=⟨by (with_reducible repeat (first|apply Kd.R_alloc|apply Kd.R_drewN|apply Kd.R_drew));exact Kd.R_mono (Kd.R_far (p:=⟨af,3,none⟩) (Kd.R_far (p:=⟨af,2,none⟩) (Kd.R_far (p:=⟨af,1,none⟩) (Kd.R_far (p:=⟨af,0,none⟩) (Kd.R_types ar.out ap.out (by decide)) (fun _ hk=>hk.2) (.bool aZ)) (fun _ hk=>hk.2) (.slice ba aN.length bb)) (fun _ hk=>hk.2) (.slice bc aU.length bf)) (fun _ hk=>hk.2) (.slice bg aV.length bh)) (fun _ hk=>hk.1)⟩
       have n2_:Aside0 (Kd.R k56 56 ((((w80.setCell ⟨af,0,none⟩ (.bool aZ)).setCell ⟨af,1,none⟩ (.slice ba aN.length bb)).setCell ⟨af,2,none⟩ (.slice bc aU.length bf)).setCell ⟨af,3,none⟩ (.slice bg aV.length bh)) w.heap.size (fun _=>True) (.slice az ah.length ay) ah):=⟨by (with_reducible repeat (first|apply Kd.R_alloc|apply Kd.R_drewN|apply Kd.R_drew));exact Kd.R_mono (Kd.R_far (p:=⟨af,3,none⟩) (Kd.R_far (p:=⟨af,2,none⟩) (Kd.R_far (p:=⟨af,1,none⟩) (Kd.R_far (p:=⟨af,0,none⟩) (Kd.R_types aa.out ap.out (by decide)) (fun _ hk=>hk.2) (.bool aZ)) (fun _ hk=>hk.2) (.slice ba aN.length bb)) (fun _ hk=>hk.2) (.slice bc aU.length bf)) (fun _ hk=>hk.2) (.slice bg aV.length bh)) (fun _ hk=>trivial)⟩
       have n3_:Aside0 (Kd.R Kd.string 9 ((((w80.setCell ⟨af,0,none⟩ (.bool aZ)).setCell ⟨af,1,none⟩ (.slice ba aN.length bb)).setCell ⟨af,2,none⟩ (.slice bc aU.length bf)).setCell ⟨af,3,none⟩ (.slice bg aV.length bh)) w.heap.size (fun k_=>some k_≠(.slice bc aU.length bf:Value).ownBlock) (.slice aQ ag.length aJ) ag):=⟨by (with_reducible repeat (first|apply Kd.R_alloc|apply Kd.R_drewN|apply Kd.R_drew));exact Kd.R_mono (Kd.R_far (p:=⟨af,3,none⟩) (Kd.R_far (p:=⟨af,2,none⟩) (Kd.R_far (p:=⟨af,1,none⟩) (Kd.R_far (p:=⟨af,0,none⟩) (Kd.R_types ac.out ap.out (by decide)) (fun _ hk=>hk.2) (.bool aZ)) (fun _ hk=>hk.2) (.slice ba aN.length bb)) (fun _ hk=>hk.2) (.slice bc aU.length bf)) (fun _ hk=>hk.2) (.slice bg aV.length bh)) (fun _ hk=>hk.1.2)⟩
       have n4_:Aside0 (Kd.R (Kd.int .i64) 3 ((((w80.setCell ⟨af,0,none⟩ (.bool aZ)).setCell ⟨af,1,none⟩ (.slice ba aN.length bb)).setCell ⟨af,2,none⟩ (.slice bc aU.length bf)).setCell ⟨af,3,none⟩ (.slice bg aV.length bh)) w.heap.size (fun k_=>some k_≠(.slice bg aV.length bh:Value).ownBlock) (.slice aT ai.length aM) ai):=⟨by (with_reducible repeat (first|apply Kd.R_alloc|apply Kd.R_drewN|apply Kd.R_drew));exact Kd.R_mono (Kd.R_far (p:=⟨af,3,none⟩) (Kd.R_far (p:=⟨af,2,none⟩) (Kd.R_far (p:=⟨af,1,none⟩) (Kd.R_far (p:=⟨af,0,none⟩) (Kd.R_types ae.out ap.out (by decide)) (fun _ hk=>hk.2) (.bool aZ)) (fun _ hk=>hk.2) (.slice ba aN.length bb)) (fun _ hk=>hk.2) (.slice bc aU.length bf)) (fun _ hk=>hk.2) (.slice bg aV.length bh)) (fun _ hk=>hk.1.2)⟩
       have n5_:Aside0 (Kd.R k62 62 ((((w80.setCell ⟨af,0,none⟩ (.bool aZ)).setCell ⟨af,1,none⟩ (.slice ba aN.length bb)).setCell ⟨af,2,none⟩ (.slice bc aU.length bf)).setCell ⟨af,3,none⟩ (.slice bg aV.length bh)) w.heap.size (fun _=>True) (.slice ba aN.length bb) aN):=⟨by (with_reducible repeat (first|apply Kd.R_alloc|apply Kd.R_drewN|apply Kd.R_drew));exact Kd.R_mono (Kd.R_far (p:=⟨af,3,none⟩) (Kd.R_far (p:=⟨af,2,none⟩) (Kd.R_far (p:=⟨af,1,none⟩) (Kd.R_far (p:=⟨af,0,none⟩) (Kd.R_types au.out ap.out (by decide)) (fun _ hk=>hk.2) (.bool aZ)) (fun _ hk=>hk.2) (.slice ba aN.length bb)) (fun _ hk=>hk.2) (.slice bc aU.length bf)) (fun _ hk=>hk.2) (.slice bg aV.length bh)) (fun _ hk=>trivial)⟩
       have n6_:Aside0 (Kd.R Kd.string 9 ((((w80.setCell ⟨af,0,none⟩ (.bool aZ)).setCell ⟨af,1,none⟩ (.slice ba aN.length bb)).setCell ⟨af,2,none⟩ (.slice bc aU.length bf)).setCell ⟨af,3,none⟩ (.slice bg aV.length bh)) w.heap.size (fun k_=>some k_≠(.slice aQ ag.length aJ:Value).ownBlock) (.slice bc aU.length bf) aU):=⟨by (with_reducible repeat (first|apply Kd.R_alloc|apply Kd.R_drewN|apply Kd.R_drew));exact Kd.R_mono (Kd.R_far (p:=⟨af,3,none⟩) (Kd.R_far (p:=⟨af,2,none⟩) (Kd.R_far (p:=⟨af,1,none⟩) (Kd.R_far (p:=⟨af,0,none⟩) (Kd.R_types aC.out ap.out (by decide)) (fun _ hk=>hk.2) (.bool aZ)) (fun _ hk=>hk.2) (.slice ba aN.length bb)) (fun _ hk=>hk.2) (.slice bc aU.length bf)) (fun _ hk=>hk.2) (.slice bg aV.length bh)) (fun _ hk=>hk.1.2)⟩
       have n7_:Aside0 (Kd.R (Kd.int .i64) 3 ((((w80.setCell ⟨af,0,none⟩ (.bool aZ)).setCell ⟨af,1,none⟩ (.slice ba aN.length bb)).setCell ⟨af,2,none⟩ (.slice bc aU.length bf)).setCell ⟨af,3,none⟩ (.slice bg aV.length bh)) w.heap.size (fun k_=>some k_≠(.slice aT ai.length aM:Value).ownBlock) (.slice bg aV.length bh) aV):=⟨by (with_reducible repeat (first|apply Kd.R_alloc|apply Kd.R_drewN|apply Kd.R_drew));exact Kd.R_mono (Kd.R_far (p:=⟨af,3,none⟩) (Kd.R_far (p:=⟨af,2,none⟩) (Kd.R_far (p:=⟨af,1,none⟩) (Kd.R_far (p:=⟨af,0,none⟩) (Kd.R_types aD.out ap.out (by decide)) (fun _ hk=>hk.2) (.bool aZ)) (fun _ hk=>hk.2) (.slice ba aN.length bb)) (fun _ hk=>hk.2) (.slice bc aU.length bf)) (fun _ hk=>hk.2) (.slice bg aV.length bh)) (fun _ hk=>hk.1.2)⟩
       have n8_:Aside0 (((((w80.setCell ⟨af,0,none⟩ (.bool aZ)).setCell ⟨af,1,none⟩ (.slice ba aN.length bb)).setCell ⟨af,2,none⟩ (.slice bc aU.length bf)).setCell ⟨af,3,none⟩ (.slice bg aV.length bh)).heap[ao]? = some (.cells #[.bool al,.slice az ah.length ay,.slice aQ ag.length aJ,.slice aT ai.length aM] 26 (0,0))):=bS ab
       have n9_:Aside0 (((((w80.setCell ⟨af,0,none⟩ (.bool aZ)).setCell ⟨af,1,none⟩ (.slice ba aN.length bb)).setCell ⟨af,2,none⟩ (.slice bc aU.length bf)).setCell ⟨af,3,none⟩ (.slice bg aV.length bh)).heap[af]? = some (.cells #[.bool aZ,.slice ba aN.length bb,.slice bc aU.length bf,.slice bg aV.length bh] 36 (0,0))):=⟨by (with_reducible repeat (first|refine blk_drewN ?_ _|refine blk_drew ?_|refine blk_alloc ?_ _));refine blk_put (cs:=#[.bool aZ,.slice ba aN.length bb,.slice bc aU.length bf,.slice none 0 0]) ?_ 3 _ rfl;(with_reducible repeat (first|refine blk_drewN ?_ _|refine blk_drew ?_|refine blk_alloc ?_ _));refine blk_put (cs:=#[.bool aZ,.slice ba aN.length bb,.slice none 0 0,.slice none 0 0]) ?_ 2 _ rfl;(with_reducible repeat (first|refine blk_drewN ?_ _|refine blk_drew ?_|refine blk_alloc ?_ _));refine blk_put (cs:=#[.bool aZ,.slice none 0 0,.slice none 0 0,.slice none 0 0]) ?_ 1 _ rfl;(with_reducible repeat (first|refine blk_drewN ?_ _|refine blk_drew ?_|refine blk_alloc ?_ _));refine blk_put (cs:=#[.bool false,.slice none 0 0,.slice none 0 0,.slice none 0 0]) ?_ 0 _ rfl;(with_reducible repeat (first|refine blk_drewN ?_ _|refine blk_drew ?_|refine blk_alloc ?_ _));exact ap.out⟩
       have n10_:Aside0 (Below w.heap.size w ((((w80.setCell ⟨af,0,none⟩ (.bool aZ)).setCell ⟨af,1,none⟩ (.slice ba aN.length bb)).setCell ⟨af,2,none⟩ (.slice bc aU.length bf)).setCell ⟨af,3,none⟩ (.slice bg aV.length bh))):=bV HB
       (try clear aj)
       (try clear ar)
       (try clear aa)
       (try clear ac)
       (try clear ae)
       (try clear au)
       (try clear aC)
       (try clear aD)
       (try clear ab)
       (try clear ap)
       (try clear HB)
       generalize ((((w80.setCell ⟨af,0,none⟩ (.bool aZ)).setCell ⟨af,1,none⟩ (.slice ba aN.length bb)).setCell ⟨af,2,none⟩ (.slice bc aU.length bf)).setCell ⟨af,3,none⟩ (.slice bg aV.length bh))=w86 at n0_ n1_ n2_ n3_ n4_ n5_ n6_ n7_ n8_ n9_ n10_ ⊢
       have aj:=n0_
       have ar:=n1_
       have aa:=n2_
       have ac:=n3_
       have ae:=n4_
       have au:=n5_
       have aC:=n6_
       have aD:=n7_
       have ab:=n8_
       have ap:=n9_
       have HB:=n10_
       clear n0_ n1_ n2_ n3_ n4_ n5_ n6_ n7_ n8_ n9_ n10_
       replace aj:=aK (Kd.R_drew aj.out)
       replace ar:=aK (Kd.R_drew ar.out)
       replace aa:=aK (Kd.R_drew aa.out)
       replace ac:=aK (Kd.R_drew ac.out)
       replace ae:=aK (Kd.R_drew ae.out)
       replace au:=aK (Kd.R_drew au.out)
       replace aC:=aK (Kd.R_drew aC.out)
       replace aD:=aK (Kd.R_drew aD.out)
       replace ab:=aK (blk_drew ab.out)
       replace ap:=aK (blk_drew ap.out)
       replace HB:=aK (below_drew1 HB.out)
       refine start_ (n:=29) (S:=fun w'=>w'.cell? ⟨af,0,none⟩=some (.bool aZ)∧w'.cell? ⟨af,1,none⟩=some (.slice ba aN.length bb)∧w'.cell? ⟨af,2,none⟩=some (.slice bc aU.length bf)∧w'.cell? ⟨af,3,none⟩=some (.slice bg aV.length bh)∧w'.cell? ⟨ao,0,none⟩=some (.bool al)∧w'.cell? ⟨ao,1,none⟩=some (.slice az ah.length ay)∧w'.cell? ⟨ao,2,none⟩=some (.slice aQ ag.length aJ)∧w'.cell? ⟨ao,3,none⟩=some (.slice aT ai.length aM)∧(convert 30 9 (.slice cq aA.length ct)).run Try.prog w' = .ok (.string (strOfNums aA)) w') (ds:=[]) #[false,false,false,false,false,false,false,false,false,false,false,false,false,false,false,false,false,false,false,false,false,false,false,false,false,false,false,false,false] (by kernel_rfl) rfl rfl (bn4 ap (bn4 ab ((by have T_:=Kd.x_R_string (P:=Try.prog) Try.underlying30 Try.underlying5 Try.underlying9 (ar.out);first|exact T_.1|exact T_.2 _|(simp only [World.drewN_drewN];exact T_.2 _))))) (fun hHeld=>?_);refine with_tabW engrosslaw11_NodeAll.tab23 engrosslaw11_NodeAll.bits23 (fun HT_ HW_=>?_)
       generalize w86.drew=w87 at aj ar aa ac ae au aC aD ab ap HB hHeld ⊢
       refine pA 0 95 HT_ ?_
       refine pA 1 96 HT_ ?_
       refine pA 2 97 HT_ ?_
       refine pA 3 98 HT_ ?_
       refine pA 5 100 HT_ ?_
       refine tA 4 99 HT_ HW_ hHeld ?_ (hy:=by rintro w' ⟨s0,s1,s2,s3,s4,s5,s6,s7,s8⟩;go_simp;with_reducible rfl)
       refine oA 6 (some 101) HT_ (fun K hK=>?_)
       refine goes_ Try.func22 (by kernel_rfl) rfl #[.slice bY am.length b8] (by rfl) rfl rfl (by (try simp only [List.map_toArray,List.map_cons,List.map_nil]);first|done|rfl|(simp only [List.length_drop,List.length_take];rfl)) ?_
       with_reducible refine (engrossref10_Whole.calls _ _ am cf _ ?side1 ?side2 A70.out).mono ?_
       (case side1=>exact sC (Kd.R_reads' aj.out).2.2)
       (case side2=>exact (Kd.R_reads' aj.out).2.1)
       rintro e w89 ⟨et,rfl,ho0,hb⟩
       refine⟨_,rfl,?_⟩
       have aW:=aK (Kd.R_lower (Kd.R_new' (Kd.R_new' ho0 (Kd.R_lt (by (with_reducible repeat (first|apply Kd.R_alloc|apply Kd.R_drewN|apply Kd.R_drew));exact aj.out))) (Kd.R_lt (by (with_reducible repeat (first|apply Kd.R_alloc|apply Kd.R_drewN|apply Kd.R_drew));exact ar.out))) (below_size (bC HB)))
       replace aj:=rE aj (Kd.R_base ho0) hb
       replace ar:=rE ar (Kd.R_base ho0) hb
       replace aa:=rB aa hb
       replace ac:=rB ac hb
       replace ae:=rB ae hb
       replace au:=rB au hb
       replace aC:=rB aC hb
       replace aD:=rB aD hb
       replace ab:=bB ab hb
       replace ap:=bB ap hb
       replace HB:=bW HB hb
       (try clear hb)
       (try clear hb2)
       (try clear hk)
       (try clear hi)
       (try clear ho0)
       refine hK.out _ _ (bn4 ap (bn4 ab ((by have T_:=Kd.x_R_string (P:=Try.prog) Try.underlying30 Try.underlying5 Try.underlying9 (ar.out);first|exact T_.1|exact T_.2 _|(simp only [World.drewN_drewN];exact T_.2 _))))) (fun hHeld=>?_)
       clear hK K
       refine norm_ (a':=?_) ?_ ?_
       rotate_left
       ·show Act.put _ (some 101) _=_
        simp only [Act.put,List.setIfInBounds_toArray,List.set_cons_zero,List.set_cons_succ,i64_w,i32_w]
        rfl
       refine oA 7 (some 102) HT_ (fun K hK=>?_)
       have gz:=own_string (P:=Try.prog) Try.underlying30 Try.underlying5 Try.underlying9 (Kd.own_of_R aW.out)
       refine value_ (w1:=?_) (v:=?_) (by rfl) rfl ?_ ?_
       rotate_left 2
       ·go_simp
        constructor
        ·rfl
        ·rfl
       clear gz
       refine hK.out _ _ (bn4 ap (bn4 ab ((by have T_:=Kd.x_R_string (P:=Try.prog) Try.underlying30 Try.underlying5 Try.underlying9 (ar.out);first|exact T_.1|exact T_.2 _|(simp only [World.drewN_drewN];exact T_.2 _))))) (fun hHeld=>?_)
       clear hK K
       refine norm_ (a':=?_) ?_ ?_
       rotate_left
       ·show Act.put _ (some 102) _=_
        simp only [Act.put,List.setIfInBounds_toArray,List.set_cons_zero,List.set_cons_succ,i64_w,i32_w]
        rfl
       refine pA 8 103 HT_ ?_
       refine pA 9 104 HT_ ?_
       refine pA 10 105 HT_ ?_
       refine pA 11 106 HT_ ?_
       refine pA 12 107 HT_ ?_
       refine pA 13 108 HT_ ?_
       refine pA 14 109 HT_ ?_
       refine tA 15 110 HT_ HW_ hHeld ?_ (hy:=by rintro w' ⟨s0,s1,s2,s3,s4,s5,s6,s7,s8⟩;go_simp;with_reducible rfl)
       refine tA 17 112 HT_ HW_ hHeld ?_ (hy:=by rintro w' ⟨s0,s1,s2,s3,s4,s5,s6,s7,s8⟩;go_simp;with_reducible rfl)
       refine oA 16 (some 111) HT_ (fun K hK=>?_)
       refine goes_ Try.func24 (by kernel_rfl) rfl #[.agg #[.bool aZ,.slice ba aN.length bb,.slice bc aU.length bf,.slice bg aV.length bh]] (by rfl) rfl rfl (by (try simp only [List.map_toArray,List.map_cons,List.map_nil]);first|done|rfl|(simp only [List.length_drop,List.length_take];rfl)) ?_
       with_reducible refine (engrosslaw11_Back.calls bq aZ _ _ aN (fun k_=>some k_=(.slice bc aU.length bf:Value).ownBlock) _ _ aU (fun k_=>some k_=(.slice bg aV.length bh:Value).ownBlock) _ _ aV ei dy ej el _ ?side1 ?side2 ?side3 ?side4 A73.out).mono ?_
       (case side1=>exact sC (Kd.R_reads' au.out).2.2)
       (case side2=>exact (Kd.R_reads' au.out).2.1)
       (case side3=>exact Kd.R_V (Kd.R_tight rfl (Kd.R_types (Kd.R_types (Kd.R_apart' (Kd.R_apart' (Kd.R_apart' (Kd.R_apart' (Kd.R_apart' (Kd.R_apart' (Kd.R_apart' (aC.out) (Kd.R_typed aj.out) (by decide)) (Kd.R_typed ar.out) (by decide)) (Kd.R_typed aa.out) (by decide)) (Kd.R_typed ae.out) (by decide)) (Kd.R_typed au.out) (by decide)) (Kd.R_typed aD.out) (by decide)) (Kd.R_typed aW.out) (by decide)) ab.out (by decide)) ap.out (by decide))))
       (case side4=>exact Kd.R_V (Kd.R_tight rfl (Kd.R_types (Kd.R_types (Kd.R_apart' (Kd.R_apart' (Kd.R_apart' (Kd.R_apart' (Kd.R_apart' (Kd.R_apart' (Kd.R_apart' (aD.out) (Kd.R_typed aj.out) (by decide)) (Kd.R_typed ar.out) (by decide)) (Kd.R_typed aa.out) (by decide)) (Kd.R_typed ac.out) (by decide)) (Kd.R_typed au.out) (by decide)) (Kd.R_typed aC.out) (by decide)) (Kd.R_typed aW.out) (by decide)) ab.out (by decide)) ap.out (by decide))))
       rintro e w91 ⟨fS,jC,jD,rfl,ho0,ho1,ho2,hb⟩
       refine⟨_,rfl,?_⟩
       have bp:=aK (Kd.R_lower (Kd.R_new' (Kd.R_mono (ok':=fun k_=>True) ho0 (fun _ hk_=>trivial)) (Kd.R_lt (by (with_reducible repeat (first|apply Kd.R_alloc|apply Kd.R_drewN|apply Kd.R_drew));exact aa.out))) (below_size (bC HB)))
       have q0_:=(Kd.R_types (Kd.R_types (Kd.R_apart' (Kd.R_apart' (Kd.R_apart' (Kd.R_apart' (Kd.R_apart' (Kd.R_apart' (Kd.R_apart' (aC.out) (Kd.R_typed aj.out) (by decide)) (Kd.R_typed ar.out) (by decide)) (Kd.R_typed aa.out) (by decide)) (Kd.R_typed ae.out) (by decide)) (Kd.R_typed au.out) (by decide)) (Kd.R_typed aD.out) (by decide)) (Kd.R_typed aW.out) (by decide)) ab.out (by decide)) ap.out (by decide))
       have q1_:=(Kd.R_types (Kd.R_types (Kd.R_apart' (Kd.R_apart' (Kd.R_apart' (Kd.R_apart' (Kd.R_apart' (Kd.R_apart' (Kd.R_apart' (aD.out) (Kd.R_typed aj.out) (by decide)) (Kd.R_typed ar.out) (by decide)) (Kd.R_typed aa.out) (by decide)) (Kd.R_typed ac.out) (by decide)) (Kd.R_typed au.out) (by decide)) (Kd.R_typed aC.out) (by decide)) (Kd.R_typed aW.out) (by decide)) ab.out (by decide)) ap.out (by decide))
       have bM:=aK (Kd.V_lower (Kd.V_mono (ok':=fun k_=>some k_≠(fS:Value).ownBlock∧some k_≠(.slice bY am.length b8:Value).ownBlock∧some k_≠(.slice cq aA.length ct:Value).ownBlock∧some k_≠(.slice az ah.length ay:Value).ownBlock∧some k_≠(.slice aQ ag.length aJ:Value).ownBlock∧some k_≠(.slice aT ai.length aM:Value).ownBlock∧some k_≠(.slice ba aN.length bb:Value).ownBlock∧some k_≠(et:Value).ownBlock∧k_≠ao∧k_≠af) ho1 (fun k_ hk_=>⟨hk_.2,Or.elim hk_.1 (fun hs_=>Or.elim hs_ (fun hs_=>(q0_.1 k_ hs_.symm).1.1.1.1.1.1.1.1.2) (fun hs_=>(q1_.1 k_ hs_.symm).1.1.1.1.1.1.1.1.2)) (fun hn_=>(rF aj k_ hn_)),Or.elim hk_.1 (fun hs_=>Or.elim hs_ (fun hs_=>(q0_.1 k_ hs_.symm).1.1.1.1.1.1.1.2) (fun hs_=>(q1_.1 k_ hs_.symm).1.1.1.1.1.1.1.2)) (fun hn_=>(rF ar k_ hn_)),Or.elim hk_.1 (fun hs_=>Or.elim hs_ (fun hs_=>(q0_.1 k_ hs_.symm).1.1.1.1.1.1.2) (fun hs_=>(q1_.1 k_ hs_.symm).1.1.1.1.1.1.2)) (fun hn_=>(rF aa k_ hn_)),Or.elim hk_.1 (fun hs_=>Or.elim hs_ (fun hs_=>(q0_.1 k_ hs_.symm).1.1.1.1.1.1.1.1.1) (fun hs_=>(q1_.1 k_ hs_.symm).1.1.1.1.1.2)) (fun hn_=>(rF ac k_ hn_)),Or.elim hk_.1 (fun hs_=>Or.elim hs_ (fun hs_=>(q0_.1 k_ hs_.symm).1.1.1.1.1.2) (fun hs_=>(q1_.1 k_ hs_.symm).1.1.1.1.1.1.1.1.1)) (fun hn_=>(rF ae k_ hn_)),Or.elim hk_.1 (fun hs_=>Or.elim hs_ (fun hs_=>(q0_.1 k_ hs_.symm).1.1.1.1.2) (fun hs_=>(q1_.1 k_ hs_.symm).1.1.1.1.2)) (fun hn_=>(rF au k_ hn_)),Or.elim hk_.1 (fun hs_=>Or.elim hs_ (fun hs_=>(q0_.1 k_ hs_.symm).1.1.2) (fun hs_=>(q1_.1 k_ hs_.symm).1.1.2)) (fun hn_=>(rF aW k_ hn_)),Or.elim hk_.1 (fun hs_=>Or.elim hs_ (fun hs_=>(q0_.1 k_ hs_.symm).1.2) (fun hs_=>(q1_.1 k_ hs_.symm).1.2)) (fun hn_=>(Kd.freshB (bQ ab) k_ hn_)),Or.elim hk_.1 (fun hs_=>Or.elim hs_ (fun hs_=>(q0_.1 k_ hs_.symm).2) (fun hs_=>(q1_.1 k_ hs_.symm).2)) (fun hn_=>(Kd.freshB (bQ ap) k_ hn_))⟩)) (below_size (bC HB)))
       clear q0_ q1_
       have q0_:=(Kd.R_types (Kd.R_types (Kd.R_apart' (Kd.R_apart' (Kd.R_apart' (Kd.R_apart' (Kd.R_apart' (Kd.R_apart' (Kd.R_apart' (aC.out) (Kd.R_typed aj.out) (by decide)) (Kd.R_typed ar.out) (by decide)) (Kd.R_typed aa.out) (by decide)) (Kd.R_typed ae.out) (by decide)) (Kd.R_typed au.out) (by decide)) (Kd.R_typed aD.out) (by decide)) (Kd.R_typed aW.out) (by decide)) ab.out (by decide)) ap.out (by decide))
       have q1_:=(Kd.R_types (Kd.R_types (Kd.R_apart' (Kd.R_apart' (Kd.R_apart' (Kd.R_apart' (Kd.R_apart' (Kd.R_apart' (Kd.R_apart' (aD.out) (Kd.R_typed aj.out) (by decide)) (Kd.R_typed ar.out) (by decide)) (Kd.R_typed aa.out) (by decide)) (Kd.R_typed ac.out) (by decide)) (Kd.R_typed au.out) (by decide)) (Kd.R_typed aC.out) (by decide)) (Kd.R_typed aW.out) (by decide)) ab.out (by decide)) ap.out (by decide))
       have bN:=aK (Kd.V_lower (Kd.V_mono (ok':=fun k_=>some k_≠(fS:Value).ownBlock∧some k_≠(.slice bY am.length b8:Value).ownBlock∧some k_≠(.slice cq aA.length ct:Value).ownBlock∧some k_≠(.slice az ah.length ay:Value).ownBlock∧some k_≠(.slice aQ ag.length aJ:Value).ownBlock∧some k_≠(.slice aT ai.length aM:Value).ownBlock∧some k_≠(.slice ba aN.length bb:Value).ownBlock∧some k_≠(et:Value).ownBlock∧k_≠ao∧k_≠af) ho2 (fun k_ hk_=>⟨hk_.2,Or.elim hk_.1 (fun hs_=>Or.elim hs_ (fun hs_=>(q0_.1 k_ hs_.symm).1.1.1.1.1.1.1.1.2) (fun hs_=>(q1_.1 k_ hs_.symm).1.1.1.1.1.1.1.1.2)) (fun hn_=>(rF aj k_ hn_)),Or.elim hk_.1 (fun hs_=>Or.elim hs_ (fun hs_=>(q0_.1 k_ hs_.symm).1.1.1.1.1.1.1.2) (fun hs_=>(q1_.1 k_ hs_.symm).1.1.1.1.1.1.1.2)) (fun hn_=>(rF ar k_ hn_)),Or.elim hk_.1 (fun hs_=>Or.elim hs_ (fun hs_=>(q0_.1 k_ hs_.symm).1.1.1.1.1.1.2) (fun hs_=>(q1_.1 k_ hs_.symm).1.1.1.1.1.1.2)) (fun hn_=>(rF aa k_ hn_)),Or.elim hk_.1 (fun hs_=>Or.elim hs_ (fun hs_=>(q0_.1 k_ hs_.symm).1.1.1.1.1.1.1.1.1) (fun hs_=>(q1_.1 k_ hs_.symm).1.1.1.1.1.2)) (fun hn_=>(rF ac k_ hn_)),Or.elim hk_.1 (fun hs_=>Or.elim hs_ (fun hs_=>(q0_.1 k_ hs_.symm).1.1.1.1.1.2) (fun hs_=>(q1_.1 k_ hs_.symm).1.1.1.1.1.1.1.1.1)) (fun hn_=>(rF ae k_ hn_)),Or.elim hk_.1 (fun hs_=>Or.elim hs_ (fun hs_=>(q0_.1 k_ hs_.symm).1.1.1.1.2) (fun hs_=>(q1_.1 k_ hs_.symm).1.1.1.1.2)) (fun hn_=>(rF au k_ hn_)),Or.elim hk_.1 (fun hs_=>Or.elim hs_ (fun hs_=>(q0_.1 k_ hs_.symm).1.1.2) (fun hs_=>(q1_.1 k_ hs_.symm).1.1.2)) (fun hn_=>(rF aW k_ hn_)),Or.elim hk_.1 (fun hs_=>Or.elim hs_ (fun hs_=>(q0_.1 k_ hs_.symm).1.2) (fun hs_=>(q1_.1 k_ hs_.symm).1.2)) (fun hn_=>(Kd.freshB (bQ ab) k_ hn_)),Or.elim hk_.1 (fun hs_=>Or.elim hs_ (fun hs_=>(q0_.1 k_ hs_.symm).2) (fun hs_=>(q1_.1 k_ hs_.symm).2)) (fun hn_=>(Kd.freshB (bQ ap) k_ hn_))⟩)) (below_size (bC HB)))
       clear q0_ q1_
       replace aj:=rB aj hb
       replace ar:=rB ar hb
       replace aa:=rE aa (Kd.R_base ho0) hb
       replace ac:=rB ac hb
       replace ae:=rB ae hb
       replace au:=rB au hb
       replace aC:=rB aC hb
       replace aD:=rB aD hb
       replace aW:=rB aW hb
       replace ab:=bB ab hb
       replace ap:=bB ap hb
       replace HB:=bW HB hb
       (try clear hb)
       (try clear hb2)
       (try clear hk)
       (try clear hi)
       (try clear ho0)
       (try clear ho1)
       (try clear ho2)
       obtain⟨eI,eJ,fT⟩:=Kd.R_slice bp.out
       (first|subst fT|(injection fT with f1_ f2_ f3_;have f4_:=f1_.symm;have f5_:=f3_.symm;clear f1_ f2_ f3_;subst f4_;subst f5_))
       obtain⟨iB,iC,fU⟩:=Kd.V_slice bM.out
       (first|subst fU|(injection fU with f1_ f2_ f3_;have f4_:=f1_.symm;have f5_:=f3_.symm;clear f1_ f2_ f3_;subst f4_;subst f5_))
       obtain⟨iD,iE,fV⟩:=Kd.V_slice bN.out
       (first|subst fV|(injection fV with f1_ f2_ f3_;have f4_:=f1_.symm;have f5_:=f3_.symm;clear f1_ f2_ f3_;subst f4_;subst f5_))
       refine hK.out _ _ (bn4 ap (bn4 ab ((by have T_:=Kd.x_R_string (P:=Try.prog) Try.underlying30 Try.underlying5 Try.underlying9 (ar.out);first|exact T_.1|exact T_.2 _|(simp only [World.drewN_drewN];exact T_.2 _))))) (fun hHeld=>?_)
       clear hK K
       refine norm_ (a':=?_) ?_ ?_
       rotate_left
       ·show Act.put _ (some 111) _=_
        simp only [Act.put,List.setIfInBounds_toArray,List.set_cons_zero,List.set_cons_succ,i64_w,i32_w]
        rfl
       refine oA 18 (some 113) HT_ (fun K hK=>?_)
       refine goes_ Try.func23 (by kernel_rfl) rfl #[.agg #[.bool ei,.slice eI dy.length eJ,.slice iB ej.length iC,.slice iD el.length iE],.agg #[.bool al,.slice az ah.length ay,.slice aQ ag.length aJ,.slice aT ai.length aM]] (by rfl) rfl rfl (by (try simp only [List.map_toArray,List.map_cons,List.map_nil]);first|done|rfl|(simp only [List.length_drop,List.length_take];rfl)) ?_
       with_reducible refine (engrossref10_EqNode.calls bq ei _ _ dy _ _ ej _ _ el al _ _ ah _ _ ag _ _ ai true _ ?side1 ?side2 ?side3 ?side4 ?side5 ?side6 ?side7 ?side8 ?side9 ?side10 ?side11 ?side12 A74.out).mono ?_
       (case side1=>exact sC (Kd.R_reads' bp.out).2.2)
       (case side2=>exact (Kd.R_reads' bp.out).2.1)
       (case side3=>exact sC (Kd.V_reads' bM.out).2.2)
       (case side4=>exact (Kd.V_reads' bM.out).2.1)
       (case side5=>exact sC (Kd.V_reads' bN.out).2.2)
       (case side6=>exact (Kd.V_reads' bN.out).2.1)
       (case side7=>exact sC (Kd.R_reads' aa.out).2.2)
       (case side8=>exact (Kd.R_reads' aa.out).2.1)
       (case side9=>exact sC (Kd.R_reads' ac.out).2.2)
       (case side10=>exact (Kd.R_reads' ac.out).2.1)
       (case side11=>exact sC (Kd.R_reads' ae.out).2.2)
       (case side12=>exact (Kd.R_reads' ae.out).2.1)
       rintro e w95 ⟨rfl,hb⟩
       refine⟨_,rfl,?_⟩
       replace aj:=rB aj hb
       replace ar:=rB ar hb
       replace aa:=rB aa hb
       replace ac:=rB ac hb
       replace ae:=rB ae hb
       replace au:=rB au hb
       replace aC:=rB aC hb
       replace aD:=rB aD hb
       replace aW:=rB aW hb
       replace bp:=rB bp hb
       replace bM:=vB bM hb
       replace bN:=vB bN hb
       replace ab:=bB ab hb
       replace ap:=bB ap hb
       replace HB:=bW HB hb
       (try clear hb)
       (try clear hb2)
       (try clear hk)
       (try clear hi)
       refine hK.out _ _ (bn4 ap (bn4 ab ((by have T_:=Kd.x_R_string (P:=Try.prog) Try.underlying30 Try.underlying5 Try.underlying9 (ar.out);first|exact T_.1|exact T_.2 _|(simp only [World.drewN_drewN];exact T_.2 _))))) (fun hHeld=>?_)
       clear hK K
       refine norm_ (a':=?_) ?_ ?_
       rotate_left
       ·show Act.put _ (some 113) _=_
        simp only [Act.put,List.setIfInBounds_toArray,List.set_cons_zero,List.set_cons_succ,i64_w,i32_w]
        rfl
       refine pA 19 114 HT_ ?_
       refine pA 20 115 HT_ ?_
       refine pA 23 118 HT_ ?_
       refine pA 25 120 HT_ ?_
       refine tA 21 116 HT_ HW_ hHeld ?_ (hy:=by rintro w' ⟨s0,s1,s2,s3,s4,s5,s6,s7,s8⟩;go_simp;with_reducible rfl)
       refine oA 22 (some 117) HT_ (fun K hK=>?_)
       refine goes_ Try.func17 (by kernel_rfl) rfl #[.agg #[.bool al,.slice az ah.length ay,.slice aQ ag.length aJ,.slice aT ai.length aM]] (by rfl) rfl rfl (by (try simp only [List.map_toArray,List.map_cons,List.map_nil]);first|done|rfl|(simp only [List.length_drop,List.length_take];rfl)) ?_
       with_reducible refine (engrosslaw11_Of.calls bq al _ _ ah (fun k_=>some k_=(.slice aQ ag.length aJ:Value).ownBlock) _ _ ag (fun k_=>some k_=(.slice aT ai.length aM:Value).ownBlock) _ _ ai em ep er es _ ?side1 ?side2 ?side3 ?side4 A76.out).mono ?_
       (case side1=>exact sC (Kd.R_reads' aa.out).2.2)
       (case side2=>exact (Kd.R_reads' aa.out).2.1)
       (case side3=>exact Kd.R_V (Kd.R_tight rfl (Kd.R_types (Kd.R_types (Kd.R_apart' (Kd.R_apart' (Kd.R_apart' (Kd.R_apart' (Kd.R_apart' (Kd.R_apart' (Kd.R_apart' (Kd.R_apart' (ac.out) (Kd.R_typed aj.out) (by decide)) (Kd.R_typed ar.out) (by decide)) (Kd.R_typed aa.out) (by decide)) (Kd.R_typed ae.out) (by decide)) (Kd.R_typed au.out) (by decide)) (Kd.R_typed aD.out) (by decide)) (Kd.R_typed aW.out) (by decide)) (Kd.R_typed bp.out) (by decide)) ab.out (by decide)) ap.out (by decide))))
       (case side4=>exact Kd.R_V (Kd.R_tight rfl (Kd.R_types (Kd.R_types (Kd.R_apart' (Kd.R_apart' (Kd.R_apart' (Kd.R_apart' (Kd.R_apart' (Kd.R_apart' (Kd.R_apart' (Kd.R_apart' (ae.out) (Kd.R_typed aj.out) (by decide)) (Kd.R_typed ar.out) (by decide)) (Kd.R_typed aa.out) (by decide)) (Kd.R_typed ac.out) (by decide)) (Kd.R_typed au.out) (by decide)) (Kd.R_typed aC.out) (by decide)) (Kd.R_typed aW.out) (by decide)) (Kd.R_typed bp.out) (by decide)) ab.out (by decide)) ap.out (by decide))))
       rintro e w96 ⟨fW,jE,jF,rfl,ho0,ho1,ho2,hb⟩
       refine⟨_,rfl,?_⟩
       have cC:=aK (Kd.R_lower (Kd.R_new' (Kd.R_mono (ok':=fun k_=>True) ho0 (fun _ hk_=>trivial)) (Kd.R_lt (by (with_reducible repeat (first|apply Kd.R_alloc|apply Kd.R_drewN|apply Kd.R_drew));exact au.out))) (below_size (bC HB)))
       have q0_:=(Kd.R_types (Kd.R_types (Kd.R_apart' (Kd.R_apart' (Kd.R_apart' (Kd.R_apart' (Kd.R_apart' (Kd.R_apart' (Kd.R_apart' (Kd.R_apart' (ac.out) (Kd.R_typed aj.out) (by decide)) (Kd.R_typed ar.out) (by decide)) (Kd.R_typed aa.out) (by decide)) (Kd.R_typed ae.out) (by decide)) (Kd.R_typed au.out) (by decide)) (Kd.R_typed aD.out) (by decide)) (Kd.R_typed aW.out) (by decide)) (Kd.R_typed bp.out) (by decide)) ab.out (by decide)) ap.out (by decide))
       have q1_:=(Kd.R_types (Kd.R_types (Kd.R_apart' (Kd.R_apart' (Kd.R_apart' (Kd.R_apart' (Kd.R_apart' (Kd.R_apart' (Kd.R_apart' (Kd.R_apart' (ae.out) (Kd.R_typed aj.out) (by decide)) (Kd.R_typed ar.out) (by decide)) (Kd.R_typed aa.out) (by decide)) (Kd.R_typed ac.out) (by decide)) (Kd.R_typed au.out) (by decide)) (Kd.R_typed aC.out) (by decide)) (Kd.R_typed aW.out) (by decide)) (Kd.R_typed bp.out) (by decide)) ab.out (by decide)) ap.out (by decide))
       have cD:=aK (Kd.V_lower (Kd.V_mono (ok':=fun k_=>some k_≠(fW:Value).ownBlock∧some k_≠(.slice bY am.length b8:Value).ownBlock∧some k_≠(.slice cq aA.length ct:Value).ownBlock∧some k_≠(.slice az ah.length ay:Value).ownBlock∧some k_≠(.slice ba aN.length bb:Value).ownBlock∧some k_≠(.slice bc aU.length bf:Value).ownBlock∧some k_≠(.slice bg aV.length bh:Value).ownBlock∧some k_≠(et:Value).ownBlock∧some k_≠(.slice eI dy.length eJ:Value).ownBlock∧k_≠ao∧k_≠af) ho1 (fun k_ hk_=>⟨hk_.2,Or.elim hk_.1 (fun hs_=>Or.elim hs_ (fun hs_=>(q0_.1 k_ hs_.symm).1.1.1.1.1.1.1.1.1.2) (fun hs_=>(q1_.1 k_ hs_.symm).1.1.1.1.1.1.1.1.1.2)) (fun hn_=>(rF aj k_ hn_)),Or.elim hk_.1 (fun hs_=>Or.elim hs_ (fun hs_=>(q0_.1 k_ hs_.symm).1.1.1.1.1.1.1.1.2) (fun hs_=>(q1_.1 k_ hs_.symm).1.1.1.1.1.1.1.1.2)) (fun hn_=>(rF ar k_ hn_)),Or.elim hk_.1 (fun hs_=>Or.elim hs_ (fun hs_=>(q0_.1 k_ hs_.symm).1.1.1.1.1.1.1.2) (fun hs_=>(q1_.1 k_ hs_.symm).1.1.1.1.1.1.1.2)) (fun hn_=>(rF aa k_ hn_)),Or.elim hk_.1 (fun hs_=>Or.elim hs_ (fun hs_=>(q0_.1 k_ hs_.symm).1.1.1.1.1.2) (fun hs_=>(q1_.1 k_ hs_.symm).1.1.1.1.1.2)) (fun hn_=>(rF au k_ hn_)),Or.elim hk_.1 (fun hs_=>Or.elim hs_ (fun hs_=>(q0_.1 k_ hs_.symm).1.1.1.1.1.1.1.1.1.1) (fun hs_=>(q1_.1 k_ hs_.symm).1.1.1.1.2)) (fun hn_=>(rF aC k_ hn_)),Or.elim hk_.1 (fun hs_=>Or.elim hs_ (fun hs_=>(q0_.1 k_ hs_.symm).1.1.1.1.2) (fun hs_=>(q1_.1 k_ hs_.symm).1.1.1.1.1.1.1.1.1.1)) (fun hn_=>(rF aD k_ hn_)),Or.elim hk_.1 (fun hs_=>Or.elim hs_ (fun hs_=>(q0_.1 k_ hs_.symm).1.1.1.2) (fun hs_=>(q1_.1 k_ hs_.symm).1.1.1.2)) (fun hn_=>(rF aW k_ hn_)),Or.elim hk_.1 (fun hs_=>Or.elim hs_ (fun hs_=>(q0_.1 k_ hs_.symm).1.1.2) (fun hs_=>(q1_.1 k_ hs_.symm).1.1.2)) (fun hn_=>(rF bp k_ hn_)),Or.elim hk_.1 (fun hs_=>Or.elim hs_ (fun hs_=>(q0_.1 k_ hs_.symm).1.2) (fun hs_=>(q1_.1 k_ hs_.symm).1.2)) (fun hn_=>(Kd.freshB (bQ ab) k_ hn_)),Or.elim hk_.1 (fun hs_=>Or.elim hs_ (fun hs_=>(q0_.1 k_ hs_.symm).2) (fun hs_=>(q1_.1 k_ hs_.symm).2)) (fun hn_=>(Kd.freshB (bQ ap) k_ hn_))⟩)) (below_size (bC HB)))
       clear q0_ q1_
       have q0_:=(Kd.R_types (Kd.R_types (Kd.R_apart' (Kd.R_apart' (Kd.R_apart' (Kd.R_apart' (Kd.R_apart' (Kd.R_apart' (Kd.R_apart' (Kd.R_apart' (ac.out) (Kd.R_typed aj.out) (by decide)) (Kd.R_typed ar.out) (by decide)) (Kd.R_typed aa.out) (by decide)) (Kd.R_typed ae.out) (by decide)) (Kd.R_typed au.out) (by decide)) (Kd.R_typed aD.out) (by decide)) (Kd.R_typed aW.out) (by decide)) (Kd.R_typed bp.out) (by decide)) ab.out (by decide)) ap.out (by decide))
       have q1_:=(Kd.R_types (Kd.R_types (Kd.R_apart' (Kd.R_apart' (Kd.R_apart' (Kd.R_apart' (Kd.R_apart' (Kd.R_apart' (Kd.R_apart' (Kd.R_apart' (ae.out) (Kd.R_typed aj.out) (by decide)) (Kd.R_typed ar.out) (by decide)) (Kd.R_typed aa.out) (by decide)) (Kd.R_typed ac.out) (by decide)) (Kd.R_typed au.out) (by decide)) (Kd.R_typed aC.out) (by decide)) (Kd.R_typed aW.out) (by decide)) (Kd.R_typed bp.out) (by decide)) ab.out (by decide)) ap.out (by decide))
       have cE:=aK (Kd.V_lower (Kd.V_mono (ok':=fun k_=>some k_≠(fW:Value).ownBlock∧some k_≠(.slice bY am.length b8:Value).ownBlock∧some k_≠(.slice cq aA.length ct:Value).ownBlock∧some k_≠(.slice az ah.length ay:Value).ownBlock∧some k_≠(.slice ba aN.length bb:Value).ownBlock∧some k_≠(.slice bc aU.length bf:Value).ownBlock∧some k_≠(.slice bg aV.length bh:Value).ownBlock∧some k_≠(et:Value).ownBlock∧some k_≠(.slice eI dy.length eJ:Value).ownBlock∧k_≠ao∧k_≠af) ho2 (fun k_ hk_=>⟨hk_.2,Or.elim hk_.1 (fun hs_=>Or.elim hs_ (fun hs_=>(q0_.1 k_ hs_.symm).1.1.1.1.1.1.1.1.1.2) (fun hs_=>(q1_.1 k_ hs_.symm).1.1.1.1.1.1.1.1.1.2)) (fun hn_=>(rF aj k_ hn_)),Or.elim hk_.1 (fun hs_=>Or.elim hs_ (fun hs_=>(q0_.1 k_ hs_.symm).1.1.1.1.1.1.1.1.2) (fun hs_=>(q1_.1 k_ hs_.symm).1.1.1.1.1.1.1.1.2)) (fun hn_=>(rF ar k_ hn_)),Or.elim hk_.1 (fun hs_=>Or.elim hs_ (fun hs_=>(q0_.1 k_ hs_.symm).1.1.1.1.1.1.1.2) (fun hs_=>(q1_.1 k_ hs_.symm).1.1.1.1.1.1.1.2)) (fun hn_=>(rF aa k_ hn_)),Or.elim hk_.1 (fun hs_=>Or.elim hs_ (fun hs_=>(q0_.1 k_ hs_.symm).1.1.1.1.1.2) (fun hs_=>(q1_.1 k_ hs_.symm).1.1.1.1.1.2)) (fun hn_=>(rF au k_ hn_)),Or.elim hk_.1 (fun hs_=>Or.elim hs_ (fun hs_=>(q0_.1 k_ hs_.symm).1.1.1.1.1.1.1.1.1.1) (fun hs_=>(q1_.1 k_ hs_.symm).1.1.1.1.2)) (fun hn_=>(rF aC k_ hn_)),Or.elim hk_.1 (fun hs_=>Or.elim hs_ (fun hs_=>(q0_.1 k_ hs_.symm).1.1.1.1.2) (fun hs_=>(q1_.1 k_ hs_.symm).1.1.1.1.1.1.1.1.1.1)) (fun hn_=>(rF aD k_ hn_)),Or.elim hk_.1 (fun hs_=>Or.elim hs_ (fun hs_=>(q0_.1 k_ hs_.symm).1.1.1.2) (fun hs_=>(q1_.1 k_ hs_.symm).1.1.1.2)) (fun hn_=>(rF aW k_ hn_)),Or.elim hk_.1 (fun hs_=>Or.elim hs_ (fun hs_=>(q0_.1 k_ hs_.symm).1.1.2) (fun hs_=>(q1_.1 k_ hs_.symm).1.1.2)) (fun hn_=>(rF bp k_ hn_)),Or.elim hk_.1 (fun hs_=>Or.elim hs_ (fun hs_=>(q0_.1 k_ hs_.symm).1.2) (fun hs_=>(q1_.1 k_ hs_.symm).1.2)) (fun hn_=>(Kd.freshB (bQ ab) k_ hn_)),Or.elim hk_.1 (fun hs_=>Or.elim hs_ (fun hs_=>(q0_.1 k_ hs_.symm).2) (fun hs_=>(q1_.1 k_ hs_.symm).2)) (fun hn_=>(Kd.freshB (bQ ap) k_ hn_))⟩)) (below_size (bC HB)))
       clear q0_ q1_
       replace aj:=rB aj hb
       replace ar:=rB ar hb
       replace aa:=rB aa hb
       replace ac:=rB ac hb
       replace ae:=rB ae hb
       replace au:=rE au (Kd.R_base ho0) hb
       replace aC:=rB aC hb
       replace aD:=rB aD hb
       replace aW:=rB aW hb
       replace bp:=rB bp hb
       replace bM:=vE bM (Kd.R_base ho0) hb
       replace bN:=vE bN (Kd.R_base ho0) hb
       replace ab:=bB ab hb
       replace ap:=bB ap hb
       replace HB:=bW HB hb
       (try clear hb)
       (try clear hb2)
       (try clear hk)
       (try clear hi)
       (try clear ho0)
       (try clear ho1)
       (try clear ho2)
       obtain⟨iF,iG,fX⟩:=Kd.R_slice cC.out
       (first|subst fX|(injection fX with f1_ f2_ f3_;have f4_:=f1_.symm;have f5_:=f3_.symm;clear f1_ f2_ f3_;subst f4_;subst f5_))
       obtain⟨iH,iI,fY⟩:=Kd.V_slice cD.out
       (first|subst fY|(injection fY with f1_ f2_ f3_;have f4_:=f1_.symm;have f5_:=f3_.symm;clear f1_ f2_ f3_;subst f4_;subst f5_))
       obtain⟨iJ,iK,fZ⟩:=Kd.V_slice cE.out
       (first|subst fZ|(injection fZ with f1_ f2_ f3_;have f4_:=f1_.symm;have f5_:=f3_.symm;clear f1_ f2_ f3_;subst f4_;subst f5_))
       refine hK.out _ _ (bn4 ap (bn4 ab ((by have T_:=Kd.x_R_string (P:=Try.prog) Try.underlying30 Try.underlying5 Try.underlying9 (ar.out);first|exact T_.1|exact T_.2 _|(simp only [World.drewN_drewN];exact T_.2 _))))) (fun hHeld=>?_)
       clear hK K
       refine norm_ (a':=?_) ?_ ?_
       rotate_left
       ·show Act.put _ (some 117) _=_
        simp only [Act.put,List.setIfInBounds_toArray,List.set_cons_zero,List.set_cons_succ,i64_w,i32_w]
        rfl
       refine oA 24 (some 119) HT_ (fun K hK=>?_)
       refine goes_ Try.func20 (by kernel_rfl) rfl #[.agg #[.bool em,.slice iF ep.length iG,.slice iH er.length iI,.slice iJ es.length iK],.string ax] (by rfl) rfl rfl (by (try simp only [List.map_toArray,List.map_cons,List.map_nil]);first|done|rfl|(simp only [List.length_drop,List.length_take];rfl)) ?_
       with_reducible refine (node_Kid.calls bq em _ _ ep _ _ er _ _ es ax bw _ ?side1 ?side2 ?side3 ?side4 ?side5 ?side6 A77.out).mono ?_
       (case side1=>exact sC (Kd.R_reads' cC.out).2.2)
       (case side2=>exact (Kd.R_reads' cC.out).2.1)
       (case side3=>exact sC (Kd.V_reads' cD.out).2.2)
       (case side4=>exact (Kd.V_reads' cD.out).2.1)
       (case side5=>exact sC (Kd.V_reads' cE.out).2.2)
       (case side6=>exact (Kd.V_reads' cE.out).2.1)
       rintro e jG ⟨rfl,hb⟩
       refine⟨_,rfl,?_⟩
       replace aj:=rB aj hb
       replace ar:=rB ar hb
       replace aa:=rB aa hb
       replace ac:=rB ac hb
       replace ae:=rB ae hb
       replace au:=rB au hb
       replace aC:=rB aC hb
       replace aD:=rB aD hb
       replace aW:=rB aW hb
       replace bp:=rB bp hb
       replace bM:=vB bM hb
       replace bN:=vB bN hb
       replace cC:=rB cC hb
       replace cD:=vB cD hb
       replace cE:=vB cE hb
       replace ab:=bB ab hb
       replace ap:=bB ap hb
       replace HB:=bW HB hb
       (try clear hb)
       (try clear hb2)
       (try clear hk)
       (try clear hi)
       refine hK.out _ _ (bn4 ap (bn4 ab ((by have T_:=Kd.x_R_string (P:=Try.prog) Try.underlying30 Try.underlying5 Try.underlying9 (ar.out);first|exact T_.1|exact T_.2 _|(simp only [World.drewN_drewN];exact T_.2 _))))) (fun hHeld=>?_)
       clear hK K
       refine norm_ (a':=?_) ?_ ?_
       rotate_left
       ·show Act.put _ (some 119) _=_
        simp only [Act.put,List.setIfInBounds_toArray,List.set_cons_zero,List.set_cons_succ,i64_w,i32_w]
        rfl
       refine pA 26 121 HT_ ?_
       refine pA 27 122 HT_ ?_
       refine pA 28 4 HT_ ?_
       refine done_ (done_of HT_.out (by kernel_rfl)) ?_
       try go_wp2
       go_ret
       exact xB HB
/-- THE ONE PURE STATEMENT of engrosslaw11_NodeAll. -/
def engrosslaw11_NodeAll.Pure:Prop:=∀ (x0:S26) (a1:ByteArray),wf26 x0→a1.size≤9223372036854775807→∃ k,engrosslaw11_NodeAll.f k x0.f0 x0.f1 x0.f2 x0.f3 a1=some true
end Go.Proofs.Ytmmjpieafbjggaa.P
end
section
set_option linter.unusedVariables false
set_option linter.unusedSimpArgs false
namespace Go.Proofs.Ytmmjpieafbjggaa.Pure
open Go.RowKit Go.Proofs.Ytmmjpieafbjggaa.P Go.Proofs.YtmmjpieafbjggaaW.PrintWords Go.Proofs.YtmmjpieafbjggaaW.PrintLast Go.Proofs.YtmmjpieafbjggaaW.PrintMore
theorem begun11 {k:Nat} (hk:100≤k):engrosslaw11_begun.f k=some true :=
  at_rounds (g:=fun k=>engrosslaw11_begun.f k) (fun k=>engrosslaw11_begun.mono k) hk (show engrosslaw11_begun.f 100=some true by decide +kernel)
end Go.Proofs.Ytmmjpieafbjggaa.Pure
end
