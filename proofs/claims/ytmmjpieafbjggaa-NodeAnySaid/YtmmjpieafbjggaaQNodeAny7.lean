/- The law NodeAny returns true for every input: the words, the walks and the plain statement that its row needs. No condition. (Merged by a program of this session out of its own texts.) -/
import Derived.ArgAppend
import Derived.Below
import Derived.BigQuiet
import Derived.Deep.AppendLies
import Derived.Deep.CutBlock
import Derived.Deep.DeepCutAuto
import Derived.Deep.Draws
import Derived.Deep.LoopGhost
import Derived.Deep.OwnRows
import Derived.Deep.QuietTactic
import Derived.Deep.RegionHeld3
import Derived.KernelRfl
import Derived.Laws.BitsLemmas
import Derived.Laws.BytesArg
import Derived.Laws.Cover2
import Derived.Laws.Externs
import Derived.Laws.FloatArith
import Derived.Laws.IdiomCopy
import Derived.Laws.MakeOwn
import Derived.Laws.OwnMore
import Derived.Laws.Rows
import Derived.Laws.Slices
import Derived.Laws.StructEq
import Derived.Lib.AppendStr
import Derived.Lib.ConvBytes
import Derived.Maps.AppendAt
import Derived.OrdersHeld
import Derived.OwnWalk
import Derived.RowKit
import Derived.RowKit3
import Derived.Tactics
import Derived.Test.YtmmjpieafbjggaaProg
import Derived.WalkKit
import Derived.WideLaws
import Derived.Test.YtmmjpieafbjggaaQNodeAny4
import Derived.Test.YtmmjpieafbjggaaQNodeAny6
section
namespace Go.Proofs.Ytmmjpieafbjggaa.P
open Go.RowKit Go.Proofs.YtmmjpieafbjggaaW.PrintWords Go.Proofs.YtmmjpieafbjggaaW.PrintLast Go.Proofs.YtmmjpieafbjggaaW.PrintMore
attribute [local go_sem] max2_int min2_int max_two min_two max_three min_three max_four min_four   -- for this text's walks alone
attribute [local go_sem] x_str_gtr x_str_leq x_str_geq ext_bits ext_frombits ext_neg x_store_float Instr.field asAgg
set_option linter.unusedVariables false
set_option linter.unusedSimpArgs false
mutual
def engrossref10_MayNode.l0:Nat→Int→Bool→List (S56)→List ByteArray→List Int→Option (Bool)
 | 0,_,_,_,_,_=>none
 | k+1,x3,x388000,x388001,x388002,x388003=>if x3<(x388001.length:Int) then (if 0≤x3 then ((engrossref10_May.f ((rd_T56 x388001 x3).f0) ((rd_T56 x388001 x3).f1.f0) ((rd_T56 x388001 x3).f1.f1) ((rd_T56 x388001 x3).f1.f2) ((rd_T56 x388001 x3).f2) ((rd_T56 x388001 x3).f3.f0) ((rd_T56 x388001 x3).f3.f1) ((rd_T56 x388001 x3).f3.f2)).bind fun t389=>(if t389=true then (if x3>0 then (if 0≤(wrap64 (x3 - 1)) then (if (wrap64 (x3 - 1))<(x388001.length:Int) then (if ((Op.bytesLess (((rd_T56 x388001 (wrap64 (x3 - 1))).f0).toList) (((rd_T56 x388001 x3).f0).toList))=true) then (engrossref10_MayNode.l0 k (wrap64 (x3+1)) x388000 x388001 x388002 x388003) else (some false)) else (none)) else (none)) else (engrossref10_MayNode.l0 k (wrap64 (x3+1)) x388000 x388001 x388002 x388003)) else (some false))) else (none)) else (if (x388002.length:Int)=0 then (some ((x388003.length:Int) == 0)) else (some false))
def engrossref10_MayNode.j1:Nat→Bool→Bool→List (S56)→List ByteArray→List Int→Option (Bool)
 | 0,_,_,_,_,_=>none
 | k+1,x77,x388000,x388001,x388002,x388003=>if x77=true then (some false) else (engrossref10_MayNode.l1 k 0 x388000 x388001 x388002 x388003)
def engrossref10_MayNode.l1:Nat→Int→Bool→List (S56)→List ByteArray→List Int→Option (Bool)
 | 0,_,_,_,_,_=>none
 | k+1,x4,x388000,x388001,x388002,x388003=>if x4<(x388003.length:Int) then (if 0≤x4 then (if (rd x388003 x4)<2 then (some false) else (if (rd x388003 x4)>31 then (some false) else (engrossref10_MayNode.l1 k (wrap64 (x4+1)) x388000 x388001 x388002 x388003))) else (none)) else (engrossref10_MayNode.l2 k 0 x388000 x388001 x388002 x388003)
def engrossref10_MayNode.l2:Nat→Int→Bool→List (S56)→List ByteArray→List Int→Option (Bool)
 | 0,_,_,_,_,_=>none
 | k+1,x5,x388000,x388001,x388002,x388003=>if x5<(x388002.length:Int) then (if 0≤x5 then ((engrossref1_MayKey.f (rdOf ByteArray.empty x388002 x5)).bind fun t395=>(if t395=true then (if x5>0 then (if 0≤(wrap64 (x5 - 1)) then (if (wrap64 (x5 - 1))<(x388002.length:Int) then (if ((Op.bytesLess ((rdOf ByteArray.empty x388002 (wrap64 (x5 - 1))).toList) ((rdOf ByteArray.empty x388002 x5).toList))=true) then (engrossref10_MayNode.l2 k (wrap64 (x5+1)) x388000 x388001 x388002 x388003) else (some false)) else (none)) else (none)) else (engrossref10_MayNode.l2 k (wrap64 (x5+1)) x388000 x388001 x388002 x388003)) else (some false))) else (none)) else (some true)
end
def engrossref10_MayNode.f (k:Nat) (a0_0:Bool) (l0_1:List (S56)) (l0_2:List ByteArray) (l0_3:List Int):Option (Bool):=if a0_0=true then (engrossref10_MayNode.l0 k 0 a0_0 l0_1 l0_2 l0_3) else (if (l0_1.length:Int)=0 then (if (l0_3.length:Int)<1 then (engrossref10_MayNode.j1 k true a0_0 l0_1 l0_2 l0_3) else (if (l0_3.length:Int)>32 then (engrossref10_MayNode.j1 k true a0_0 l0_1 l0_2 l0_3) else (engrossref10_MayNode.j1 k ((l0_2.length:Int) != (wrap64 ((l0_3.length:Int) - 1))) a0_0 l0_1 l0_2 l0_3))) else (engrossref10_MayNode.j1 k true a0_0 l0_1 l0_2 l0_3))
def engrossref10_MayNode.T5:Bool × List (List Nat × List Nat):=(true,[([],[]),([0],[0]),([],[]),([1,2],[1,2]),([3],[3]),([4],[4]),([5],[5]),([6,5],[6]),([7],[7]),([8,7],[7,8]),([9,7,7],[7,9]),([10],[10]),([11,10],[10,11]),([10],[10]),([12,13,10],[10,12,13]),([14,10],[10,14]),([15,10],[10,15]),([10],[10]),([17,10],[10,17]),([10],[10]),([19,10],[10,19]),([18,20,10],[10,18,20]),([21,10],[10,21]),([22,10],[10,22]),([16,23,10],[10,16,23]),([10,24,7],[7,10,24]),([7,25],[7,25])])
def engrossref10_MayNode.B5:List Nat:=[0,1,0,7,15,31,63,127,255,511,1023,2047,4095,2047,16383,32767,65535,2047,133119,2047,526335,1968127,4065279,8259583,16777215,33554431,67108863]
theorem engrossref10_MayNode.tab5:rtab .any (opsOf Try.f15 5)=engrossref10_MayNode.T5:=by kernel_rfl
theorem engrossref10_MayNode.bits5:waitsOk engrossref10_MayNode.T5.2 engrossref10_MayNode.B5=true:=by kernel_rfl
def engrossref10_MayNode.T18:Bool × List (List Nat × List Nat):=(true,[([],[]),([0],[0]),([],[]),([1,2],[1,2]),([3],[3]),([4],[4]),([5],[5]),([6,5],[6]),([7],[7]),([8,7],[7,8]),([9,7,7],[7,9]),([10],[10]),([11,10],[10,11]),([10],[10]),([12,13,10],[10,12,13]),([14,10],[10,14]),([10],[10]),([16,10],[10,16]),([10],[10]),([18,10],[10,18]),([17,19,10],[10,17,19]),([20,10],[10,20]),([15,21,10],[10,15,21]),([10,22,7],[7,10,22]),([7,23],[7,23])])
def engrossref10_MayNode.B18:List Nat:=[0,1,0,7,15,31,63,127,255,511,1023,2047,4095,2047,16383,32767,2047,67583,2047,264191,985087,2033663,4194303,8388607,16777215]
theorem engrossref10_MayNode.tab18:rtab .any (opsOf Try.f15 18)=engrossref10_MayNode.T18:=by kernel_rfl
theorem engrossref10_MayNode.bits18:waitsOk engrossref10_MayNode.T18.2 engrossref10_MayNode.B18=true:=by kernel_rfl
set_option maxHeartbeats 8000000 in
set_option maxRecDepth 100000 in
theorem engrossref10_MayNode.calls (k:Nat) (cm:Bool) (br:Option Addr) (bl:Nat) (ab:List (S56)) (bs:Option Addr) (bm:Nat) (af:List ByteArray) (bn:Option Addr) (bo:Nat) (ag:List Int) (r:Bool) (w:World) (ez:Kd.C k56 w br ab.length ab) (eA:ab.length≤bl) (eB:Kd.C Kd.string w bs af.length af) (eC:af.length≤bm) (eD:Kd.C (Kd.int .i64) w bn ag.length ag) (eE:ag.length≤bo) (h:engrossref10_MayNode.f k cm ab af ag=some r) :
  Calls Try.prog 15 #[.agg #[.bool cm,.slice br ab.length bl,.slice bs af.length bm,.slice bn ag.length bo]] w fun e w'=>e = .returned (.bool r)∧Below w.heap.size w w':=by
 have hu26:=Try.underlying26
 have hu56:=Try.underlying56
 have bx:=aK ez
 have gQ:=aK eA
 clear ez eA
 have bA:=aK eB
 have gR:=aK eC
 clear eB eC
 have cB:=aK eD
 have gS:=aK eE
 clear eD eE
 have HB:=aK (Below.refl w.heap.size w)
 have H:(if cm=true then (engrossref10_MayNode.l0 k 0 cm ab af ag) else (if (ab.length:Int)=0 then (if (ag.length:Int)<1 then (engrossref10_MayNode.j1 k true cm ab af ag) else (if (ag.length:Int)>32 then (engrossref10_MayNode.j1 k true cm ab af ag) else (engrossref10_MayNode.j1 k ((af.length:Int) != (wrap64 ((ag.length:Int) - 1))) cm ab af ag))) else (engrossref10_MayNode.j1 k true cm ab af ag)))=some r:=h
 clear h
 by_cases c2:cm=true
 rotate_left
 ·replace c2:=Bool.eq_false_iff.mpr c2
  subst c2
  have H1:(if (ab.length:Int)=0 then (if (ag.length:Int)<1 then (engrossref10_MayNode.j1 k true false ab af ag) else (if (ag.length:Int)>32 then (engrossref10_MayNode.j1 k true false ab af ag) else (engrossref10_MayNode.j1 k ((af.length:Int) != (wrap64 ((ag.length:Int) - 1))) false ab af ag))) else (engrossref10_MayNode.j1 k true false ab af ag))=some r:=by rw [if_neg (show ¬ (false=true) by decide)] at H;exact H
  clear H
  have H:=H1
  clear H1
  have ex:=aK H
  clear H
  go_enter Try.func15,Try.ntmps15
  go_upto_region 8 with (first|((with_reducible refine gate_dst (N:=1) rfl ?_);(try (refine gate_guard (by rfl) ?_;dsimp only));refine box_event ?hg (N:=1) ?hd (cs:=#[.bool false,.slice br ab.length bl,.slice bs af.length bm,.slice bn ag.length bo]) (t:=26) ?hr ?_;(case hd=>rfl);(case hg=>rfl);(case hr=>first|(go_simp;done)|(go_simp;rfl));intro ai hg w30 hbox hb;have ae:=aK (hbox);have fF:=bZ HB hg;have ej:=bZ HB hg;replace HB:=bW HB hb;clear hb hbox hg;obtain⟨cD,cE,cF,cG,cH,cI,cJ,cK⟩:=bf4 (w:=w30) ae))
  (try simp only [Act.put,List.setIfInBounds_toArray,List.set_cons_zero,List.set_cons_succ])
  go_cut [77] (fun v77 wc=>∃ (kq:Nat) (cC:Bool),v77 = .bool cC∧Aside0 (engrossref10_MayNode.j1 kq cC false ab af ag=some r)∧Aside0 (kq≤k)∧Aside0 (wc.heap[ai]? = some (.cells #[.bool false,(.slice br ab.length bl),(.slice bs af.length bm),(.slice bn ag.length bo)] 26 (0,0)))∧Aside0 (Below w.heap.size w wc))
  case first =>
   have H:=ex.out
   clear ex
   by_cases c32:(ab.length:Int)=0
   rotate_left
   ·rw [if_neg c32] at H
    have bD:((ab.length:Int) == 0)=false:=beq_eq_false_iff_ne.mpr c32
    have d6:((ab.length:Int) != 0)=true:=bne_iff_ne.mpr c32
    have ek:¬ (ab = []):=fun h_=>c32 (by rw [h_];rfl)
    (first|rw [bD]|(simp only [i64_w,i32_w];rw [bD])|skip)
    have H':=aK H
    clear H
    obtain⟨cL,cM,cN,cO,cP,cQ,cR,cS⟩:=bf4 (w:=w30) ae
    go_wp2
    go_meet
    case rel=>exact⟨_,(true),(by first|rfl|(simp;done)|(simp [*];done)),H',⟨by first|omega|exact Nat.le_refl _⟩,bK ae,bV HB⟩
   rw [if_pos c32] at H
   have bD:((ab.length:Int) == 0)=true:=beq_iff_eq.mpr c32
   have d6:((ab.length:Int) != 0)=false:=bne_eq_false_iff_eq.mpr c32
   clear c32
   (first|rw [bD]|(simp only [i64_w,i32_w];rw [bD])|skip)
   by_cases c33:(ag.length:Int)<1
   ·rw [if_pos c33] at H
    have d7:decide ((ag.length:Int)<1)=true:=decide_eq_true c33
    have d8:decide (ag.length<1)=true:=decide_eq_true (by omega)
    clear c33
    have H':=aK H
    clear H
    obtain⟨cT,cU,cV,cX,cY,cZ,da,db⟩:=bf4 (w:=w30) ae
    go_wp2
    go_meet
    case rel=>exact⟨_,(true),(by first|rfl|(simp;done)|(simp [*];done)),H',⟨by first|omega|exact Nat.le_refl _⟩,bK ae,bV HB⟩
   rw [if_neg c33] at H
   have d7:decide ((ag.length:Int)<1)=false:=decide_eq_false c33
   have d8:decide (ag.length<1)=false:=decide_eq_false (by omega)
   clear c33
   by_cases c35:(ag.length:Int)>32
   ·rw [if_pos c35] at H
    have d9:decide (32<(ag.length:Int))=true:=decide_eq_true c35
    have ed:decide (32<ag.length)=true:=decide_eq_true (by omega)
    clear c35
    have H':=aK H
    clear H
    obtain⟨dc,dd,de,df,dg,dh,di,dj⟩:=bf4 (w:=w30) ae
    go_wp2
    go_meet
    case rel=>exact⟨_,(true),(by first|rfl|(simp;done)|(simp [*];done)),H',⟨by first|omega|exact Nat.le_refl _⟩,bK ae,bV HB⟩
   rw [if_neg c35] at H
   have d9:decide (32<(ag.length:Int))=false:=decide_eq_false c35
   have ed:decide (32<ag.length)=false:=decide_eq_false (by omega)
   clear c35
   have H':=aK H
   clear H
   obtain⟨dk,dl,dm,dn,dp,dq,dr,dt⟩:=bf4 (w:=w30) ae
   go_wp2
   go_meet
   case rel=>exact⟨_,(((af.length:Int) != (wrap64 ((ag.length:Int) - 1)))),(by first|rfl|(simp;done)|(simp [*];done)),H',⟨by first|omega|exact Nat.le_refl _⟩,bK ae,bV HB⟩
  case rest =>
   clear ex
   try clear c1
   try clear c2
   try clear p2
   try clear c3
   try clear p3
   try clear q3
   try clear hx3
   try clear c5
   try clear el
   try clear c6
   try clear p6
   try clear c8
   try clear c9
   try clear em
   try clear c11
   try clear c12
   try clear c15
   try clear c26
   try clear eg
   try clear eh
   try clear ep
   try clear c31
   try clear c32
   try clear bD
   try clear d6
   try clear ek
   try clear c33
   try clear d7
   try clear d8
   try clear c35
   try clear d9
   try clear ed
   try clear p38
   try clear q38
   try clear fp
   try clear du dv dw dx
   try clear dy dz dB dC
   try clear dD dE dF dG
   try clear dH dI dJ dK
   try clear cD cE cF cG
   try clear cT cU cV cX
   try clear dc dd de df
   try clear dk dl dm dn
   try clear cL cM cN cO
   try clear dL dM dN dO
   try clear dP dQ dR dS
   try clear dT dU dV dW
   try clear dX dY dZ d4
   try clear cH cI cJ cK
   try clear cY cZ da db
   try clear dg dh di dj
   try clear dp dq dr dt
   try clear cP cQ cR cS
   try clear aj
   try clear ak
   try clear al
   try clear am
   try clear ao
   try clear ap
   try clear aq
   try clear ar
   try clear aI
   try clear aJ
   obtain⟨kq,cC,rfl,HA,d5,ae,HB⟩:=hcut
   cases kq with
   | zero=>exact absurd HA.out (by simp [engrossref10_MayNode.j1])
   | succ ey =>
    have H:=HA.out
    clear HA
    simp only [engrossref10_MayNode.j1] at H
    by_cases c39:cC=true
    ·subst c39
     have H1:(some false)=some r:=by rw [if_pos rfl] at H;exact H
     clear H
     have H:=H1
     clear H1
     obtain rfl:=Option.some.inj H
     go_wp2
     go_ret
     exact xB HB
    replace c39:=Bool.eq_false_iff.mpr c39
    subst c39
    have H1:(engrossref10_MayNode.l1 ey 0 false ab af ag)=some r:=by rw [if_neg (show ¬ (false=true) by decide)] at H;exact H
    clear H
    have H:=H1
    clear H1
    have H':=aK H
    clear H
    go_wp2
    go_loopg [4] ey (fun kq v4 w'=>∃ (av:Int),v4 = .int .i64 av∧Aside0 (engrossref10_MayNode.l1 kq av false ab af ag=some r)∧Aside0 (kq≤ey)∧Aside0 (w'.heap[ai]? = some (.cells #[.bool false,(.slice br ab.length bl),(.slice bs af.length bm),(.slice bn ag.length bo)] 26 (0,0)))∧Aside0 (Below w.heap.size w w'))
    case atStart=>exact⟨(0),(by first|rfl|(simp;done)|(simp [*];done)),H',⟨Nat.le_refl _⟩,bK ae,bV HB⟩
    case round =>
     clear H'
     try clear c1
     try clear c2
     try clear p2
     try clear c3
     try clear p3
     try clear q3
     try clear hx3
     try clear c5
     try clear el
     try clear c6
     try clear p6
     try clear c8
     try clear c9
     try clear em
     try clear c11
     try clear c12
     try clear c15
     try clear c26
     try clear eg
     try clear eh
     try clear ep
     try clear c31
     try clear c32
     try clear bD
     try clear d6
     try clear ek
     try clear c33
     try clear d7
     try clear d8
     try clear c35
     try clear d9
     try clear ed
     try clear p38
     try clear q38
     try clear fp
     try clear c39
     try clear du dv dw dx
     try clear dy dz dB dC
     try clear dD dE dF dG
     try clear dH dI dJ dK
     try clear cD cE cF cG
     try clear cT cU cV cX
     try clear dc dd de df
     try clear dk dl dm dn
     try clear cL cM cN cO
     try clear dL dM dN dO
     try clear dP dQ dR dS
     try clear dT dU dV dW
     try clear dX dY dZ d4
     try clear cH cI cJ cK
     try clear cY cZ da db
     try clear dg dh di dj
     try clear dp dq dr dt
     try clear cP cQ cR cS
     try clear aj
     try clear ak
     try clear al
     try clear am
     try clear ao
     try clear ap
     try clear aq
     try clear ar
     try clear p2
     try clear p3
     try clear p38
     try clear aI
     try clear p6
     try clear q3
     try clear q38
     try clear aJ
     obtain⟨av,rfl,HA,HK2,ae,HB⟩:=hrel
     cases gk with
     | zero=>exact absurd HA.out (by simp [engrossref10_MayNode.l1])
     | succ k2 =>
      have H:=HA.out
      clear HA
      simp only [engrossref10_MayNode.l1] at H
      by_cases c40:av<(ag.length:Int)
      ·rw [if_pos c40] at H
       have eF:decide (av<(ag.length:Int))=true:=decide_eq_true c40
       clear c40
       by_cases c41:0≤av
       rotate_left
       ·rw [if_neg c41] at H
        exact absurd H (by simp)
       rw [if_pos c41] at H
       have fG:decide (0≤av)=true:=decide_eq_true c41
       clear c41
       by_cases c42:(rd ag av)<2
       ·rw [if_pos c42] at H
        have eG:decide ((rd ag av)<2)=true:=decide_eq_true c42
        clear c42
        obtain rfl:=Option.some.inj H
        obtain⟨eI,eJ,eK,eL,eM,eN,eO,eP⟩:=bf4 (w:=wr) ae
        have bu:0≤(av:Int):=dA
        have bv:av<(ag.length:Int):=dA
        obtain⟨ei,e392,aM⟩:=Kd.at_int cB.out av bu bv
        cases e392
        replace aM:=cW HB aM
        replace bu:=eq_true bu
        replace bv:=eq_true bv
        go_wp2
        go_ret
        exact xB HB
       rw [if_neg c42] at H
       have eG:decide ((rd ag av)<2)=false:=decide_eq_false c42
       clear c42
       by_cases c44:(rd ag av)>31
       ·rw [if_pos c44] at H
        have eH:decide (31<(rd ag av))=true:=decide_eq_true c44
        clear c44
        obtain rfl:=Option.some.inj H
        obtain⟨eQ,eR,eS,eT,eU,eV,eW,eX⟩:=bf4 (w:=wr) ae
        have bu:0≤(av:Int):=dA
        have bv:av<(ag.length:Int):=dA
        obtain⟨ei,e392,aM⟩:=Kd.at_int cB.out av bu bv
        cases e392
        replace aM:=cW HB aM
        replace bu:=eq_true bu
        replace bv:=eq_true bv
        have cn:0≤(av:Int):=dA
        have cp:av<(ag.length:Int):=dA
        obtain⟨er,e393,bw⟩:=Kd.at_int cB.out av cn cp
        obtain rfl:ei=er:=(by injection e393)
        replace bw:=cW HB bw
        replace cn:=eq_true cn
        replace cp:=eq_true cp
        go_wp2
        go_ret
        exact xB HB
       rw [if_neg c44] at H
       have eH:decide (31<(rd ag av))=false:=decide_eq_false c44
       clear c44
       have H':=aK H
       clear H
       obtain⟨eY,eZ,e8,e9,fa,fb,fd,fe⟩:=bf4 (w:=wr) ae
       have bu:0≤(av:Int):=dA
       have bv:av<(ag.length:Int):=dA
       obtain⟨ei,e392,aM⟩:=Kd.at_int cB.out av bu bv
       cases e392
       replace aM:=cW HB aM
       replace bu:=eq_true bu
       replace bv:=eq_true bv
       have cn:0≤(av:Int):=dA
       have cp:av<(ag.length:Int):=dA
       obtain⟨er,e393,bw⟩:=Kd.at_int cB.out av cn cp
       obtain rfl:ei=er:=(by injection e393)
       replace bw:=cW HB bw
       replace cn:=eq_true cn
       replace cp:=eq_true cp
       go_wp2
       go_roundg k2
       case measure=>have:=d5.out;have:=HK2.out;omega
       case rel=>exact⟨(wrap64 (av+1)),(by first|rfl|(simp;done)|(simp [*];done)),H',⟨by have:=d5.out;have:=HK2.out;omega⟩,bK ae,bV HB⟩
      rw [if_neg c40] at H
      have eF:decide (av<(ag.length:Int))=false:=decide_eq_false c40
      clear c40
      have H':=aK H
      clear H
      obtain⟨ff,fg,fh,fi,fj,fk,fl,fm⟩:=bf4 (w:=wr) ae
      go_wp2
      go_loopg [5] k2 (fun kq v5 w'=>∃ (ah:Int),v5 = .int .i64 ah∧Aside0 (engrossref10_MayNode.l2 kq ah false ab af ag=some r)∧Aside0 (kq≤k2)∧Aside0 (w'.heap[ai]? = some (.cells #[.bool false,(.slice br ab.length bl),(.slice bs af.length bm),(.slice bn ag.length bo)] 26 (0,0)))∧Aside0 (Below w.heap.size w w'))
      case atStart=>exact⟨(0),(by first|rfl|(simp;done)|(simp [*];done)),H',⟨Nat.le_refl _⟩,bK ae,bV HB⟩
      case round =>
       clear H'
       try clear c1
       try clear c2
       try clear p2
       try clear c3
       try clear p3
       try clear q3
       try clear hx3
       try clear c4
       try clear c5
       try clear el
       try clear c6
       try clear p6
       try clear c8
       try clear c9
       try clear em
       try clear c11
       try clear c12
       try clear c15
       try clear c26
       try clear eg
       try clear eh
       try clear ep
       try clear c31
       try clear c32
       try clear bD
       try clear d6
       try clear ek
       try clear c33
       try clear d7
       try clear d8
       try clear c35
       try clear d9
       try clear ed
       try clear p38
       try clear q38
       try clear fp
       try clear c39
       try clear p39
       try clear q39
       try clear gY
       try clear c40
       try clear eF
       try clear c41
       try clear fG
       try clear c42
       try clear eG
       try clear c44
       try clear eH
       try clear du dv dw dx
       try clear dy dz dB dC
       try clear dD dE dF dG
       try clear dH dI dJ dK
       try clear cD cE cF cG
       try clear cT cU cV cX
       try clear dc dd de df
       try clear dk dl dm dn
       try clear cL cM cN cO
       try clear eI eJ eK eL
       try clear eQ eR eS eT
       try clear eY eZ e8 e9
       try clear ff fg fh fi
       try clear dL dM dN dO
       try clear dP dQ dR dS
       try clear dT dU dV dW
       try clear dX dY dZ d4
       try clear cH cI cJ cK
       try clear cY cZ da db
       try clear dg dh di dj
       try clear dp dq dr dt
       try clear cP cQ cR cS
       try clear eM eN eO eP
       try clear eU eV eW eX
       try clear fa fb fd fe
       try clear fj fk fl fm
       try clear aj
       try clear ak
       try clear al
       try clear am
       try clear ao
       try clear ap
       try clear aq
       try clear ar
       try clear aM
       try clear bw
       try clear p2
       try clear p3
       try clear p38
       try clear aI
       try clear bu
       try clear cn
       try clear p6
       try clear q3
       try clear q38
       try clear aJ
       try clear bv
       try clear cp
       obtain⟨ah,rfl,HA,HK3,ae,HB⟩:=hrel
       cases gk with
       | zero=>exact absurd HA.out (by simp [engrossref10_MayNode.l2])
       | succ k3 =>
        have H:=HA.out
        clear HA
        simp only [engrossref10_MayNode.l2] at H
        by_cases c48:ah<(af.length:Int)
        rotate_left
        ·rw [if_neg c48] at H
         have fH:decide (ah<(af.length:Int))=false:=decide_eq_false c48
         clear c48
         obtain rfl:=Option.some.inj H
         obtain⟨fL,fM,fN,fO,fP,fQ,fR,fS⟩:=bf4 (w:=wr) ae
         go_wp2
         go_ret
         exact xB HB
        rw [if_pos c48] at H
        have fH:decide (ah<(af.length:Int))=true:=decide_eq_true c48
        clear c48
        by_cases c49:0≤ah
        rotate_left
        ·rw [if_neg c49] at H
         exact absurd H (by simp)
        rw [if_pos c49] at H
        have gT:decide (0≤ah)=true:=decide_eq_true c49
        clear c49
        replace H:=oS H
        obtain⟨fq,ft,H⟩:=H
        replace H:(if fq=true then (if ah>0 then (if 0≤(wrap64 (ah - 1)) then (if (wrap64 (ah - 1))<(af.length:Int) then (if ((Op.bytesLess ((rdOf ByteArray.empty af (wrap64 (ah - 1))).toList) ((rdOf ByteArray.empty af ah).toList))=true) then (engrossref10_MayNode.l2 k3 (wrap64 (ah+1)) false ab af ag) else (some false)) else (none)) else (none)) else (engrossref10_MayNode.l2 k3 (wrap64 (ah+1)) false ab af ag)) else (some false))=some r:=H
        have A50:=aK ft
        clear ft
        by_cases c51:fq=true
        rotate_left
        ·replace c51:=Bool.eq_false_iff.mpr c51
         subst c51
         have H1:(some false)=some r:=by rw [if_neg (show ¬ (false=true) by decide)] at H;exact H
         clear H
         have H:=H1
         clear H1
         obtain rfl:=Option.some.inj H
         obtain⟨fT,fU,fV,fW,fX,fY,fZ,f5⟩:=bf4 (w:=wr) ae
         try go_wp2
         replace ae:=aK (blk_drew ae.out)
         replace HB:=aK (below_drew1 HB.out)
         have bp:0≤(ah:Int):=dA
         have bq:ah<(af.length:Int):=dA
         obtain⟨aw,e394,au⟩:=Kd.at_string bA.out ah bp bq
         have ax:=au
         cases e394
         replace au:=cW HB au
         replace bp:=eq_true bp
         replace bq:=eq_true bq
         refine start_ (n:=25) (S:=fun w'=>w'.cell? ⟨ai,0,none⟩=some (.bool false)∧w'.cell? ⟨ai,1,none⟩=some (.slice br ab.length bl)∧w'.cell? ⟨ai,2,none⟩=some (.slice (some aw) af.length bm)∧w'.cell? ⟨ai,3,none⟩=some (.slice bn ag.length bo)∧w'.cell? (aw.add (ah).toNat)=some (.string (rdOf ByteArray.empty af ah))) (ds:=[]) #[false,false,false,false,false,false,false,false,false,false,false,false,false,false,false,false,false,false,false,false,false,false,false,false,false] (by kernel_rfl) rfl rfl (bn4 ae ((cW HB ax))) (fun hHeld=>?_);refine with_tabW engrossref10_MayNode.tab18 engrossref10_MayNode.bits18 (fun HT_ HW_=>?_)
         generalize wr.drew=w64 at ae HB au hHeld ⊢
         refine pA 0 106 HT_ ?_
         refine pA 2 108 HT_ ?_
         refine tA 1 107 HT_ HW_ hHeld ?_ (hy:=by rintro w' ⟨s0,s1,s2,s3,s4⟩;go_simp;with_reducible rfl)
         refine pA 3 109 HT_ ?_
         refine tA 4 110 HT_ HW_ hHeld ?_ (hy:=by rintro w' ⟨s0,s1,s2,s3,s4⟩;go_simp;with_reducible rfl)
         refine oA 5 (some 111) HT_ (fun K hK=>?_)
         refine goes_ Try.func32 (by kernel_rfl) rfl #[.string (rdOf ByteArray.empty af ah)] (by rfl) rfl rfl (by (try simp only [List.map_toArray,List.map_cons,List.map_nil]);first|done|rfl|(simp only [List.length_drop,List.length_take];rfl)) ?_
         with_reducible refine (engrossref1_MayKey.calls (rdOf ByteArray.empty af ah) false _ A50.out).mono ?_
         rintro e w' ⟨rfl,⟨nd,rfl⟩⟩
         refine⟨_,rfl,?_⟩
         refine hK.out _ _ (bn4 ae ((cW HB ax))) (fun hHeld=>?_)
         clear hK K
         refine norm_ (a':=?_) ?_ ?_
         rotate_left
         ·show Act.put _ (some 111) _=_
          simp only [Act.put,List.setIfInBounds_toArray,List.set_cons_zero,List.set_cons_succ,i64_w,i32_w]
          rfl
         refine pA 6 112 HT_ ?_
         refine pA 7 113 HT_ ?_
         refine pU 8 114 HT_ ?_
         refine pU 9 115 HT_ ?_
         refine pU 10 116 HT_ ?_
         refine pU 11 117 HT_ ?_
         refine pU 12 118 HT_ ?_
         refine pU 13 119 HT_ ?_
         refine pU 14 120 HT_ ?_
         refine pU 15 121 HT_ ?_
         refine pU 16 122 HT_ ?_
         refine pU 17 123 HT_ ?_
         refine pU 18 124 HT_ ?_
         refine pU 19 125 HT_ ?_
         refine pU 20 126 HT_ ?_
         refine pU 21 127 HT_ ?_
         refine pU 22 128 HT_ ?_
         refine pU 23 129 HT_ ?_
         refine pA 24 130 HT_ ?_
         refine done_ (done_of HT_.out (by kernel_rfl)) ?_
         try go_wp2
         go_ret
         exact xB HB
        subst c51
        have H1:(if ah>0 then (if 0≤(wrap64 (ah - 1)) then (if (wrap64 (ah - 1))<(af.length:Int) then (if ((Op.bytesLess ((rdOf ByteArray.empty af (wrap64 (ah - 1))).toList) ((rdOf ByteArray.empty af ah).toList))=true) then (engrossref10_MayNode.l2 k3 (wrap64 (ah+1)) false ab af ag) else (some false)) else (none)) else (none)) else (engrossref10_MayNode.l2 k3 (wrap64 (ah+1)) false ab af ag))=some r:=by rw [if_pos rfl] at H;exact H
        clear H
        have H:=H1
        clear H1
        by_cases c52:ah>0
        rotate_left
        ·rw [if_neg c52] at H
         have fI:decide (0<ah)=false:=decide_eq_false c52
         clear c52
         have H':=aK H
         clear H
         obtain⟨f6,f7,f8,f9,ga,gb,gc,gf⟩:=bf4 (w:=wr) ae
         try go_wp2
         replace ae:=aK (blk_drew ae.out)
         replace HB:=aK (below_drew1 HB.out)
         have bp:0≤(ah:Int):=dA
         have bq:ah<(af.length:Int):=dA
         obtain⟨aw,e394,au⟩:=Kd.at_string bA.out ah bp bq
         have ax:=au
         cases e394
         replace au:=cW HB au
         replace bp:=eq_true bp
         replace bq:=eq_true bq
         refine start_ (n:=25) (S:=fun w'=>w'.cell? ⟨ai,0,none⟩=some (.bool false)∧w'.cell? ⟨ai,1,none⟩=some (.slice br ab.length bl)∧w'.cell? ⟨ai,2,none⟩=some (.slice (some aw) af.length bm)∧w'.cell? ⟨ai,3,none⟩=some (.slice bn ag.length bo)∧w'.cell? (aw.add (ah).toNat)=some (.string (rdOf ByteArray.empty af ah))) (ds:=[]) #[false,false,false,false,false,false,false,false,false,false,false,false,false,false,false,false,false,false,false,false,false,false,false,false,false] (by kernel_rfl) rfl rfl (bn4 ae ((cW HB ax))) (fun hHeld=>?_);refine with_tabW engrossref10_MayNode.tab18 engrossref10_MayNode.bits18 (fun HT_ HW_=>?_)
         generalize wr.drew=w62 at ae HB au hHeld ⊢
         refine pA 0 106 HT_ ?_
         refine pA 2 108 HT_ ?_
         refine tA 1 107 HT_ HW_ hHeld ?_ (hy:=by rintro w' ⟨s0,s1,s2,s3,s4⟩;go_simp;with_reducible rfl)
         refine pA 3 109 HT_ ?_
         refine tA 4 110 HT_ HW_ hHeld ?_ (hy:=by rintro w' ⟨s0,s1,s2,s3,s4⟩;go_simp;with_reducible rfl)
         refine oA 5 (some 111) HT_ (fun K hK=>?_)
         refine goes_ Try.func32 (by kernel_rfl) rfl #[.string (rdOf ByteArray.empty af ah)] (by rfl) rfl rfl (by (try simp only [List.map_toArray,List.map_cons,List.map_nil]);first|done|rfl|(simp only [List.length_drop,List.length_take];rfl)) ?_
         with_reducible refine (engrossref1_MayKey.calls (rdOf ByteArray.empty af ah) true _ A50.out).mono ?_
         rintro e w' ⟨rfl,⟨nd,rfl⟩⟩
         refine⟨_,rfl,?_⟩
         refine hK.out _ _ (bn4 ae ((cW HB ax))) (fun hHeld=>?_)
         clear hK K
         refine norm_ (a':=?_) ?_ ?_
         rotate_left
         ·show Act.put _ (some 111) _=_
          simp only [Act.put,List.setIfInBounds_toArray,List.set_cons_zero,List.set_cons_succ,i64_w,i32_w]
          rfl
         refine pA 6 112 HT_ ?_
         refine pA 7 113 HT_ ?_
         refine pA 8 114 HT_ ?_
         refine pA 9 115 HT_ ?_
         refine pA 10 116 HT_ ?_
         refine pU 11 117 HT_ ?_
         refine pU 12 118 HT_ ?_
         refine pU 13 119 HT_ ?_
         refine pU 14 120 HT_ ?_
         refine pU 15 121 HT_ ?_
         refine pU 16 122 HT_ ?_
         refine pU 17 123 HT_ ?_
         refine pU 18 124 HT_ ?_
         refine pU 19 125 HT_ ?_
         refine pU 20 126 HT_ ?_
         refine pU 21 127 HT_ ?_
         refine pU 22 128 HT_ ?_
         refine pA 23 129 HT_ ?_
         refine pA 24 130 HT_ ?_
         refine done_ (done_of HT_.out (by kernel_rfl)) ?_
         try go_wp2
         go_roundg k3
         case measure=>have:=d5.out;have:=HK2.out;have:=HK3.out;omega
         case rel=>exact⟨(wrap64 (ah+1)),(by first|rfl|(simp;done)|(simp [*];done)),H',⟨by have:=d5.out;have:=HK2.out;have:=HK3.out;omega⟩,bK ae,bV HB⟩
        rw [if_pos c52] at H
        have fI:decide (0<ah)=true:=decide_eq_true c52
        clear c52
        obtain⟨ji53,hji53⟩:∃ j_:Int,(wrap64 (ah - 1))=j_:=⟨_,rfl⟩
        replace H:(if 0≤(ji53) then (if (ji53)<(af.length:Int) then (if ((Op.bytesLess ((rdOf ByteArray.empty af (ji53)).toList) ((rdOf ByteArray.empty af ah).toList))=true) then (engrossref10_MayNode.l2 k3 (wrap64 (ah+1)) false ab af ag) else (some false)) else (none)) else (none))=some r:=by first|(rw [hji53] at H;exact H)|(simp only [hji53] at H ⊢;exact H)
        (try rw [hji53] at A50)
        have hji53w:(IntKind.i64.wrap (ah - 1))=ji53:=(i64_w _).trans hji53
        by_cases c54:0≤(ji53)
        rotate_left
        ·rw [if_neg c54] at H
         exact absurd H (by simp)
        rw [if_pos c54] at H
        have gU:decide (0≤(ji53))=true:=decide_eq_true c54
        clear c54
        by_cases c55:(ji53)<(af.length:Int)
        rotate_left
        ·rw [if_neg c55] at H
         exact absurd H (by simp)
        rw [if_pos c55] at H
        have gV:decide ((ji53)<(af.length:Int))=true:=decide_eq_true c55
        clear c55
        by_cases c56:((Op.bytesLess ((rdOf ByteArray.empty af (ji53)).toList) ((rdOf ByteArray.empty af ah).toList))=true)
        ·rw [if_pos c56] at H
         have fJ:(Op.bytesLess ((rdOf ByteArray.empty af (ji53)).toList) ((rdOf ByteArray.empty af ah).toList))=true:=c56
         clear c56
         have H':=aK H
         clear H
         obtain⟨gg,gh,gi,gj,gl,gm,gn,go⟩:=bf4 (w:=wr) ae
         try go_wp2
         replace ae:=aK (blk_drew ae.out)
         replace HB:=aK (below_drew1 HB.out)
         have bp:0≤(ah:Int):=dA
         have bq:ah<(af.length:Int):=dA
         obtain⟨aw,e394,au⟩:=Kd.at_string bA.out ah bp bq
         have ax:=au
         cases e394
         replace au:=cW HB au
         replace bp:=eq_true bp
         replace bq:=eq_true bq
         have cq:0≤(ah:Int):=dA
         have ct:ah<(af.length:Int):=dA
         obtain⟨es,e396,aN⟩:=Kd.at_string bA.out ah cq ct
         have bF:=aN
         obtain rfl:aw=es:=(by injection e396)
         replace aN:=cW HB aN
         replace cq:=eq_true cq
         replace ct:=eq_true ct
         have cu:0≤((ji53):Int):=dA
         have cv:(ji53)<(af.length:Int):=dA
         obtain⟨et,e397,aQ⟩:=Kd.at_string bA.out (ji53) cu cv
         have bI:=aQ
         obtain rfl:aw=et:=(by injection e397)
         replace aQ:=cW HB aQ
         replace cu:=eq_true cu
         replace cv:=eq_true cv
         refine start_ (n:=25) (S:=fun w'=>w'.cell? ⟨ai,0,none⟩=some (.bool false)∧w'.cell? ⟨ai,1,none⟩=some (.slice br ab.length bl)∧w'.cell? ⟨ai,2,none⟩=some (.slice (some aw) af.length bm)∧w'.cell? ⟨ai,3,none⟩=some (.slice bn ag.length bo)∧w'.cell? (aw.add (ah).toNat)=some (.string (rdOf ByteArray.empty af ah))∧w'.cell? (aw.add (ah).toNat)=some (.string (rdOf ByteArray.empty af ah))∧w'.cell? (aw.add ((ji53)).toNat)=some (.string (rdOf ByteArray.empty af (ji53)))) (ds:=[]) #[false,false,false,false,false,false,false,false,false,false,false,false,false,false,false,false,false,false,false,false,false,false,false,false,false] (by kernel_rfl) rfl rfl (bn4 ae ⟨(cW HB ax),(cW HB bF),(cW HB bI)⟩) (fun hHeld=>?_);refine with_tabW engrossref10_MayNode.tab18 engrossref10_MayNode.bits18 (fun HT_ HW_=>?_)
         generalize wr.drew=w58 at ae HB au aN aQ hHeld ⊢
         refine pA 0 106 HT_ ?_
         refine pA 2 108 HT_ ?_
         refine tA 1 107 HT_ HW_ hHeld ?_ (hy:=by rintro w' ⟨s0,s1,s2,s3,s4,s5,s6⟩;go_simp;with_reducible rfl)
         refine pA 3 109 HT_ ?_
         refine tA 4 110 HT_ HW_ hHeld ?_ (hy:=by rintro w' ⟨s0,s1,s2,s3,s4,s5,s6⟩;go_simp;with_reducible rfl)
         refine oA 5 (some 111) HT_ (fun K hK=>?_)
         refine goes_ Try.func32 (by kernel_rfl) rfl #[.string (rdOf ByteArray.empty af ah)] (by rfl) rfl rfl (by (try simp only [List.map_toArray,List.map_cons,List.map_nil]);first|done|rfl|(simp only [List.length_drop,List.length_take];rfl)) ?_
         with_reducible refine (engrossref1_MayKey.calls (rdOf ByteArray.empty af ah) true _ A50.out).mono ?_
         rintro e w' ⟨rfl,⟨nd,rfl⟩⟩
         refine⟨_,rfl,?_⟩
         refine hK.out _ _ (bn4 ae ⟨(cW HB ax),(cW HB bF),(cW HB bI)⟩) (fun hHeld=>?_)
         clear hK K
         refine norm_ (a':=?_) ?_ ?_
         rotate_left
         ·show Act.put _ (some 111) _=_
          simp only [Act.put,List.setIfInBounds_toArray,List.set_cons_zero,List.set_cons_succ,i64_w,i32_w]
          rfl
         refine pA 6 112 HT_ ?_
         refine pA 7 113 HT_ ?_
         refine pA 8 114 HT_ ?_
         refine pA 9 115 HT_ ?_
         refine pA 10 116 HT_ ?_
         refine pA 11 117 HT_ ?_
         refine pA 13 119 HT_ ?_
         refine pA 16 122 HT_ ?_
         refine pA 18 124 HT_ ?_
         refine pA 19 125 HT_ ?_
         refine tA 12 118 HT_ HW_ hHeld ?_ (hy:=by rintro w' ⟨s0,s1,s2,s3,s4,s5,s6⟩;go_simp;with_reducible rfl)
         refine pA 14 120 HT_ ?_
         refine tA 15 121 HT_ HW_ hHeld ?_ (hy:=by rintro w' ⟨s0,s1,s2,s3,s4,s5,s6⟩;go_simp;with_reducible rfl)
         refine tA 17 123 HT_ HW_ hHeld ?_ (hy:=by rintro w' ⟨s0,s1,s2,s3,s4,s5,s6⟩;go_simp;with_reducible rfl)
         refine pA 20 126 HT_ ?_
         refine tA 21 127 HT_ HW_ hHeld ?_ (hy:=by rintro w' ⟨s0,s1,s2,s3,s4,s5,s6⟩;go_simp;with_reducible rfl)
         refine pA 22 128 HT_ ?_
         refine pA 23 129 HT_ ?_
         refine pA 24 130 HT_ ?_
         refine done_ (done_of HT_.out (by kernel_rfl)) ?_
         try go_wp2
         go_roundg k3
         case measure=>have:=d5.out;have:=HK2.out;have:=HK3.out;omega
         case rel=>exact⟨(wrap64 (ah+1)),(by first|rfl|(simp;done)|(simp [*];done)),H',⟨by have:=d5.out;have:=HK2.out;have:=HK3.out;omega⟩,bK ae,bV HB⟩
        rw [if_neg c56] at H
        have fJ:(Op.bytesLess ((rdOf ByteArray.empty af (ji53)).toList) ((rdOf ByteArray.empty af ah).toList))=false:=by simpa using c56
        clear c56
        obtain rfl:=Option.some.inj H
        obtain⟨gp,gq,gr,gu,gv,gw,gx,gy⟩:=bf4 (w:=wr) ae
        try go_wp2
        replace ae:=aK (blk_drew ae.out)
        replace HB:=aK (below_drew1 HB.out)
        have bp:0≤(ah:Int):=dA
        have bq:ah<(af.length:Int):=dA
        obtain⟨aw,e394,au⟩:=Kd.at_string bA.out ah bp bq
        have ax:=au
        cases e394
        replace au:=cW HB au
        replace bp:=eq_true bp
        replace bq:=eq_true bq
        have cq:0≤(ah:Int):=dA
        have ct:ah<(af.length:Int):=dA
        obtain⟨es,e396,aN⟩:=Kd.at_string bA.out ah cq ct
        have bF:=aN
        obtain rfl:aw=es:=(by injection e396)
        replace aN:=cW HB aN
        replace cq:=eq_true cq
        replace ct:=eq_true ct
        have cu:0≤((ji53):Int):=dA
        have cv:(ji53)<(af.length:Int):=dA
        obtain⟨et,e397,aQ⟩:=Kd.at_string bA.out (ji53) cu cv
        have bI:=aQ
        obtain rfl:aw=et:=(by injection e397)
        replace aQ:=cW HB aQ
        replace cu:=eq_true cu
        replace cv:=eq_true cv
        refine start_ (n:=25) (S:=fun w'=>w'.cell? ⟨ai,0,none⟩=some (.bool false)∧w'.cell? ⟨ai,1,none⟩=some (.slice br ab.length bl)∧w'.cell? ⟨ai,2,none⟩=some (.slice (some aw) af.length bm)∧w'.cell? ⟨ai,3,none⟩=some (.slice bn ag.length bo)∧w'.cell? (aw.add (ah).toNat)=some (.string (rdOf ByteArray.empty af ah))∧w'.cell? (aw.add (ah).toNat)=some (.string (rdOf ByteArray.empty af ah))∧w'.cell? (aw.add ((ji53)).toNat)=some (.string (rdOf ByteArray.empty af (ji53)))) (ds:=[]) #[false,false,false,false,false,false,false,false,false,false,false,false,false,false,false,false,false,false,false,false,false,false,false,false,false] (by kernel_rfl) rfl rfl (bn4 ae ⟨(cW HB ax),(cW HB bF),(cW HB bI)⟩) (fun hHeld=>?_);refine with_tabW engrossref10_MayNode.tab18 engrossref10_MayNode.bits18 (fun HT_ HW_=>?_)
        generalize wr.drew=w60 at ae HB au aN aQ hHeld ⊢
        refine pA 0 106 HT_ ?_
        refine pA 2 108 HT_ ?_
        refine tA 1 107 HT_ HW_ hHeld ?_ (hy:=by rintro w' ⟨s0,s1,s2,s3,s4,s5,s6⟩;go_simp;with_reducible rfl)
        refine pA 3 109 HT_ ?_
        refine tA 4 110 HT_ HW_ hHeld ?_ (hy:=by rintro w' ⟨s0,s1,s2,s3,s4,s5,s6⟩;go_simp;with_reducible rfl)
        refine oA 5 (some 111) HT_ (fun K hK=>?_)
        refine goes_ Try.func32 (by kernel_rfl) rfl #[.string (rdOf ByteArray.empty af ah)] (by rfl) rfl rfl (by (try simp only [List.map_toArray,List.map_cons,List.map_nil]);first|done|rfl|(simp only [List.length_drop,List.length_take];rfl)) ?_
        with_reducible refine (engrossref1_MayKey.calls (rdOf ByteArray.empty af ah) true _ A50.out).mono ?_
        rintro e w' ⟨rfl,⟨nd,rfl⟩⟩
        refine⟨_,rfl,?_⟩
        refine hK.out _ _ (bn4 ae ⟨(cW HB ax),(cW HB bF),(cW HB bI)⟩) (fun hHeld=>?_)
        clear hK K
        refine norm_ (a':=?_) ?_ ?_
        rotate_left
        ·show Act.put _ (some 111) _=_
         simp only [Act.put,List.setIfInBounds_toArray,List.set_cons_zero,List.set_cons_succ,i64_w,i32_w]
         rfl
        refine pA 6 112 HT_ ?_
        refine pA 7 113 HT_ ?_
        refine pA 8 114 HT_ ?_
        refine pA 9 115 HT_ ?_
        refine pA 10 116 HT_ ?_
        refine pA 11 117 HT_ ?_
        refine pA 13 119 HT_ ?_
        refine pA 16 122 HT_ ?_
        refine pA 18 124 HT_ ?_
        refine pA 19 125 HT_ ?_
        refine tA 12 118 HT_ HW_ hHeld ?_ (hy:=by rintro w' ⟨s0,s1,s2,s3,s4,s5,s6⟩;go_simp;with_reducible rfl)
        refine pA 14 120 HT_ ?_
        refine tA 15 121 HT_ HW_ hHeld ?_ (hy:=by rintro w' ⟨s0,s1,s2,s3,s4,s5,s6⟩;go_simp;with_reducible rfl)
        refine tA 17 123 HT_ HW_ hHeld ?_ (hy:=by rintro w' ⟨s0,s1,s2,s3,s4,s5,s6⟩;go_simp;with_reducible rfl)
        refine pA 20 126 HT_ ?_
        refine tA 21 127 HT_ HW_ hHeld ?_ (hy:=by rintro w' ⟨s0,s1,s2,s3,s4,s5,s6⟩;go_simp;with_reducible rfl)
        refine pA 22 128 HT_ ?_
        refine pA 23 129 HT_ ?_
        refine pA 24 130 HT_ ?_
        refine done_ (done_of HT_.out (by kernel_rfl)) ?_
        try go_wp2
        go_ret
        exact⟨by first|rfl|(simp [errW_none,errW_some] <;> rfl)|(simp only [← hji53];first|rfl|(simp [errW_none,errW_some] <;> rfl))|(simp [*,errW_none,errW_some] <;> rfl),by repeat (first|(with_reducible first|exact HB.out|apply below_alloc|apply pw_below_drewN|apply below_drew1|refine below_set ?_ ej.out)|exact HB.out)⟩
 subst c2
 have H1:(engrossref10_MayNode.l0 k 0 true ab af ag)=some r:=by rw [if_pos rfl] at H;exact H
 clear H
 have H:=H1
 clear H1
 have H':=aK H
 clear H
 go_enter Try.func15,Try.ntmps15
 go_wp2_with (first|((with_reducible refine gate_dst (N:=1) rfl ?_);(try (refine gate_guard (by rfl) ?_;dsimp only));refine box_event ?hg (N:=1) ?hd (cs:=#[.bool true,.slice br ab.length bl,.slice bs af.length bm,.slice bn ag.length bo]) (t:=26) ?hr ?_;(case hd=>rfl);(case hg=>rfl);(case hr=>first|(go_simp;done)|(go_simp;rfl));intro ai hg w3 hbox hb;have ae:=aK (hbox);have fF:=bZ HB hg;have ej:=bZ HB hg;replace HB:=bW HB hb;clear hb hbox hg;obtain⟨fu,fv,fw,fz,fA,fB,fC,fD⟩:=bf4 (w:=w3) ae))
 go_loopg [3] k (fun kq v3 w'=>∃ (aa:Int),v3 = .int .i64 aa∧Aside0 (engrossref10_MayNode.l0 kq aa true ab af ag=some r)∧Aside0 (kq≤k)∧Aside0 (w'.heap[ai]? = some (.cells #[.bool true,(.slice br ab.length bl),(.slice bs af.length bm),(.slice bn ag.length bo)] 26 (0,0)))∧Aside0 (Below w.heap.size w w'))
 case atStart=>exact⟨(0),(by first|rfl|(simp;done)|(simp [*];done)),H',⟨Nat.le_refl _⟩,bK ae,bV HB⟩
 case round =>
  clear H'
  try clear c1
  try clear c2
  try clear p2
  try clear fu fv fw fz fA fB fC fD
  obtain⟨aa,rfl,HA,HK1,ae,HB⟩:=hrel
  cases gk with
  | zero=>exact absurd HA.out (by simp [engrossref10_MayNode.l0])
  | succ k1 =>
   have H:=HA.out
   clear HA
   simp only [engrossref10_MayNode.l0] at H
   by_cases c5:aa<(ab.length:Int)
   rotate_left
   ·rw [if_neg c5] at H
    have el:decide (aa<(ab.length:Int))=false:=decide_eq_false c5
    clear c5
    by_cases c26:(af.length:Int)=0
    ·rw [if_pos c26] at H
     have eg:((af.length:Int) == 0)=true:=beq_iff_eq.mpr c26
     have eh:((af.length:Int) != 0)=false:=bne_eq_false_iff_eq.mpr c26
     clear c26
     obtain rfl:=Option.some.inj H
     obtain⟨dD,dE,dF,dG,dT,dU,dV,dW⟩:=bf4 (w:=wr) ae
     go_wp2
     go_ret
     exact xB HB
    rw [if_neg c26] at H
    have eg:((af.length:Int) == 0)=false:=beq_eq_false_iff_ne.mpr c26
    have eh:((af.length:Int) != 0)=true:=bne_iff_ne.mpr c26
    have ep:¬ (af = []):=fun h_=>c26 (by rw [h_];rfl)
    obtain rfl:=Option.some.inj H
    obtain⟨dH,dI,dJ,dK,dX,dY,dZ,d4⟩:=bf4 (w:=wr) ae
    go_wp2
    go_ret
    exact xB HB
   rw [if_pos c5] at H
   have el:decide (aa<(ab.length:Int))=true:=decide_eq_true c5
   clear c5
   by_cases c6:0≤aa
   rotate_left
   ·rw [if_neg c6] at H
    exact absurd H (by simp)
   rw [if_pos c6] at H
   have gZ:decide (0≤aa)=true:=decide_eq_true c6
   clear c6
   replace H:=oS H
   obtain⟨fE,A70,H⟩:=H
   replace H:(if fE=true then (if aa>0 then (if 0≤(wrap64 (aa - 1)) then (if (wrap64 (aa - 1))<(ab.length:Int) then (if ((Op.bytesLess (((rd_T56 ab (wrap64 (aa - 1))).f0).toList) (((rd_T56 ab aa).f0).toList))=true) then (engrossref10_MayNode.l0 k1 (wrap64 (aa+1)) true ab af ag) else (some false)) else (none)) else (none)) else (engrossref10_MayNode.l0 k1 (wrap64 (aa+1)) true ab af ag)) else (some false))=some r:=H
   have A7:=aK A70
   clear A70
   by_cases c8:fE=true
   rotate_left
   ·replace c8:=Bool.eq_false_iff.mpr c8
    subst c8
    have H1:(some false)=some r:=by rw [if_neg (show ¬ (false=true) by decide)] at H;exact H
    clear H
    have H:=H1
    clear H1
    obtain rfl:=Option.some.inj H
    obtain⟨dy,dz,dB,dC,dP,dQ,dR,dS⟩:=bf4 (w:=wr) ae
    try go_wp2
    replace ae:=aK (blk_drew ae.out)
    replace HB:=aK (below_drew1 HB.out)
    have aI:0≤(aa:Int):=dA
    have aJ:aa<(ab.length:Int):=dA
    obtain⟨ac,e388,aj,ak,al,am,ao,ap,aq,ar⟩:=at_T56 bx.out aa aI aJ
    have ay:=ar
    have az:=aq
    have aA:=ap
    have aC:=ao
    have aD:=am
    have aE:=al
    have aG:=ak
    have aH:=aj
    cases e388
    replace aj:=cW HB aj
    replace ak:=cW HB ak
    replace al:=cW HB al
    replace am:=cW HB am
    replace ao:=cW HB ao
    replace ap:=cW HB ap
    replace aq:=cW HB aq
    replace ar:=cW HB ar
    replace aI:=eq_true aI
    replace aJ:=eq_true aJ
    refine start_ (n:=27) (S:=fun w'=>w'.cell? ⟨ai,0,none⟩=some (.bool true)∧w'.cell? ⟨ai,1,none⟩=some (.slice (some ac) ab.length bl)∧w'.cell? ⟨ai,2,none⟩=some (.slice bs af.length bm)∧w'.cell? ⟨ai,3,none⟩=some (.slice bn ag.length bo)∧w'.cell? (ac.add ((aa).toNat * 8))=some (.string ((rd_T56 ab aa).f0))∧w'.cell? ⟨(ac.add ((aa).toNat * 8)).block,(ac.add ((aa).toNat * 8)).off+1,none⟩=some (.int .i64 ((rd_T56 ab aa).f1.f0))∧w'.cell? ⟨(ac.add ((aa).toNat * 8)).block,(ac.add ((aa).toNat * 8)).off+2,none⟩=some (.float .f64 ((rd_T56 ab aa).f1.f1))∧w'.cell? ⟨(ac.add ((aa).toNat * 8)).block,(ac.add ((aa).toNat * 8)).off+3,none⟩=some (.string ((rd_T56 ab aa).f1.f2))∧w'.cell? ⟨(ac.add ((aa).toNat * 8)).block,(ac.add ((aa).toNat * 8)).off+4,none⟩=some (.int .i64 ((rd_T56 ab aa).f2))∧w'.cell? ⟨(ac.add ((aa).toNat * 8)).block,(ac.add ((aa).toNat * 8)).off+5,none⟩=some (.int .i64 ((rd_T56 ab aa).f3.f0))∧w'.cell? ⟨(ac.add ((aa).toNat * 8)).block,(ac.add ((aa).toNat * 8)).off+6,none⟩=some (.float .f64 ((rd_T56 ab aa).f3.f1))∧w'.cell? ⟨(ac.add ((aa).toNat * 8)).block,(ac.add ((aa).toNat * 8)).off+7,none⟩=some (.string ((rd_T56 ab aa).f3.f2))) (ds:=[]) #[false,false,false,false,false,false,false,false,false,false,false,false,false,false,false,false,false,false,false,false,false,false,false,false,false,false,false] (by kernel_rfl) rfl rfl (bn4 ae ⟨(cW HB aH),(cW HB aG),(cW HB aE),(cW HB aD),(cW HB aC),(cW HB aA),(cW HB az),(cW HB ay)⟩) (fun hHeld=>?_);refine with_tabW engrossref10_MayNode.tab5 engrossref10_MayNode.bits5 (fun HT_ HW_=>?_)
    generalize wr.drew=w24 at ae HB aj ak al am ao ap aq ar hHeld ⊢
    refine pA 0 15 HT_ ?_
    refine pA 2 17 HT_ ?_
    refine tA 1 16 HT_ HW_ hHeld ?_ (hy:=by rintro w' ⟨s0,s1,s2,s3,s4,s5,s6,s7,s8,s9,s10,s11⟩;go_simp;with_reducible rfl)
    refine pA 3 18 HT_ ?_
    refine tA 4 19 HT_ HW_ hHeld ?_ (hy:=by rintro w' ⟨s0,s1,s2,s3,s4,s5,s6,s7,s8,s9,s10,s11⟩;go_simp;with_reducible rfl)
    refine oA 5 (some 20) HT_ (fun K hK=>?_)
    refine goes_ Try.func31 (by kernel_rfl) rfl #[.agg #[.string ((rd_T56 ab aa).f0),.int .i64 ((rd_T56 ab aa).f1.f0),.float .f64 ((rd_T56 ab aa).f1.f1),.string ((rd_T56 ab aa).f1.f2),.int .i64 ((rd_T56 ab aa).f2),.int .i64 ((rd_T56 ab aa).f3.f0),.float .f64 ((rd_T56 ab aa).f3.f1),.string ((rd_T56 ab aa).f3.f2)]] (by rfl) rfl rfl (by (try simp only [List.map_toArray,List.map_cons,List.map_nil]);first|done|rfl|(simp only [List.length_drop,List.length_take];rfl)) ?_
    with_reducible refine (engrossref10_May.calls ((rd_T56 ab aa).f0) ((rd_T56 ab aa).f1.f0) ((rd_T56 ab aa).f1.f1) ((rd_T56 ab aa).f1.f2) ((rd_T56 ab aa).f2) ((rd_T56 ab aa).f3.f0) ((rd_T56 ab aa).f3.f1) ((rd_T56 ab aa).f3.f2) false _ A7.out).mono ?_
    rintro e w25 ⟨rfl,hb⟩
    refine⟨_,rfl,?_⟩
    replace ae:=bB ae hb
    replace HB:=bW HB hb
    (try clear hb)
    (try clear hb2)
    (try clear hk)
    (try clear hi)
    refine hK.out _ _ (bn4 ae ⟨(cW HB aH),(cW HB aG),(cW HB aE),(cW HB aD),(cW HB aC),(cW HB aA),(cW HB az),(cW HB ay)⟩) (fun hHeld=>?_)
    clear hK K
    refine norm_ (a':=?_) ?_ ?_
    rotate_left
    ·show Act.put _ (some 20) _=_
     simp only [Act.put,List.setIfInBounds_toArray,List.set_cons_zero,List.set_cons_succ,i64_w,i32_w]
     rfl
    refine pA 6 21 HT_ ?_
    refine pA 7 22 HT_ ?_
    refine pU 8 23 HT_ ?_
    refine pU 9 24 HT_ ?_
    refine pU 10 25 HT_ ?_
    refine pU 11 26 HT_ ?_
    refine pU 12 27 HT_ ?_
    refine pU 13 28 HT_ ?_
    refine pU 14 29 HT_ ?_
    refine pU 15 30 HT_ ?_
    refine pU 16 31 HT_ ?_
    refine pU 17 32 HT_ ?_
    refine pU 18 33 HT_ ?_
    refine pU 19 34 HT_ ?_
    refine pU 20 35 HT_ ?_
    refine pU 21 36 HT_ ?_
    refine pU 22 37 HT_ ?_
    refine pU 23 38 HT_ ?_
    refine pU 24 39 HT_ ?_
    refine pU 25 40 HT_ ?_
    refine pA 26 41 HT_ ?_
    refine done_ (done_of HT_.out (by kernel_rfl)) ?_
    try go_wp2
    go_ret
    exact xB HB
   subst c8
   have H1:(if aa>0 then (if 0≤(wrap64 (aa - 1)) then (if (wrap64 (aa - 1))<(ab.length:Int) then (if ((Op.bytesLess (((rd_T56 ab (wrap64 (aa - 1))).f0).toList) (((rd_T56 ab aa).f0).toList))=true) then (engrossref10_MayNode.l0 k1 (wrap64 (aa+1)) true ab af ag) else (some false)) else (none)) else (none)) else (engrossref10_MayNode.l0 k1 (wrap64 (aa+1)) true ab af ag))=some r:=by rw [if_pos rfl] at H;exact H
   clear H
   have H:=H1
   clear H1
   by_cases c9:aa>0
   rotate_left
   ·rw [if_neg c9] at H
    have em:decide (0<aa)=false:=decide_eq_false c9
    clear c9
    have H':=aK H
    clear H
    obtain⟨du,dv,dw,dx,dL,dM,dN,dO⟩:=bf4 (w:=wr) ae
    try go_wp2
    replace ae:=aK (blk_drew ae.out)
    replace HB:=aK (below_drew1 HB.out)
    have aI:0≤(aa:Int):=dA
    have aJ:aa<(ab.length:Int):=dA
    obtain⟨ac,e388,aj,ak,al,am,ao,ap,aq,ar⟩:=at_T56 bx.out aa aI aJ
    have ay:=ar
    have az:=aq
    have aA:=ap
    have aC:=ao
    have aD:=am
    have aE:=al
    have aG:=ak
    have aH:=aj
    cases e388
    replace aj:=cW HB aj
    replace ak:=cW HB ak
    replace al:=cW HB al
    replace am:=cW HB am
    replace ao:=cW HB ao
    replace ap:=cW HB ap
    replace aq:=cW HB aq
    replace ar:=cW HB ar
    replace aI:=eq_true aI
    replace aJ:=eq_true aJ
    refine start_ (n:=27) (S:=fun w'=>w'.cell? ⟨ai,0,none⟩=some (.bool true)∧w'.cell? ⟨ai,1,none⟩=some (.slice (some ac) ab.length bl)∧w'.cell? ⟨ai,2,none⟩=some (.slice bs af.length bm)∧w'.cell? ⟨ai,3,none⟩=some (.slice bn ag.length bo)∧w'.cell? (ac.add ((aa).toNat * 8))=some (.string ((rd_T56 ab aa).f0))∧w'.cell? ⟨(ac.add ((aa).toNat * 8)).block,(ac.add ((aa).toNat * 8)).off+1,none⟩=some (.int .i64 ((rd_T56 ab aa).f1.f0))∧w'.cell? ⟨(ac.add ((aa).toNat * 8)).block,(ac.add ((aa).toNat * 8)).off+2,none⟩=some (.float .f64 ((rd_T56 ab aa).f1.f1))∧w'.cell? ⟨(ac.add ((aa).toNat * 8)).block,(ac.add ((aa).toNat * 8)).off+3,none⟩=some (.string ((rd_T56 ab aa).f1.f2))∧w'.cell? ⟨(ac.add ((aa).toNat * 8)).block,(ac.add ((aa).toNat * 8)).off+4,none⟩=some (.int .i64 ((rd_T56 ab aa).f2))∧w'.cell? ⟨(ac.add ((aa).toNat * 8)).block,(ac.add ((aa).toNat * 8)).off+5,none⟩=some (.int .i64 ((rd_T56 ab aa).f3.f0))∧w'.cell? ⟨(ac.add ((aa).toNat * 8)).block,(ac.add ((aa).toNat * 8)).off+6,none⟩=some (.float .f64 ((rd_T56 ab aa).f3.f1))∧w'.cell? ⟨(ac.add ((aa).toNat * 8)).block,(ac.add ((aa).toNat * 8)).off+7,none⟩=some (.string ((rd_T56 ab aa).f3.f2))) (ds:=[]) #[false,false,false,false,false,false,false,false,false,false,false,false,false,false,false,false,false,false,false,false,false,false,false,false,false,false,false] (by kernel_rfl) rfl rfl (bn4 ae ⟨(cW HB aH),(cW HB aG),(cW HB aE),(cW HB aD),(cW HB aC),(cW HB aA),(cW HB az),(cW HB ay)⟩) (fun hHeld=>?_);refine with_tabW engrossref10_MayNode.tab5 engrossref10_MayNode.bits5 (fun HT_ HW_=>?_)
    generalize wr.drew=w21 at ae HB aj ak al am ao ap aq ar hHeld ⊢
    refine pA 0 15 HT_ ?_
    refine pA 2 17 HT_ ?_
    refine tA 1 16 HT_ HW_ hHeld ?_ (hy:=by rintro w' ⟨s0,s1,s2,s3,s4,s5,s6,s7,s8,s9,s10,s11⟩;go_simp;with_reducible rfl)
    refine pA 3 18 HT_ ?_
    refine tA 4 19 HT_ HW_ hHeld ?_ (hy:=by rintro w' ⟨s0,s1,s2,s3,s4,s5,s6,s7,s8,s9,s10,s11⟩;go_simp;with_reducible rfl)
    refine oA 5 (some 20) HT_ (fun K hK=>?_)
    refine goes_ Try.func31 (by kernel_rfl) rfl #[.agg #[.string ((rd_T56 ab aa).f0),.int .i64 ((rd_T56 ab aa).f1.f0),.float .f64 ((rd_T56 ab aa).f1.f1),.string ((rd_T56 ab aa).f1.f2),.int .i64 ((rd_T56 ab aa).f2),.int .i64 ((rd_T56 ab aa).f3.f0),.float .f64 ((rd_T56 ab aa).f3.f1),.string ((rd_T56 ab aa).f3.f2)]] (by rfl) rfl rfl (by (try simp only [List.map_toArray,List.map_cons,List.map_nil]);first|done|rfl|(simp only [List.length_drop,List.length_take];rfl)) ?_
    with_reducible refine (engrossref10_May.calls ((rd_T56 ab aa).f0) ((rd_T56 ab aa).f1.f0) ((rd_T56 ab aa).f1.f1) ((rd_T56 ab aa).f1.f2) ((rd_T56 ab aa).f2) ((rd_T56 ab aa).f3.f0) ((rd_T56 ab aa).f3.f1) ((rd_T56 ab aa).f3.f2) true _ A7.out).mono ?_
    rintro e w22 ⟨rfl,hb⟩
    refine⟨_,rfl,?_⟩
    replace ae:=bB ae hb
    replace HB:=bW HB hb
    (try clear hb)
    (try clear hb2)
    (try clear hk)
    (try clear hi)
    refine hK.out _ _ (bn4 ae ⟨(cW HB aH),(cW HB aG),(cW HB aE),(cW HB aD),(cW HB aC),(cW HB aA),(cW HB az),(cW HB ay)⟩) (fun hHeld=>?_)
    clear hK K
    refine norm_ (a':=?_) ?_ ?_
    rotate_left
    ·show Act.put _ (some 20) _=_
     simp only [Act.put,List.setIfInBounds_toArray,List.set_cons_zero,List.set_cons_succ,i64_w,i32_w]
     rfl
    refine pA 6 21 HT_ ?_
    refine pA 7 22 HT_ ?_
    refine pA 8 23 HT_ ?_
    refine pA 9 24 HT_ ?_
    refine pA 10 25 HT_ ?_
    refine pU 11 26 HT_ ?_
    refine pU 12 27 HT_ ?_
    refine pU 13 28 HT_ ?_
    refine pU 14 29 HT_ ?_
    refine pU 15 30 HT_ ?_
    refine pU 16 31 HT_ ?_
    refine pU 17 32 HT_ ?_
    refine pU 18 33 HT_ ?_
    refine pU 19 34 HT_ ?_
    refine pU 20 35 HT_ ?_
    refine pU 21 36 HT_ ?_
    refine pU 22 37 HT_ ?_
    refine pU 23 38 HT_ ?_
    refine pU 24 39 HT_ ?_
    refine pA 25 40 HT_ ?_
    refine pA 26 41 HT_ ?_
    refine done_ (done_of HT_.out (by kernel_rfl)) ?_
    try go_wp2
    go_roundg k1
    case measure=>have:=HK1.out;omega
    case rel=>exact⟨(wrap64 (aa+1)),(by first|rfl|(simp;done)|(simp [*];done)),H',⟨by have:=HK1.out;omega⟩,bK ae,bV HB⟩
   rw [if_pos c9] at H
   have em:decide (0<aa)=true:=decide_eq_true c9
   clear c9
   obtain⟨ji10,hji10⟩:∃ j_:Int,(wrap64 (aa - 1))=j_:=⟨_,rfl⟩
   replace H:(if 0≤(ji10) then (if (ji10)<(ab.length:Int) then (if ((Op.bytesLess (((rd_T56 ab (ji10)).f0).toList) (((rd_T56 ab aa).f0).toList))=true) then (engrossref10_MayNode.l0 k1 (wrap64 (aa+1)) true ab af ag) else (some false)) else (none)) else (none))=some r:=by first|(rw [hji10] at H;exact H)|(simp only [hji10] at H ⊢;exact H)
   (try rw [hji10] at A7)
   have hji10w:(IntKind.i64.wrap (aa - 1))=ji10:=(i64_w _).trans hji10
   by_cases c11:0≤(ji10)
   rotate_left
   ·rw [if_neg c11] at H
    exact absurd H (by simp)
   rw [if_pos c11] at H
   have gW:decide (0≤(ji10))=true:=decide_eq_true c11
   clear c11
   by_cases c12:(ji10)<(ab.length:Int)
   rotate_left
   ·rw [if_neg c12] at H
    exact absurd H (by simp)
   rw [if_pos c12] at H
   have gX:decide ((ji10)<(ab.length:Int))=true:=decide_eq_true c12
   clear c12
   by_cases c13:((Op.bytesLess (((rd_T56 ab (ji10)).f0).toList) (((rd_T56 ab aa).f0).toList))=true)
   ·rw [if_pos c13] at H
    have fK:(Op.bytesLess (((rd_T56 ab (ji10)).f0).toList) (((rd_T56 ab aa).f0).toList))=true:=c13
    clear c13
    have H':=aK H
    clear H
    obtain⟨gz,gA,gB,gC,gD,gE,gF,gG⟩:=bf4 (w:=wr) ae
    try go_wp2
    replace ae:=aK (blk_drew ae.out)
    replace HB:=aK (below_drew1 HB.out)
    have aI:0≤(aa:Int):=dA
    have aJ:aa<(ab.length:Int):=dA
    obtain⟨ac,e388,aj,ak,al,am,ao,ap,aq,ar⟩:=at_T56 bx.out aa aI aJ
    have ay:=ar
    have az:=aq
    have aA:=ap
    have aC:=ao
    have aD:=am
    have aE:=al
    have aG:=ak
    have aH:=aj
    cases e388
    replace aj:=cW HB aj
    replace ak:=cW HB ak
    replace al:=cW HB al
    replace am:=cW HB am
    replace ao:=cW HB ao
    replace ap:=cW HB ap
    replace aq:=cW HB aq
    replace ar:=cW HB ar
    replace aI:=eq_true aI
    replace aJ:=eq_true aJ
    have cw:0≤(aa:Int):=dA
    have cx:aa<(ab.length:Int):=dA
    obtain⟨eu,e390,aT,aU,aV,aW,aX,aY,aZ,ba⟩:=at_T56 bx.out aa cw cx
    have bJ:=ba
    have bM:=aZ
    have bN:=aY
    have bO:=aX
    have bU:=aW
    have bX:=aV
    have bY:=aU
    have b8:=aT
    obtain rfl:ac=eu:=(by injection e390)
    replace aT:=cW HB aT
    replace aU:=cW HB aU
    replace aV:=cW HB aV
    replace aW:=cW HB aW
    replace aX:=cW HB aX
    replace aY:=cW HB aY
    replace aZ:=cW HB aZ
    replace ba:=cW HB ba
    replace cw:=eq_true cw
    replace cx:=eq_true cx
    have cz:0≤((ji10):Int):=dA
    have cA:(ji10)<(ab.length:Int):=dA
    obtain⟨ev,e391,bb,bc,bf,bg,bh,bi,bj,bk⟩:=at_T56 bx.out (ji10) cz cA
    have b9:=bk
    have ca:=bj
    have cb:=bi
    have cd:=bh
    have cf:=bg
    have cg:=bf
    have ch:=bc
    have cj:=bb
    obtain rfl:ac=ev:=(by injection e391)
    replace bb:=cW HB bb
    replace bc:=cW HB bc
    replace bf:=cW HB bf
    replace bg:=cW HB bg
    replace bh:=cW HB bh
    replace bi:=cW HB bi
    replace bj:=cW HB bj
    replace bk:=cW HB bk
    replace cz:=eq_true cz
    replace cA:=eq_true cA
    refine start_ (n:=27) (S:=fun w'=>w'.cell? ⟨ai,0,none⟩=some (.bool true)∧w'.cell? ⟨ai,1,none⟩=some (.slice (some ac) ab.length bl)∧w'.cell? ⟨ai,2,none⟩=some (.slice bs af.length bm)∧w'.cell? ⟨ai,3,none⟩=some (.slice bn ag.length bo)∧w'.cell? (ac.add ((aa).toNat * 8))=some (.string ((rd_T56 ab aa).f0))∧w'.cell? ⟨(ac.add ((aa).toNat * 8)).block,(ac.add ((aa).toNat * 8)).off+1,none⟩=some (.int .i64 ((rd_T56 ab aa).f1.f0))∧w'.cell? ⟨(ac.add ((aa).toNat * 8)).block,(ac.add ((aa).toNat * 8)).off+2,none⟩=some (.float .f64 ((rd_T56 ab aa).f1.f1))∧w'.cell? ⟨(ac.add ((aa).toNat * 8)).block,(ac.add ((aa).toNat * 8)).off+3,none⟩=some (.string ((rd_T56 ab aa).f1.f2))∧w'.cell? ⟨(ac.add ((aa).toNat * 8)).block,(ac.add ((aa).toNat * 8)).off+4,none⟩=some (.int .i64 ((rd_T56 ab aa).f2))∧w'.cell? ⟨(ac.add ((aa).toNat * 8)).block,(ac.add ((aa).toNat * 8)).off+5,none⟩=some (.int .i64 ((rd_T56 ab aa).f3.f0))∧w'.cell? ⟨(ac.add ((aa).toNat * 8)).block,(ac.add ((aa).toNat * 8)).off+6,none⟩=some (.float .f64 ((rd_T56 ab aa).f3.f1))∧w'.cell? ⟨(ac.add ((aa).toNat * 8)).block,(ac.add ((aa).toNat * 8)).off+7,none⟩=some (.string ((rd_T56 ab aa).f3.f2))∧w'.cell? (ac.add ((aa).toNat * 8))=some (.string ((rd_T56 ab aa).f0))∧w'.cell? ⟨(ac.add ((aa).toNat * 8)).block,(ac.add ((aa).toNat * 8)).off+1,none⟩=some (.int .i64 ((rd_T56 ab aa).f1.f0))∧w'.cell? ⟨(ac.add ((aa).toNat * 8)).block,(ac.add ((aa).toNat * 8)).off+2,none⟩=some (.float .f64 ((rd_T56 ab aa).f1.f1))∧w'.cell? ⟨(ac.add ((aa).toNat * 8)).block,(ac.add ((aa).toNat * 8)).off+3,none⟩=some (.string ((rd_T56 ab aa).f1.f2))∧w'.cell? ⟨(ac.add ((aa).toNat * 8)).block,(ac.add ((aa).toNat * 8)).off+4,none⟩=some (.int .i64 ((rd_T56 ab aa).f2))∧w'.cell? ⟨(ac.add ((aa).toNat * 8)).block,(ac.add ((aa).toNat * 8)).off+5,none⟩=some (.int .i64 ((rd_T56 ab aa).f3.f0))∧w'.cell? ⟨(ac.add ((aa).toNat * 8)).block,(ac.add ((aa).toNat * 8)).off+6,none⟩=some (.float .f64 ((rd_T56 ab aa).f3.f1))∧w'.cell? ⟨(ac.add ((aa).toNat * 8)).block,(ac.add ((aa).toNat * 8)).off+7,none⟩=some (.string ((rd_T56 ab aa).f3.f2))∧w'.cell? (ac.add (((ji10)).toNat * 8))=some (.string ((rd_T56 ab (ji10)).f0))∧w'.cell? ⟨(ac.add (((ji10)).toNat * 8)).block,(ac.add (((ji10)).toNat * 8)).off+1,none⟩=some (.int .i64 ((rd_T56 ab (ji10)).f1.f0))∧w'.cell? ⟨(ac.add (((ji10)).toNat * 8)).block,(ac.add (((ji10)).toNat * 8)).off+2,none⟩=some (.float .f64 ((rd_T56 ab (ji10)).f1.f1))∧w'.cell? ⟨(ac.add (((ji10)).toNat * 8)).block,(ac.add (((ji10)).toNat * 8)).off+3,none⟩=some (.string ((rd_T56 ab (ji10)).f1.f2))∧w'.cell? ⟨(ac.add (((ji10)).toNat * 8)).block,(ac.add (((ji10)).toNat * 8)).off+4,none⟩=some (.int .i64 ((rd_T56 ab (ji10)).f2))∧w'.cell? ⟨(ac.add (((ji10)).toNat * 8)).block,(ac.add (((ji10)).toNat * 8)).off+5,none⟩=some (.int .i64 ((rd_T56 ab (ji10)).f3.f0))∧w'.cell? ⟨(ac.add (((ji10)).toNat * 8)).block,(ac.add (((ji10)).toNat * 8)).off+6,none⟩=some (.float .f64 ((rd_T56 ab (ji10)).f3.f1))∧w'.cell? ⟨(ac.add (((ji10)).toNat * 8)).block,(ac.add (((ji10)).toNat * 8)).off+7,none⟩=some (.string ((rd_T56 ab (ji10)).f3.f2))) (ds:=[]) #[false,false,false,false,false,false,false,false,false,false,false,false,false,false,false,false,false,false,false,false,false,false,false,false,false,false,false] (by kernel_rfl) rfl rfl (bn4 ae ⟨(cW HB aH),(cW HB aG),(cW HB aE),(cW HB aD),(cW HB aC),(cW HB aA),(cW HB az),(cW HB ay),(cW HB b8),(cW HB bY),(cW HB bX),(cW HB bU),(cW HB bO),(cW HB bN),(cW HB bM),(cW HB bJ),(cW HB cj),(cW HB ch),(cW HB cg),(cW HB cf),(cW HB cd),(cW HB cb),(cW HB ca),(cW HB b9)⟩) (fun hHeld=>?_);refine with_tabW engrossref10_MayNode.tab5 engrossref10_MayNode.bits5 (fun HT_ HW_=>?_)
    generalize wr.drew=w15 at ae HB aj ak al am ao ap aq ar aT aU aV aW aX aY aZ ba bb bc bf bg bh bi bj bk hHeld ⊢
    refine pA 0 15 HT_ ?_
    refine pA 2 17 HT_ ?_
    refine tA 1 16 HT_ HW_ hHeld ?_ (hy:=by rintro w' ⟨s0,s1,s2,s3,s4,s5,s6,s7,s8,s9,s10,s11,s12,s13,s14,s15,s16,s17,s18,s19,s20,s21,s22,s23,s24,s25,s26,s27⟩;go_simp;with_reducible rfl)
    refine pA 3 18 HT_ ?_
    refine tA 4 19 HT_ HW_ hHeld ?_ (hy:=by rintro w' ⟨s0,s1,s2,s3,s4,s5,s6,s7,s8,s9,s10,s11,s12,s13,s14,s15,s16,s17,s18,s19,s20,s21,s22,s23,s24,s25,s26,s27⟩;go_simp;with_reducible rfl)
    refine oA 5 (some 20) HT_ (fun K hK=>?_)
    refine goes_ Try.func31 (by kernel_rfl) rfl #[.agg #[.string ((rd_T56 ab aa).f0),.int .i64 ((rd_T56 ab aa).f1.f0),.float .f64 ((rd_T56 ab aa).f1.f1),.string ((rd_T56 ab aa).f1.f2),.int .i64 ((rd_T56 ab aa).f2),.int .i64 ((rd_T56 ab aa).f3.f0),.float .f64 ((rd_T56 ab aa).f3.f1),.string ((rd_T56 ab aa).f3.f2)]] (by rfl) rfl rfl (by (try simp only [List.map_toArray,List.map_cons,List.map_nil]);first|done|rfl|(simp only [List.length_drop,List.length_take];rfl)) ?_
    with_reducible refine (engrossref10_May.calls ((rd_T56 ab aa).f0) ((rd_T56 ab aa).f1.f0) ((rd_T56 ab aa).f1.f1) ((rd_T56 ab aa).f1.f2) ((rd_T56 ab aa).f2) ((rd_T56 ab aa).f3.f0) ((rd_T56 ab aa).f3.f1) ((rd_T56 ab aa).f3.f2) true _ A7.out).mono ?_
    rintro e w16 ⟨rfl,hb⟩
    refine⟨_,rfl,?_⟩
    replace ae:=bB ae hb
    replace HB:=bW HB hb
    (try clear hb)
    (try clear hb2)
    (try clear hk)
    (try clear hi)
    refine hK.out _ _ (bn4 ae ⟨(cW HB aH),(cW HB aG),(cW HB aE),(cW HB aD),(cW HB aC),(cW HB aA),(cW HB az),(cW HB ay),(cW HB b8),(cW HB bY),(cW HB bX),(cW HB bU),(cW HB bO),(cW HB bN),(cW HB bM),(cW HB bJ),(cW HB cj),(cW HB ch),(cW HB cg),(cW HB cf),(cW HB cd),(cW HB cb),(cW HB ca),(cW HB b9)⟩) (fun hHeld=>?_)
    clear hK K
    refine norm_ (a':=?_) ?_ ?_
    rotate_left
    ·show Act.put _ (some 20) _=_
     simp only [Act.put,List.setIfInBounds_toArray,List.set_cons_zero,List.set_cons_succ,i64_w,i32_w]
     rfl
    refine pA 6 21 HT_ ?_
    refine pA 7 22 HT_ ?_
    refine pA 8 23 HT_ ?_
    refine pA 9 24 HT_ ?_
    refine pA 10 25 HT_ ?_
    refine pA 11 26 HT_ ?_
    refine pA 13 28 HT_ ?_
    refine pA 17 32 HT_ ?_
    refine pA 19 34 HT_ ?_
    refine pA 20 35 HT_ ?_
    refine tA 12 27 HT_ HW_ hHeld ?_ (hy:=by rintro w' ⟨s0,s1,s2,s3,s4,s5,s6,s7,s8,s9,s10,s11,s12,s13,s14,s15,s16,s17,s18,s19,s20,s21,s22,s23,s24,s25,s26,s27⟩;go_simp;with_reducible rfl)
    refine pA 14 29 HT_ ?_
    refine pA 15 30 HT_ ?_
    refine tA 16 31 HT_ HW_ hHeld ?_ (hy:=by rintro w' ⟨s0,s1,s2,s3,s4,s5,s6,s7,s8,s9,s10,s11,s12,s13,s14,s15,s16,s17,s18,s19,s20,s21,s22,s23,s24,s25,s26,s27⟩;go_simp;with_reducible rfl)
    refine tA 18 33 HT_ HW_ hHeld ?_ (hy:=by rintro w' ⟨s0,s1,s2,s3,s4,s5,s6,s7,s8,s9,s10,s11,s12,s13,s14,s15,s16,s17,s18,s19,s20,s21,s22,s23,s24,s25,s26,s27⟩;go_simp;with_reducible rfl)
    refine pA 21 36 HT_ ?_
    refine pA 22 37 HT_ ?_
    refine tA 23 38 HT_ HW_ hHeld ?_ (hy:=by rintro w' ⟨s0,s1,s2,s3,s4,s5,s6,s7,s8,s9,s10,s11,s12,s13,s14,s15,s16,s17,s18,s19,s20,s21,s22,s23,s24,s25,s26,s27⟩;go_simp;with_reducible rfl)
    refine pA 24 39 HT_ ?_
    refine pA 25 40 HT_ ?_
    refine pA 26 41 HT_ ?_
    refine done_ (done_of HT_.out (by kernel_rfl)) ?_
    try go_wp2
    go_roundg k1
    case measure=>have:=HK1.out;omega
    case rel=>exact⟨(wrap64 (aa+1)),(by first|rfl|(simp;done)|(simp [*];done)),H',⟨by have:=HK1.out;omega⟩,bK ae,bV HB⟩
   rw [if_neg c13] at H
   have fK:(Op.bytesLess (((rd_T56 ab (ji10)).f0).toList) (((rd_T56 ab aa).f0).toList))=false:=by simpa using c13
   clear c13
   obtain rfl:=Option.some.inj H
   obtain⟨gH,gI,gJ,gK,gM,gN,gO,gP⟩:=bf4 (w:=wr) ae
   try go_wp2
   replace ae:=aK (blk_drew ae.out)
   replace HB:=aK (below_drew1 HB.out)
   have aI:0≤(aa:Int):=dA
   have aJ:aa<(ab.length:Int):=dA
   obtain⟨ac,e388,aj,ak,al,am,ao,ap,aq,ar⟩:=at_T56 bx.out aa aI aJ
   have ay:=ar
   have az:=aq
   have aA:=ap
   have aC:=ao
   have aD:=am
   have aE:=al
   have aG:=ak
   have aH:=aj
   cases e388
   replace aj:=cW HB aj
   replace ak:=cW HB ak
   replace al:=cW HB al
   replace am:=cW HB am
   replace ao:=cW HB ao
   replace ap:=cW HB ap
   replace aq:=cW HB aq
   replace ar:=cW HB ar
   replace aI:=eq_true aI
   replace aJ:=eq_true aJ
   have cw:0≤(aa:Int):=dA
   have cx:aa<(ab.length:Int):=dA
   obtain⟨eu,e390,aT,aU,aV,aW,aX,aY,aZ,ba⟩:=at_T56 bx.out aa cw cx
   have bJ:=ba
   have bM:=aZ
   have bN:=aY
   have bO:=aX
   have bU:=aW
   have bX:=aV
   have bY:=aU
   have b8:=aT
   obtain rfl:ac=eu:=(by injection e390)
   replace aT:=cW HB aT
   replace aU:=cW HB aU
   replace aV:=cW HB aV
   replace aW:=cW HB aW
   replace aX:=cW HB aX
   replace aY:=cW HB aY
   replace aZ:=cW HB aZ
   replace ba:=cW HB ba
   replace cw:=eq_true cw
   replace cx:=eq_true cx
   have cz:0≤((ji10):Int):=dA
   have cA:(ji10)<(ab.length:Int):=dA
   obtain⟨ev,e391,bb,bc,bf,bg,bh,bi,bj,bk⟩:=at_T56 bx.out (ji10) cz cA
   have b9:=bk
   have ca:=bj
   have cb:=bi
   have cd:=bh
   have cf:=bg
   have cg:=bf
   have ch:=bc
   have cj:=bb
   obtain rfl:ac=ev:=(by injection e391)
   replace bb:=cW HB bb
   replace bc:=cW HB bc
   replace bf:=cW HB bf
   replace bg:=cW HB bg
   replace bh:=cW HB bh
   replace bi:=cW HB bi
   replace bj:=cW HB bj
   replace bk:=cW HB bk
   replace cz:=eq_true cz
   replace cA:=eq_true cA
   refine start_ (n:=27) (S:=fun w'=>w'.cell? ⟨ai,0,none⟩=some (.bool true)∧w'.cell? ⟨ai,1,none⟩=some (.slice (some ac) ab.length bl)∧w'.cell? ⟨ai,2,none⟩=some (.slice bs af.length bm)∧w'.cell? ⟨ai,3,none⟩=some (.slice bn ag.length bo)∧w'.cell? (ac.add ((aa).toNat * 8))=some (.string ((rd_T56 ab aa).f0))∧w'.cell? ⟨(ac.add ((aa).toNat * 8)).block,(ac.add ((aa).toNat * 8)).off+1,none⟩=some (.int .i64 ((rd_T56 ab aa).f1.f0))∧w'.cell? ⟨(ac.add ((aa).toNat * 8)).block,(ac.add ((aa).toNat * 8)).off+2,none⟩=some (.float .f64 ((rd_T56 ab aa).f1.f1))∧w'.cell? ⟨(ac.add ((aa).toNat * 8)).block,(ac.add ((aa).toNat * 8)).off+3,none⟩=some (.string ((rd_T56 ab aa).f1.f2))∧w'.cell? ⟨(ac.add ((aa).toNat * 8)).block,(ac.add ((aa).toNat * 8)).off+4,none⟩=some (.int .i64 ((rd_T56 ab aa).f2))∧w'.cell? ⟨(ac.add ((aa).toNat * 8)).block,(ac.add ((aa).toNat * 8)).off+5,none⟩=some (.int .i64 ((rd_T56 ab aa).f3.f0))∧w'.cell? ⟨(ac.add ((aa).toNat * 8)).block,(ac.add ((aa).toNat * 8)).off+6,none⟩=some (.float .f64 ((rd_T56 ab aa).f3.f1))∧w'.cell? ⟨(ac.add ((aa).toNat * 8)).block,(ac.add ((aa).toNat * 8)).off+7,none⟩=some (.string ((rd_T56 ab aa).f3.f2))∧w'.cell? (ac.add ((aa).toNat * 8))=some (.string ((rd_T56 ab aa).f0))∧w'.cell? ⟨(ac.add ((aa).toNat * 8)).block,(ac.add ((aa).toNat * 8)).off+1,none⟩=some (.int .i64 ((rd_T56 ab aa).f1.f0))∧w'.cell? ⟨(ac.add ((aa).toNat * 8)).block,(ac.add ((aa).toNat * 8)).off+2,none⟩=some (.float .f64 ((rd_T56 ab aa).f1.f1))∧w'.cell? ⟨(ac.add ((aa).toNat * 8)).block,(ac.add ((aa).toNat * 8)).off+3,none⟩=some (.string ((rd_T56 ab aa).f1.f2))∧w'.cell? ⟨(ac.add ((aa).toNat * 8)).block,(ac.add ((aa).toNat * 8)).off+4,none⟩=some (.int .i64 ((rd_T56 ab aa).f2))∧w'.cell? ⟨(ac.add ((aa).toNat * 8)).block,(ac.add ((aa).toNat * 8)).off+5,none⟩=some (.int .i64 ((rd_T56 ab aa).f3.f0))∧w'.cell? ⟨(ac.add ((aa).toNat * 8)).block,(ac.add ((aa).toNat * 8)).off+6,none⟩=some (.float .f64 ((rd_T56 ab aa).f3.f1))∧w'.cell? ⟨(ac.add ((aa).toNat * 8)).block,(ac.add ((aa).toNat * 8)).off+7,none⟩=some (.string ((rd_T56 ab aa).f3.f2))∧w'.cell? (ac.add (((ji10)).toNat * 8))=some (.string ((rd_T56 ab (ji10)).f0))∧w'.cell? ⟨(ac.add (((ji10)).toNat * 8)).block,(ac.add (((ji10)).toNat * 8)).off+1,none⟩=some (.int .i64 ((rd_T56 ab (ji10)).f1.f0))∧w'.cell? ⟨(ac.add (((ji10)).toNat * 8)).block,(ac.add (((ji10)).toNat * 8)).off+2,none⟩=some (.float .f64 ((rd_T56 ab (ji10)).f1.f1))∧w'.cell? ⟨(ac.add (((ji10)).toNat * 8)).block,(ac.add (((ji10)).toNat * 8)).off+3,none⟩=some (.string ((rd_T56 ab (ji10)).f1.f2))∧w'.cell? ⟨(ac.add (((ji10)).toNat * 8)).block,(ac.add (((ji10)).toNat * 8)).off+4,none⟩=some (.int .i64 ((rd_T56 ab (ji10)).f2))∧w'.cell? ⟨(ac.add (((ji10)).toNat * 8)).block,(ac.add (((ji10)).toNat * 8)).off+5,none⟩=some (.int .i64 ((rd_T56 ab (ji10)).f3.f0))∧w'.cell? ⟨(ac.add (((ji10)).toNat * 8)).block,(ac.add (((ji10)).toNat * 8)).off+6,none⟩=some (.float .f64 ((rd_T56 ab (ji10)).f3.f1))∧w'.cell? ⟨(ac.add (((ji10)).toNat * 8)).block,(ac.add (((ji10)).toNat * 8)).off+7,none⟩=some (.string ((rd_T56 ab (ji10)).f3.f2))) (ds:=[]) #[false,false,false,false,false,false,false,false,false,false,false,false,false,false,false,false,false,false,false,false,false,false,false,false,false,false,false] (by kernel_rfl) rfl rfl (bn4 ae ⟨(cW HB aH),(cW HB aG),(cW HB aE),(cW HB aD),(cW HB aC),(cW HB aA),(cW HB az),(cW HB ay),(cW HB b8),(cW HB bY),(cW HB bX),(cW HB bU),(cW HB bO),(cW HB bN),(cW HB bM),(cW HB bJ),(cW HB cj),(cW HB ch),(cW HB cg),(cW HB cf),(cW HB cd),(cW HB cb),(cW HB ca),(cW HB b9)⟩) (fun hHeld=>?_);refine with_tabW engrossref10_MayNode.tab5 engrossref10_MayNode.bits5 (fun HT_ HW_=>?_)
   generalize wr.drew=w18 at ae HB aj ak al am ao ap aq ar aT aU aV aW aX aY aZ ba bb bc bf bg bh bi bj bk hHeld ⊢
   refine pA 0 15 HT_ ?_
   refine pA 2 17 HT_ ?_
   refine tA 1 16 HT_ HW_ hHeld ?_ (hy:=by rintro w' ⟨s0,s1,s2,s3,s4,s5,s6,s7,s8,s9,s10,s11,s12,s13,s14,s15,s16,s17,s18,s19,s20,s21,s22,s23,s24,s25,s26,s27⟩;go_simp;with_reducible rfl)
   refine pA 3 18 HT_ ?_
   refine tA 4 19 HT_ HW_ hHeld ?_ (hy:=by rintro w' ⟨s0,s1,s2,s3,s4,s5,s6,s7,s8,s9,s10,s11,s12,s13,s14,s15,s16,s17,s18,s19,s20,s21,s22,s23,s24,s25,s26,s27⟩;go_simp;with_reducible rfl)
   refine oA 5 (some 20) HT_ (fun K hK=>?_)
   refine goes_ Try.func31 (by kernel_rfl) rfl #[.agg #[.string ((rd_T56 ab aa).f0),.int .i64 ((rd_T56 ab aa).f1.f0),.float .f64 ((rd_T56 ab aa).f1.f1),.string ((rd_T56 ab aa).f1.f2),.int .i64 ((rd_T56 ab aa).f2),.int .i64 ((rd_T56 ab aa).f3.f0),.float .f64 ((rd_T56 ab aa).f3.f1),.string ((rd_T56 ab aa).f3.f2)]] (by rfl) rfl rfl (by (try simp only [List.map_toArray,List.map_cons,List.map_nil]);first|done|rfl|(simp only [List.length_drop,List.length_take];rfl)) ?_
   with_reducible refine (engrossref10_May.calls ((rd_T56 ab aa).f0) ((rd_T56 ab aa).f1.f0) ((rd_T56 ab aa).f1.f1) ((rd_T56 ab aa).f1.f2) ((rd_T56 ab aa).f2) ((rd_T56 ab aa).f3.f0) ((rd_T56 ab aa).f3.f1) ((rd_T56 ab aa).f3.f2) true _ A7.out).mono ?_
   rintro e w19 ⟨rfl,hb⟩
   refine⟨_,rfl,?_⟩
   replace ae:=bB ae hb
   replace HB:=bW HB hb
   (try clear hb)
   (try clear hb2)
   (try clear hk)
   (try clear hi)
   refine hK.out _ _ (bn4 ae ⟨(cW HB aH),(cW HB aG),(cW HB aE),(cW HB aD),(cW HB aC),(cW HB aA),(cW HB az),(cW HB ay),(cW HB b8),(cW HB bY),(cW HB bX),(cW HB bU),(cW HB bO),(cW HB bN),(cW HB bM),(cW HB bJ),(cW HB cj),(cW HB ch),(cW HB cg),(cW HB cf),(cW HB cd),(cW HB cb),(cW HB ca),(cW HB b9)⟩) (fun hHeld=>?_)
   clear hK K
   refine norm_ (a':=?_) ?_ ?_
   rotate_left
   ·show Act.put _ (some 20) _=_
    simp only [Act.put,List.setIfInBounds_toArray,List.set_cons_zero,List.set_cons_succ,i64_w,i32_w]
    rfl
   refine pA 6 21 HT_ ?_
   refine pA 7 22 HT_ ?_
   refine pA 8 23 HT_ ?_
   refine pA 9 24 HT_ ?_
   refine pA 10 25 HT_ ?_
   refine pA 11 26 HT_ ?_
   refine pA 13 28 HT_ ?_
   refine pA 17 32 HT_ ?_
   refine pA 19 34 HT_ ?_
   refine pA 20 35 HT_ ?_
   refine tA 12 27 HT_ HW_ hHeld ?_ (hy:=by rintro w' ⟨s0,s1,s2,s3,s4,s5,s6,s7,s8,s9,s10,s11,s12,s13,s14,s15,s16,s17,s18,s19,s20,s21,s22,s23,s24,s25,s26,s27⟩;go_simp;with_reducible rfl)
   refine pA 14 29 HT_ ?_
   refine pA 15 30 HT_ ?_
   refine tA 16 31 HT_ HW_ hHeld ?_ (hy:=by rintro w' ⟨s0,s1,s2,s3,s4,s5,s6,s7,s8,s9,s10,s11,s12,s13,s14,s15,s16,s17,s18,s19,s20,s21,s22,s23,s24,s25,s26,s27⟩;go_simp;with_reducible rfl)
   refine tA 18 33 HT_ HW_ hHeld ?_ (hy:=by rintro w' ⟨s0,s1,s2,s3,s4,s5,s6,s7,s8,s9,s10,s11,s12,s13,s14,s15,s16,s17,s18,s19,s20,s21,s22,s23,s24,s25,s26,s27⟩;go_simp;with_reducible rfl)
   refine pA 21 36 HT_ ?_
   refine pA 22 37 HT_ ?_
   refine tA 23 38 HT_ HW_ hHeld ?_ (hy:=by rintro w' ⟨s0,s1,s2,s3,s4,s5,s6,s7,s8,s9,s10,s11,s12,s13,s14,s15,s16,s17,s18,s19,s20,s21,s22,s23,s24,s25,s26,s27⟩;go_simp;with_reducible rfl)
   refine pA 24 39 HT_ ?_
   refine pA 25 40 HT_ ?_
   refine pA 26 41 HT_ ?_
   refine done_ (done_of HT_.out (by kernel_rfl)) ?_
   try go_wp2
   go_ret
   exact⟨by first|rfl|(simp [errW_none,errW_some] <;> rfl)|(simp only [← hji10];first|rfl|(simp [errW_none,errW_some] <;> rfl))|(simp [*,errW_none,errW_some] <;> rfl),by repeat (first|(with_reducible first|exact HB.out|apply below_alloc|apply pw_below_drewN|apply below_drew1|refine below_set ?_ ej.out)|exact HB.out)⟩
end Go.Proofs.Ytmmjpieafbjggaa.P
end
section
namespace Go.Proofs.Ytmmjpieafbjggaa.P
open Go.RowKit Go.Proofs.YtmmjpieafbjggaaW.PrintWords Go.Proofs.YtmmjpieafbjggaaW.PrintLast Go.Proofs.YtmmjpieafbjggaaW.PrintMore
attribute [local go_sem] max2_int min2_int max_two min_two max_three min_three max_four min_four   -- for this text's walks alone
attribute [local go_sem] x_str_gtr x_str_leq x_str_geq ext_bits ext_frombits ext_neg x_store_float Instr.field asAgg
set_option linter.unusedVariables false
set_option linter.unusedSimpArgs false
mutual
def engrossref1_Put.j0:Nat→Int→Option (List Int)
 | 0,_=>none
 | k+1,x3=>engrossref1_Put.l0 k x3 ([]:List Int)
def engrossref1_Put.l0:Nat→Int→List Int→Option (List Int)
 | 0,_,_=>none
 | k+1,x3,x4=>if x3≥128 then (if x4.length<140737488355328 then (engrossref1_Put.l0 k (IntKind.u64.wrap (Int.tdiv x3 128)) (x4++[(IntKind.u64.wrap ((Int.tmod x3 128)+128)) % 256])) else (none)) else (if x4.length<140737488355328 then (some (x4++[(x3) % 256])) else (none))
end
def engrossref1_Put.f (k:Nat) (a0:Int):Option (List Int):=if a0<0 then (engrossref1_Put.j0 k (Go.bits .xor .u64 18446744073709551615 (IntKind.u64.wrap ((IntKind.u64.wrap (a0)) * 2)))) else (engrossref1_Put.j0 k (IntKind.u64.wrap ((IntKind.u64.wrap (a0)) * 2)))
set_option maxHeartbeats 8000000 in
set_option maxRecDepth 100000 in
theorem engrossref1_Put.calls (k:Nat) (a0:Int) (r:List Int) (w:World) (h:engrossref1_Put.f k a0=some r) :
  Calls Try.prog 28 #[.int .i64 a0] w fun e w'=>∃ v0_:Value,e = .returned (v0_)∧Kd.R (Kd.int .u8) 5 w' w.heap.size (fun _=>True) v0_ r∧Below w.heap.size w w':=by
 have HB:=aK (Below.refl w.heap.size w)
 have H:(if a0<0 then (engrossref1_Put.j0 k (Go.bits .xor .u64 18446744073709551615 (IntKind.u64.wrap ((IntKind.u64.wrap (a0)) * 2)))) else (engrossref1_Put.j0 k (IntKind.u64.wrap ((IntKind.u64.wrap (a0)) * 2))))=some r:=h
 clear h
 have HC2:=aK H
 clear H
 go_enter Try.func28,Try.ntmps28
 go_upto_if 9 with (fail)
 go_cut [3] (fun v3 wc=>∃ (kq:Nat) (ae:Int),v3 = .int .u64 ae∧Aside0 (engrossref1_Put.j0 kq ae=some r)∧Aside0 (kq≤k)∧Aside0 (Below w.heap.size w wc))
 case first =>
  have H:=HC2.out
  clear HC2
  by_cases c3:a0<0
  rotate_left
  ·rw [if_neg c3] at H
   have ac:decide (a0<0)=false:=decide_eq_false c3
   clear c3
   (first|rw [ac]|(simp only [i64_w,i32_w];rw [ac])|skip)
   have H':=aK H
   clear H
   go_wp2
   go_meet
   case rel=>exact⟨_,(IntKind.u64.wrap ((IntKind.u64.wrap (a0)) * 2)),(by first|rfl|(simp;done)|(simp [*];done)),H',⟨by first|omega|exact Nat.le_refl _⟩,bV HB⟩
  rw [if_pos c3] at H
  have ac:decide (a0<0)=true:=decide_eq_true c3
  clear c3
  (first|rw [ac]|(simp only [i64_w,i32_w];rw [ac])|skip)
  have H':=aK H
  clear H
  go_wp2
  go_meet
  case rel=>exact⟨_,(Go.bits .xor .u64 18446744073709551615 (IntKind.u64.wrap ((IntKind.u64.wrap (a0)) * 2))),(by first|rfl|(simp;done)|(simp [*];done)),H',⟨by first|omega|exact Nat.le_refl _⟩,bV HB⟩
 case rest =>
  clear HC2
  try clear c2
  try clear p2
  try clear c3
  try clear ac
  obtain⟨kq,ae,rfl,HA,HJ1,HB⟩:=hcut
  cases kq with
  | zero=>exact absurd HA.out (by simp [engrossref1_Put.j0])
  | succ kj1 =>
   have H:=HA.out
   clear HA
   simp only [engrossref1_Put.j0] at H
   have H':=aK H
   clear H
   go_wp2
   go_loopg [3,4] kj1 (fun kq v3 v4 w'=>∃ (aa:Int) (ab:List Int),v3 = .int .u64 aa∧Aside0 (engrossref1_Put.l0 kq aa ab=some r)∧Aside0 (kq≤kj1)∧Aside0 (Kd.R (Kd.int .u8) 5 w' w.heap.size (fun _=>True) v4 ab)∧Aside0 (Below w.heap.size w w'))
   case atStart=>exact⟨(ae),(([]:List Int)),(by first|rfl|(simp;done)|(simp [*];done)),H',⟨Nat.le_refl _⟩,⟨by first|exact Kd.R_nil _ _ _ _ _|exact Kd.N_nil _ _ _ _ _|exact Kd.V_nil _ _ _ _ _|exact Kd.Q_nil _ _ _ _ _|exact Kd.S_nil _ _ _ _ _⟩,bV HB⟩
   case round =>
    clear H'
    try clear c2
    try clear p2
    try clear c3
    try clear ac
    try clear p2
    obtain⟨aa,ab,rfl,HA,HK2,af,HB⟩:=hrel
    cases gk with
    | zero=>exact absurd HA.out (by simp [engrossref1_Put.l0])
    | succ k2 =>
     have H:=HA.out
     clear HA
     simp only [engrossref1_Put.l0] at H
     by_cases c4:aa≥128
     rotate_left
     ·rw [if_neg c4] at H
      have aj:decide (128≤aa)=false:=decide_eq_false c4
      clear c4
      by_cases c7:ab.length<140737488355328
      rotate_left
      ·rw [if_neg c7] at H
       exact absurd H (by simp)
      rw [if_pos c7] at H
      have LMc7:=aK c7
      clear c7
      obtain⟨ak,hy401⟩:∃ y_:List Int,y_=(ab++[(aa) % 256]):=⟨_,rfl⟩
      replace H:(some ak)=some r:=by first|(rw [hy401];with_reducible exact H)|(have H2_:=(Option.bind_some _ _).symm.trans H;rw [hy401];with_reducible exact H2_)|(have H2_:=(Option.bind_some _ _).symm.trans H;with_reducible exact H2_)|with_reducible exact H|(rw [hy401];exact H)|exact H
      have Ny401:=aK hy401
      clear hy401
      obtain rfl:=Option.some.inj H
      go_wp2_with (first|((with_reducible refine gate_builtin (b:=.append) (xs:=#[.tmp 23,.tmp 26]) rfl ?_);at_builtin;refine Kd.R_append (Kd.int .u8) (w0:=w) w.heap.size rfl (.tmp 23) (.tmp 26) 30 5 (.int .u8 0) 1 rfl Try.underlying30 info5 rfl (by decide) (by omega) u4 ab ((aa) % 256) [.int .u8 ((aa) % 256)] (fun _=>True) (fun _=>False) rfl rfl ?aP (fun _ hk=>hk.elim) ?aF ?aO ?aB ?aS ?aL ?_;(case aP=>exact rfl);(case aB=>exact (bC HB));(case aF=>exact (fun _ _=>trivial));(case aO=>exact (by (with_reducible repeat (first|apply Kd.R_alloc|apply Kd.R_drewN|apply Kd.R_drew));exact af.out));(case aS=>exact (below_size (bC HB)));(case aL=>have:=LMc7.out;omega);intro al w8 ho hb hg hat;rw [← Ny401.out] at ho;have ah:=aK (ho);replace HB:=aK (hb);clear af;clear ho hb hg hat))
      go_ret
      exact⟨_,by first|rfl|(simp [errW_none,errW_some] <;> rfl)|(simp [*,errW_none,errW_some] <;> rfl),by (with_reducible repeat (first|apply Kd.R_alloc|apply Kd.R_drewN|apply Kd.R_drew));exact ah.out,by repeat (first|(with_reducible first|exact HB.out|apply below_alloc|apply pw_below_drewN|apply below_drew1)|exact HB.out)⟩
     rw [if_pos c4] at H
     have aj:decide (128≤aa)=true:=decide_eq_true c4
     clear c4
     by_cases c5:ab.length<140737488355328
     rotate_left
     ·rw [if_neg c5] at H
      exact absurd H (by simp)
     rw [if_pos c5] at H
     have LMc5:=aK c5
     clear c5
     obtain⟨ag,hy398⟩:∃ y_:List Int,y_=(ab++[(IntKind.u64.wrap ((Int.tmod aa 128)+128)) % 256]):=⟨_,rfl⟩
     replace H:(engrossref1_Put.l0 k2 (IntKind.u64.wrap (Int.tdiv aa 128)) ag)=some r:=by first|(rw [hy398];with_reducible exact H)|(have H2_:=(Option.bind_some _ _).symm.trans H;rw [hy398];with_reducible exact H2_)|(have H2_:=(Option.bind_some _ _).symm.trans H;with_reducible exact H2_)|with_reducible exact H|(rw [hy398];exact H)|exact H
     have Ny398:=aK hy398
     clear hy398
     have H':=aK H
     clear H
     go_wp2_with (first|((with_reducible refine gate_builtin (b:=.append) (xs:=#[.tmp 14,.tmp 19]) rfl ?_);at_builtin;refine Kd.R_append (Kd.int .u8) (w0:=w) w.heap.size rfl (.tmp 14) (.tmp 19) 30 5 (.int .u8 0) 1 rfl Try.underlying30 info5 rfl (by decide) (by omega) u4 ab ((IntKind.u64.wrap ((Int.tmod aa 128)+128)) % 256) [.int .u8 ((IntKind.u64.wrap ((Int.tmod aa 128)+128)) % 256)] (fun _=>True) (fun _=>False) rfl rfl ?aP (fun _ hk=>hk.elim) ?aF ?aO ?aB ?aS ?aL ?_;(case aP=>exact rfl);(case aB=>exact (bC HB));(case aF=>exact (fun _ _=>trivial));(case aO=>exact (by (with_reducible repeat (first|apply Kd.R_alloc|apply Kd.R_drewN|apply Kd.R_drew));exact af.out));(case aS=>exact (below_size (bC HB)));(case aL=>have:=LMc5.out;omega);intro am w6 ho hb hg hat;rw [← Ny398.out] at ho;have ai:=aK (ho);replace HB:=aK (hb);clear af;clear ho hb hg hat))
     go_roundg k2
     case measure=>have:=HJ1.out;have:=HK2.out;omega
     case rel=>exact⟨(IntKind.u64.wrap (Int.tdiv aa 128)),(ag),(by first|rfl|(simp;done)|(simp [*];done)),H',⟨by have:=HJ1.out;have:=HK2.out;omega⟩,⟨by (with_reducible repeat (first|apply Kd.R_alloc|apply Kd.R_drewN|apply Kd.R_drew));exact ai.out⟩,bV HB⟩
def engrossref1_PutText.f (k:Nat) (a0:ByteArray):Option (List Int):=(engrossref1_Put.f k (a0.size:Int)).bind fun t404=>(if t404.length+a0.size<140737488355328 then (some (t404++bytesOf a0)) else (none))
set_option maxHeartbeats 8000000 in
set_option maxRecDepth 100000 in
theorem engrossref1_PutText.calls (k:Nat) (a0:ByteArray) (r:List Int) (w:World) (h:engrossref1_PutText.f k a0=some r) :
  Calls Try.prog 30 #[.string a0] w fun e w'=>∃ v0_:Value,e = .returned (v0_)∧Kd.R (Kd.int .u8) 5 w' w.heap.size (fun _=>True) v0_ r∧Below w.heap.size w w':=by
 have HB:=aK (Below.refl w.heap.size w)
 have H:((engrossref1_Put.f k (a0.size:Int)).bind fun aa=>(if aa.length+a0.size<140737488355328 then (some (aa++bytesOf a0)) else (none)))=some r:=h
 clear h
 replace H:=oS H
 obtain⟨aa,A20,H⟩:=H
 replace H:(if aa.length+a0.size<140737488355328 then (some (aa++bytesOf a0)) else (none))=some r:=H
 have A2:=aK A20
 clear A20
 by_cases c3:aa.length+a0.size<140737488355328
 rotate_left
 ·rw [if_neg c3] at H
  exact absurd H (by simp)
 rw [if_pos c3] at H
 have LMc3:=aK c3
 clear c3
 obtain⟨ae,hy407⟩:∃ y_:List Int,y_=(aa++bytesOf a0):=⟨_,rfl⟩
 replace H:(some ae)=some r:=by first|(rw [hy407];with_reducible exact H)|(have H2_:=(Option.bind_some _ _).symm.trans H;rw [hy407];with_reducible exact H2_)|(have H2_:=(Option.bind_some _ _).symm.trans H;with_reducible exact H2_)|with_reducible exact H|(rw [hy407];exact H)|exact H
 have Ny407:=aK hy407
 clear hy407
 obtain rfl:=Option.some.inj H
 go_enter Try.func30,Try.ntmps30
 go_wp2_with (first|((with_reducible refine gate_callee (f:=28) rfl ?_);refine gL (some 5) Try.func28 #[.int .i64 (a0.size:Int)] ?_;(with_reducible refine (engrossref1_Put.calls k (a0.size:Int) aa _ A2.out).mono ?_);rintro e w4 ⟨af,rfl,ho0,hb⟩;refine⟨_,rfl,?_⟩;have ab:=aK (Kd.R_lower ho0 (below_size (bC HB)));replace HB:=bW HB hb;(try clear hb);(try clear hb2);(try clear hk);(try clear hi);(try clear ho0))|(at_builtin;refine Kd.x_append_str (w0:=w) w.heap.size rfl (.tmp 5) _ 30 9 5 rfl Try.underlying30 Try.underlying9 info5 af aa a0 (fun _=>True) rfl rfl ?aO ?aF ?aB ?aS ?aL ?_;(case aB=>exact (bC HB));(case aF=>exact (fun _ _=>trivial));(case aO=>exact (by (with_reducible repeat (first|apply Kd.R_alloc|apply Kd.R_drewN|apply Kd.R_drew));exact ab.out));(case aS=>exact (below_size (bC HB)));(case aL=>have:=LMc3.out;omega);intro ag w5 ho hb hg hat;rw [← Ny407.out] at ho;have ac:=aK (ho);replace HB:=aK (hb);clear ab;clear ho hb hg hat))
 go_ret
 exact⟨_,by first|rfl|(simp [errW_none,errW_some] <;> rfl)|(simp [*,errW_none,errW_some] <;> rfl),by (with_reducible repeat (first|apply Kd.R_alloc|apply Kd.R_drewN|apply Kd.R_drew));exact ac.out,by repeat (first|(with_reducible first|exact HB.out|apply below_alloc|apply pw_below_drewN|apply below_drew1)|exact HB.out)⟩
def engrossref1_Place.f (a0:Nat):Option (Int):=(engrossref1_NaN.f a0).bind fun t410=>(if t410=true then (some (-9223372036854775808)) else (if (((a0:Nat):Int) / 9223372036854775808)=1 then (some (wrap64 ((wrap64 (-(wrap64 (Go.bits .and .u64 ((a0:Nat):Int) 9223372036854775807)))) - 1))) else (some (wrap64 (((a0:Nat):Int))))))
set_option maxHeartbeats 8000000 in
set_option maxRecDepth 100000 in
theorem engrossref1_Place.calls (a0:Nat) (r:Int) (w:World) (h:engrossref1_Place.f a0=some r) :
  Calls Try.prog 68 #[.float .f64 a0] w fun e w'=>e = .returned (.int .i64 r)∧Drawn0 w w':=by
 have H:((engrossref1_NaN.f a0).bind fun aa=>(if aa=true then (some (-9223372036854775808)) else (if (((a0:Nat):Int) / 9223372036854775808)=1 then (some (wrap64 ((wrap64 (-(wrap64 (Go.bits .and .u64 ((a0:Nat):Int) 9223372036854775807)))) - 1))) else (some (wrap64 (((a0:Nat):Int)))))))=some r:=h
 clear h
 replace H:=oS H
 obtain⟨aa,A20,H⟩:=H
 replace H:(if aa=true then (some (-9223372036854775808)) else (if (((a0:Nat):Int) / 9223372036854775808)=1 then (some (wrap64 ((wrap64 (-(wrap64 (Go.bits .and .u64 ((a0:Nat):Int) 9223372036854775807)))) - 1))) else (some (wrap64 (((a0:Nat):Int))))))=some r:=H
 have A2:=aK A20
 clear A20
 by_cases c3:aa=true
 ·subst c3
  have H1:(some (-9223372036854775808))=some r:=by rw [if_pos rfl] at H;exact H
  clear H
  have H:=H1
  clear H1
  obtain rfl:=Option.some.inj H
  go_enter Try.func68,Try.ntmps68
  go_wp2_with (first|((with_reducible refine gate_callee (f:=69) rfl ?_);refine gL (some 5) Try.func69 #[.float .f64 a0] ?_;(with_reducible refine (engrossref1_NaN.calls a0 true _ A2.out).mono ?_);rintro e w' ⟨rfl,⟨nd,rfl⟩⟩;refine⟨_,rfl,?_⟩))
  go_ret
  exact⟨by first|rfl|(simp;done)|(simp [*];done),by repeat (first|exact Drawn0.refl _|apply Drawn0.step)⟩
 replace c3:=Bool.eq_false_iff.mpr c3
 subst c3
 have H1:(if (((a0:Nat):Int) / 9223372036854775808)=1 then (some (wrap64 ((wrap64 (-(wrap64 (Go.bits .and .u64 ((a0:Nat):Int) 9223372036854775807)))) - 1))) else (some (wrap64 (((a0:Nat):Int)))))=some r:=by rw [if_neg (show ¬ (false=true) by decide)] at H;exact H
 clear H
 have H:=H1
 clear H1
 by_cases c4:(((a0:Nat):Int) / 9223372036854775808)=1
 rotate_left
 ·rw [if_neg c4] at H
  have ab:((((a0:Nat):Int) / 9223372036854775808) == 1)=false:=beq_eq_false_iff_ne.mpr c4
  have ac:((((a0:Nat):Int) / 9223372036854775808) != 1)=true:=bne_iff_ne.mpr c4
  obtain rfl:=Option.some.inj H
  go_enter Try.func68,Try.ntmps68
  go_wp2_with (first|((with_reducible refine gate_callee (f:=69) rfl ?_);refine gL (some 5) Try.func69 #[.float .f64 a0] ?_;(with_reducible refine (engrossref1_NaN.calls a0 false _ A2.out).mono ?_);rintro e w' ⟨rfl,⟨nd,rfl⟩⟩;refine⟨_,rfl,?_⟩))
  go_ret
  exact⟨by first|rfl|(simp;done)|(simp [*];done),by repeat (first|exact Drawn0.refl _|apply Drawn0.step)⟩
 rw [if_pos c4] at H
 have ab:((((a0:Nat):Int) / 9223372036854775808) == 1)=true:=beq_iff_eq.mpr c4
 have ac:((((a0:Nat):Int) / 9223372036854775808) != 1)=false:=bne_eq_false_iff_eq.mpr c4
 clear c4
 obtain rfl:=Option.some.inj H
 go_enter Try.func68,Try.ntmps68
 go_wp2_with (first|((with_reducible refine gate_callee (f:=69) rfl ?_);refine gL (some 5) Try.func69 #[.float .f64 a0] ?_;(with_reducible refine (engrossref1_NaN.calls a0 false _ A2.out).mono ?_);rintro e w' ⟨rfl,⟨nd,rfl⟩⟩;refine⟨_,rfl,?_⟩))
 go_ret
 exact⟨by first|rfl|(simp;done)|(simp [*];done),by repeat (first|exact Drawn0.refl _|apply Drawn0.step)⟩
mutual
def engrossref1_FloatBytes.j0:Nat→Int→Option (List Int)
 | 0,_=>none
 | k+1,x3=>engrossref1_FloatBytes.l0 k x3 ([]:List Int) 56
def engrossref1_FloatBytes.l0:Nat→Int→List Int→Int→Option (List Int)
 | 0,_,_,_=>none
 | k+1,x3,x4,x5=>if x5≥0 then (if 0≤(IntKind.u64.wrap (x5)) then (if x4.length<140737488355328 then (engrossref1_FloatBytes.l0 k x3 (x4++[(shr .u64 x3 (IntKind.u64.wrap (x5))) % 256]) (wrap64 (x5 - 8))) else (none)) else (none)) else (some x4)
end
def engrossref1_FloatBytes.f (k:Nat) (a0:Nat):Option (List Int):=(engrossref1_Place.f a0).bind fun t411=>((engrossref1_NaN.f a0).bind fun t412=>(if t412=true then (engrossref1_FloatBytes.j0 k 0) else (engrossref1_FloatBytes.j0 k (IntKind.u64.wrap ((IntKind.u64.wrap (t411))+9223372036854775808)))))
set_option maxHeartbeats 8000000 in
set_option maxRecDepth 100000 in
theorem engrossref1_FloatBytes.calls (k:Nat) (a0:Nat) (r:List Int) (w:World) (h:engrossref1_FloatBytes.f k a0=some r) :
  Calls Try.prog 58 #[.float .f64 a0] w fun e w'=>∃ v0_:Value,e = .returned (v0_)∧Kd.R (Kd.int .u8) 5 w' w.heap.size (fun _=>True) v0_ r∧Below w.heap.size w w':=by
 have HB:=aK (Below.refl w.heap.size w)
 have H:((engrossref1_Place.f a0).bind fun ae=>((engrossref1_NaN.f a0).bind fun af=>(if af=true then (engrossref1_FloatBytes.j0 k 0) else (engrossref1_FloatBytes.j0 k (IntKind.u64.wrap ((IntKind.u64.wrap (ae))+9223372036854775808))))))=some r:=h
 clear h
 replace H:=oS H
 obtain⟨ae,A20,H⟩:=H
 replace H:((engrossref1_NaN.f a0).bind fun af=>(if af=true then (engrossref1_FloatBytes.j0 k 0) else (engrossref1_FloatBytes.j0 k (IntKind.u64.wrap ((IntKind.u64.wrap (ae))+9223372036854775808)))))=some r:=H
 have A2:=aK A20
 clear A20
 replace H:=oS H
 obtain⟨af,A30,H⟩:=H
 replace H:(if af=true then (engrossref1_FloatBytes.j0 k 0) else (engrossref1_FloatBytes.j0 k (IntKind.u64.wrap ((IntKind.u64.wrap (ae))+9223372036854775808))))=some r:=H
 have A3:=aK A30
 clear A30
 have HC4:=aK H
 clear H
 go_enter Try.func58,Try.ntmps58
 go_upto_if 11 with (first|((with_reducible refine gate_callee (f:=68) rfl ?_);refine gL (some 7) Try.func68 #[.float .f64 a0] ?_;(with_reducible refine (engrossref1_Place.calls a0 ae _ A2.out).mono ?_);rintro e w' ⟨rfl,⟨nd,rfl⟩⟩;refine⟨_,rfl,?_⟩)|((with_reducible refine gate_callee (f:=69) rfl ?_);refine gL (some 11) Try.func69 #[.float .f64 a0] ?_;(with_reducible refine (engrossref1_NaN.calls a0 af _ A3.out).mono ?_);rintro e w' ⟨rfl,⟨nd,rfl⟩⟩;refine⟨_,rfl,?_⟩))
 (try simp only [Act.put,List.setIfInBounds_toArray,List.set_cons_zero,List.set_cons_succ])
 go_cut [3] (fun v3 wc=>∃ (kq:Nat) (aa:Int),v3 = .int .u64 aa∧Aside0 (engrossref1_FloatBytes.j0 kq aa=some r)∧Aside0 (kq≤k)∧Aside0 (Below w.heap.size w wc))
 case first =>
  have H:=HC4.out
  clear HC4
  by_cases c5:af=true
  ·subst c5
   have H1:(engrossref1_FloatBytes.j0 k 0)=some r:=by rw [if_pos rfl] at H;exact H
   clear H
   have H:=H1
   clear H1
   have H':=aK H
   clear H
   go_wp2
   go_meet
   case rel=>exact⟨_,(0),(by first|rfl|(simp;done)|(simp [*];done)),H',⟨by first|omega|exact Nat.le_refl _⟩,bV HB⟩
  replace c5:=Bool.eq_false_iff.mpr c5
  subst c5
  have H1:(engrossref1_FloatBytes.j0 k (IntKind.u64.wrap ((IntKind.u64.wrap (ae))+9223372036854775808)))=some r:=by rw [if_neg (show ¬ (false=true) by decide)] at H;exact H
  clear H
  have H:=H1
  clear H1
  have H':=aK H
  clear H
  go_wp2
  go_meet
  case rel=>exact⟨_,(IntKind.u64.wrap ((IntKind.u64.wrap (ae))+9223372036854775808)),(by first|rfl|(simp;done)|(simp [*];done)),H',⟨by first|omega|exact Nat.le_refl _⟩,bV HB⟩
 case rest =>
  clear HC4
  try clear p2
  try clear c5
  obtain⟨kq,aa,rfl,HA,HJ3,HB⟩:=hcut
  cases kq with
  | zero=>exact absurd HA.out (by simp [engrossref1_FloatBytes.j0])
  | succ kj3 =>
   have H:=HA.out
   clear HA
   simp only [engrossref1_FloatBytes.j0] at H
   have H':=aK H
   clear H
   go_wp2
   go_loopg [4,5] kj3 (fun kq v4 v5 w'=>∃ (ac:List Int) (ab:Int),v5 = .int .i64 ab∧Aside0 (engrossref1_FloatBytes.l0 kq aa ac ab=some r)∧Aside0 (kq≤kj3)∧Aside0 (Kd.R (Kd.int .u8) 5 w' w.heap.size (fun _=>True) v4 ac)∧Aside0 (Below w.heap.size w w'))
   case atStart=>exact⟨(([]:List Int)),(56),(by first|rfl|(simp;done)|(simp [*];done)),H',⟨Nat.le_refl _⟩,⟨by first|exact Kd.R_nil _ _ _ _ _|exact Kd.N_nil _ _ _ _ _|exact Kd.V_nil _ _ _ _ _|exact Kd.Q_nil _ _ _ _ _|exact Kd.S_nil _ _ _ _ _⟩,bV HB⟩
   case round =>
    clear H'
    try clear p2
    try clear c5
    try clear p2
    obtain⟨ac,ab,rfl,HA,HK2,ag,HB⟩:=hrel
    cases gk with
    | zero=>exact absurd HA.out (by simp [engrossref1_FloatBytes.l0])
    | succ k2 =>
     have H:=HA.out
     clear HA
     simp only [engrossref1_FloatBytes.l0] at H
     by_cases c6:ab≥0
     rotate_left
     ·rw [if_neg c6] at H
      have aj:decide (0≤ab)=false:=decide_eq_false c6
      clear c6
      obtain rfl:=Option.some.inj H
      go_wp2
      go_ret
      exact⟨_,by first|rfl|(simp [errW_none,errW_some] <;> rfl)|(simp [*,errW_none,errW_some] <;> rfl),by (with_reducible repeat (first|apply Kd.R_alloc|apply Kd.R_drewN|apply Kd.R_drew));exact ag.out,by repeat (first|(with_reducible first|exact HB.out|apply below_alloc|apply pw_below_drewN|apply below_drew1)|exact HB.out)⟩
     rw [if_pos c6] at H
     have aj:decide (0≤ab)=true:=decide_eq_true c6
     clear c6
     obtain⟨ji7,hji7⟩:∃ j_:Int,(IntKind.u64.wrap (ab))=j_:=⟨_,rfl⟩
     replace H:(if 0≤(ji7) then (if ac.length<140737488355328 then (engrossref1_FloatBytes.l0 k2 aa (ac++[(shr .u64 aa (ji7)) % 256]) (wrap64 (ab - 8))) else (none)) else (none))=some r:=by first|(rw [hji7] at H;exact H)|(simp only [hji7] at H ⊢;exact H)
     by_cases c8:0≤(ji7)
     rotate_left
     ·rw [if_neg c8] at H
      exact absurd H (by simp)
     rw [if_pos c8] at H
     have ak:=eq_true c8
     have al:decide (0≤(ji7))=true:=decide_eq_true c8
     clear c8
     obtain⟨ji9,hji9⟩:∃ j_:Int,(shr .u64 aa (ji7))=j_:=⟨_,rfl⟩
     replace H:(if ac.length<140737488355328 then (engrossref1_FloatBytes.l0 k2 aa (ac++[(ji9) % 256]) (wrap64 (ab - 8))) else (none))=some r:=by first|(rw [hji9] at H;exact H)|(simp only [hji9] at H ⊢;exact H)
     have hji9_:(aa / 2 ^ min (ji7).toNat 64)=ji9:=hji9
     have hji9z:(ji7)≤64→(aa / 2 ^ (ji7).toNat)=ji9:=shr_small hji9
     by_cases c10:ac.length<140737488355328
     rotate_left
     ·rw [if_neg c10] at H
      exact absurd H (by simp)
     rw [if_pos c10] at H
     have LMc10:=aK c10
     clear c10
     obtain⟨ah,hy413⟩:∃ y_:List Int,y_=(ac++[(ji9) % 256]):=⟨_,rfl⟩
     replace H:(engrossref1_FloatBytes.l0 k2 aa ah (wrap64 (ab - 8)))=some r:=by first|(rw [hy413];with_reducible exact H)|(have H2_:=(Option.bind_some _ _).symm.trans H;rw [hy413];with_reducible exact H2_)|(have H2_:=(Option.bind_some _ _).symm.trans H;with_reducible exact H2_)|with_reducible exact H|(rw [hy413];exact H)|exact H
     have Ny413:=aK hy413
     clear hy413
     have H':=aK H
     clear H
     go_wp2_with (first|((with_reducible refine gate_builtin (b:=.append) (xs:=#[.tmp 16,.tmp 22]) rfl ?_);at_builtin;refine Kd.R_append (Kd.int .u8) (w0:=w) w.heap.size rfl (.tmp 16) (.tmp 22) 30 5 (.int .u8 0) 1 rfl Try.underlying30 info5 rfl (by decide) (by omega) u4 ac ((ji9) % 256) [.int .u8 ((ji9) % 256)] (fun _=>True) (fun _=>False) rfl rfl ?aP (fun _ hk=>hk.elim) ?aF ?aO ?aB ?aS ?aL ?_;(case aP=>exact rfl);(case aB=>exact (bC HB));(case aF=>exact (fun _ _=>trivial));(case aO=>exact (by (with_reducible repeat (first|apply Kd.R_alloc|apply Kd.R_drewN|apply Kd.R_drew));exact ag.out));(case aS=>exact (below_size (bC HB)));(case aL=>have:=LMc10.out;omega);intro am w11 ho hb hg hat;rw [← Ny413.out] at ho;have ai:=aK (ho);replace HB:=aK (hb);clear ag;clear ho hb hg hat))
     go_roundg k2
     case measure=>have:=HJ3.out;have:=HK2.out;omega
     case rel=>exact⟨(ah),(wrap64 (ab - 8)),(by first|rfl|(simp;done)|(simp [*];done)),H',⟨by have:=HJ3.out;have:=HK2.out;omega⟩,⟨by (with_reducible repeat (first|apply Kd.R_alloc|apply Kd.R_drewN|apply Kd.R_drew));exact ai.out⟩,bV HB⟩
def engrossref1_PutVal.f (k:Nat) (a0_0:Int) (a0_1:Nat) (a0_2:ByteArray):Option (List Int):=(engrossref1_Put.f k a0_0).bind fun t417=>(if a0_0=1 then ((engrossref1_FloatBytes.f k a0_1).bind fun t420=>(if t417.length+t420.length<140737488355328 then (some (t417++t420)) else (none))) else (if a0_0=2 then ((engrossref1_PutText.f k a0_2).bind fun t426=>(if t417.length+t426.length<140737488355328 then (some (t417++t426)) else (none))) else (some t417)))
set_option maxHeartbeats 8000000 in
set_option maxRecDepth 100000 in
theorem engrossref1_PutVal.calls (k:Nat) (ab:Int) (ah:Nat) (ai:ByteArray) (r:List Int) (w:World) (h:engrossref1_PutVal.f k ab ah ai=some r) :
  Calls Try.prog 46 #[.agg #[.int .i64 ab,.float .f64 ah,.string ai]] w fun e w'=>∃ v0_:Value,e = .returned (v0_)∧Kd.R (Kd.int .u8) 5 w' w.heap.size (fun _=>True) v0_ r∧Below w.heap.size w w':=by
 have hu54:=Try.underlying54
 have HB:=aK (Below.refl w.heap.size w)
 have H:((engrossref1_Put.f k ab).bind fun ac=>(if ab=1 then ((engrossref1_FloatBytes.f k ah).bind fun af=>(if ac.length+af.length<140737488355328 then (some (ac++af)) else (none))) else (if ab=2 then ((engrossref1_PutText.f k ai).bind fun ag=>(if ac.length+ag.length<140737488355328 then (some (ac++ag)) else (none))) else (some ac))))=some r:=h
 clear h
 replace H:=oS H
 obtain⟨ac,A20,H⟩:=H
 replace H:(if ab=1 then ((engrossref1_FloatBytes.f k ah).bind fun af=>(if ac.length+af.length<140737488355328 then (some (ac++af)) else (none))) else (if ab=2 then ((engrossref1_PutText.f k ai).bind fun ag=>(if ac.length+ag.length<140737488355328 then (some (ac++ag)) else (none))) else (some ac)))=some r:=H
 have A2:=aK A20
 clear A20
 by_cases c3:ab=1
 ·rw [if_pos c3] at H
  have ax:(ab == 1)=true:=beq_iff_eq.mpr c3
  have ay:(ab != 1)=false:=bne_eq_false_iff_eq.mpr c3
  clear c3
  replace H:=oS H
  obtain⟨af,A40,H⟩:=H
  replace H:(if ac.length+af.length<140737488355328 then (some (ac++af)) else (none))=some r:=H
  have A4:=aK A40
  clear A40
  by_cases c5:ac.length+af.length<140737488355328
  rotate_left
  ·rw [if_neg c5] at H
   exact absurd H (by simp)
  rw [if_pos c5] at H
  have LMc5:=aK c5
  clear c5
  obtain⟨az,hy423⟩:∃ y_:List Int,y_=(ac++af):=⟨_,rfl⟩
  replace H:(some az)=some r:=by first|(rw [hy423];with_reducible exact H)|(have H2_:=(Option.bind_some _ _).symm.trans H;rw [hy423];with_reducible exact H2_)|(have H2_:=(Option.bind_some _ _).symm.trans H;with_reducible exact H2_)|with_reducible exact H|(rw [hy423];exact H)|exact H
  have Ny423:=aK hy423
  clear hy423
  obtain rfl:=Option.some.inj H
  go_enter Try.func46,Try.ntmps46
  go_wp2_with (first|((with_reducible refine gate_dst (N:=1) rfl ?_);refine box_event ?hg (N:=1) ?hd (cs:=#[.int .i64 ab,.float .f64 ah,.string ai]) (t:=54) ?hr ?_;(case hd=>rfl);(case hg=>rfl);(case hr=>first|(go_simp;done)|(go_simp;rfl));intro ao hg w6 hbox hb;have aa:=aK (hbox);have ap:=bZ HB hg;have aj:=bZ HB hg;replace HB:=bW HB hb;clear hb hbox hg;obtain⟨bp,bq,br,bs,bu,bv⟩:=bf3 (w:=w6) aa)|((with_reducible refine gate_callee (f:=28) rfl ?_);refine gL (some 6) Try.func28 #[.int .i64 ab] ?_;(with_reducible refine (engrossref1_Put.calls k ab ac _ A2.out).mono ?_);rintro e w8 ⟨am,rfl,ho0,hb⟩;refine⟨_,rfl,?_⟩;have ae:=aK (Kd.R_lower ho0 (below_size (bC HB)));replace aa:=bB aa hb;replace HB:=bW HB hb;(try clear hb);(try clear hb2);(try clear hk);(try clear hi);(try clear ho0);obtain⟨bw,bx,bA,bD,bF,bI⟩:=bf3 (w:=w8) aa)|((with_reducible refine gate_callee (f:=58) rfl ?_);refine gL (some 14) Try.func58 #[.float .f64 ah] ?_;(with_reducible refine (engrossref1_FloatBytes.calls k ah af _ A4.out).mono ?_);rintro e w10 ⟨bJ,rfl,ho0,hb⟩;refine⟨_,rfl,?_⟩;have ak:=aK (Kd.R_lower (Kd.R_new' ho0 (Kd.R_lt (by (with_reducible repeat (first|apply Kd.R_alloc|apply Kd.R_drewN|apply Kd.R_drew));exact ae.out))) (below_size (bC HB)));replace ae:=rE ae (Kd.R_base ho0) hb;replace aa:=bB aa hb;replace HB:=bW HB hb;(try clear hb);(try clear hb2);(try clear hk);(try clear hi);(try clear ho0);obtain⟨aA,aC,aD⟩:=Kd.R_slice ak.out;subst aD)|((with_reducible refine gate_builtin (b:=.append) (xs:=#[.tmp 11,.tmp 14]) rfl ?_);at_builtin;refine Kd.R_append_rows (Kd.int .u8) (w0:=w) w.heap.size rfl (.tmp 11) (.tmp 14) 30 5 (.int .u8 0) 1 rfl Try.underlying30 info5 rfl (by decide) (by omega) am ac af _ _ _ (fun k_=>some k_≠(.slice aA af.length aC:Value).ownBlock) (fun _=>False) rfl rfl ?aO ?aR (fun _ _ h=>h) (fun _ h=>h.elim) ?aF ?aB ?aS ?aL ?_;(case aR=>exact sC (Kd.R_reads' ak.out).2.2);(case aB=>exact (bC HB));(case aF=>exact (fun k_ hk=>Kd.fresh' (Kd.R_lt (by (with_reducible repeat (first|apply Kd.R_alloc|apply Kd.R_drewN|apply Kd.R_drew));exact ak.out)) k_ hk));(case aO=>exact (by (with_reducible repeat (first|apply Kd.R_alloc|apply Kd.R_drewN|apply Kd.R_drew));exact Kd.R_mono ae.out (fun _ hk=>hk.2)));(case aS=>exact (below_size (bC HB)));(case aL=>have:=LMc5.out;omega);intro bM w11 ho hb hg hat;rw [← Ny423.out] at ho;have ar:=aK (ho);replace aa:=aK (blk_grown (bQ aa) hg (Kd.R_ne ae.out aa.out (by decide)));replace ak:=aK (Kd.R_after (ok:=(fun _=>True)) (by (with_reducible repeat (first|apply Kd.R_alloc|apply Kd.R_drewN|apply Kd.R_drew));exact ak.out) hg hat);replace HB:=aK (hb);clear ae;clear ho hb hg hat))
  go_ret
  exact⟨_,by first|rfl|(simp [errW_none,errW_some] <;> rfl)|(simp [*,errW_none,errW_some] <;> rfl),by (with_reducible repeat (first|apply Kd.R_alloc|apply Kd.R_drewN|apply Kd.R_drew));exact Kd.R_mono ar.out (fun _ hk=>trivial),by repeat (first|(with_reducible first|exact HB.out|apply below_alloc|apply pw_below_drewN|apply below_drew1|refine below_set ?_ aj.out)|exact HB.out)⟩
 rw [if_neg c3] at H
 have ax:(ab == 1)=false:=beq_eq_false_iff_ne.mpr c3
 have ay:(ab != 1)=true:=bne_iff_ne.mpr c3
 by_cases c13:ab=2
 rotate_left
 ·rw [if_neg c13] at H
  have au:(ab == 2)=false:=beq_eq_false_iff_ne.mpr c13
  have av:(ab != 2)=true:=bne_iff_ne.mpr c13
  obtain rfl:=Option.some.inj H
  go_enter Try.func46,Try.ntmps46
  go_wp2_with (first|((with_reducible refine gate_dst (N:=1) rfl ?_);refine box_event ?hg (N:=1) ?hd (cs:=#[.int .i64 ab,.float .f64 ah,.string ai]) (t:=54) ?hr ?_;(case hd=>rfl);(case hg=>rfl);(case hr=>first|(go_simp;done)|(go_simp;rfl));intro ao hg w23 hbox hb;have aa:=aK (hbox);have ap:=bZ HB hg;have aj:=bZ HB hg;replace HB:=bW HB hb;clear hb hbox hg;obtain⟨aJ,aM,aN,aQ,aT,aU⟩:=bf3 (w:=w23) aa)|((with_reducible refine gate_callee (f:=28) rfl ?_);refine gL (some 6) Try.func28 #[.int .i64 ab] ?_;(with_reducible refine (engrossref1_Put.calls k ab ac _ A2.out).mono ?_);rintro e w25 ⟨am,rfl,ho0,hb⟩;refine⟨_,rfl,?_⟩;have ae:=aK (Kd.R_lower ho0 (below_size (bC HB)));replace aa:=bB aa hb;replace HB:=bW HB hb;(try clear hb);(try clear hb2);(try clear hk);(try clear hi);(try clear ho0);obtain⟨aV,aW,aX,aY,aZ,ba⟩:=bf3 (w:=w25) aa))
  go_ret
  exact⟨_,by first|rfl|(simp [errW_none,errW_some] <;> rfl)|(simp [*,errW_none,errW_some] <;> rfl),by (with_reducible repeat (first|apply Kd.R_alloc|apply Kd.R_drewN|apply Kd.R_drew));exact ae.out,by repeat (first|(with_reducible first|exact HB.out|apply below_alloc|apply pw_below_drewN|apply below_drew1|refine below_set ?_ aj.out)|exact HB.out)⟩
 rw [if_pos c13] at H
 have au:(ab == 2)=true:=beq_iff_eq.mpr c13
 have av:(ab != 2)=false:=bne_eq_false_iff_eq.mpr c13
 clear c13
 replace H:=oS H
 obtain⟨ag,aq,H⟩:=H
 replace H:(if ac.length+ag.length<140737488355328 then (some (ac++ag)) else (none))=some r:=H
 have A14:=aK aq
 clear aq
 by_cases c15:ac.length+ag.length<140737488355328
 rotate_left
 ·rw [if_neg c15] at H
  exact absurd H (by simp)
 rw [if_pos c15] at H
 have LMc15:=aK c15
 clear c15
 obtain⟨aE,hy429⟩:∃ y_:List Int,y_=(ac++ag):=⟨_,rfl⟩
 replace H:(some aE)=some r:=by first|(rw [hy429];with_reducible exact H)|(have H2_:=(Option.bind_some _ _).symm.trans H;rw [hy429];with_reducible exact H2_)|(have H2_:=(Option.bind_some _ _).symm.trans H;with_reducible exact H2_)|with_reducible exact H|(rw [hy429];exact H)|exact H
 have Ny429:=aK hy429
 clear hy429
 obtain rfl:=Option.some.inj H
 go_enter Try.func46,Try.ntmps46
 go_wp2_with (first|((with_reducible refine gate_dst (N:=1) rfl ?_);refine box_event ?hg (N:=1) ?hd (cs:=#[.int .i64 ab,.float .f64 ah,.string ai]) (t:=54) ?hr ?_;(case hd=>rfl);(case hg=>rfl);(case hr=>first|(go_simp;done)|(go_simp;rfl));intro ao hg w16 hbox hb;have aa:=aK (hbox);have ap:=bZ HB hg;have aj:=bZ HB hg;replace HB:=bW HB hb;clear hb hbox hg;obtain⟨bb,bc,bf,bg,bh,bi⟩:=bf3 (w:=w16) aa)|((with_reducible refine gate_callee (f:=28) rfl ?_);refine gL (some 6) Try.func28 #[.int .i64 ab] ?_;(with_reducible refine (engrossref1_Put.calls k ab ac _ A2.out).mono ?_);rintro e w18 ⟨am,rfl,ho0,hb⟩;refine⟨_,rfl,?_⟩;have ae:=aK (Kd.R_lower ho0 (below_size (bC HB)));replace aa:=bB aa hb;replace HB:=bW HB hb;(try clear hb);(try clear hb2);(try clear hk);(try clear hi);(try clear ho0);obtain⟨bj,bk,bl,bm,bn,bo⟩:=bf3 (w:=w18) aa)|((with_reducible refine gate_callee (f:=30) rfl ?_);refine gL (some 21) Try.func30 #[.string ai] ?_;(with_reducible refine (engrossref1_PutText.calls k ai ag _ A14.out).mono ?_);rintro e w20 ⟨bN,rfl,ho0,hb⟩;refine⟨_,rfl,?_⟩;have al:=aK (Kd.R_lower (Kd.R_new' ho0 (Kd.R_lt (by (with_reducible repeat (first|apply Kd.R_alloc|apply Kd.R_drewN|apply Kd.R_drew));exact ae.out))) (below_size (bC HB)));replace ae:=rE ae (Kd.R_base ho0) hb;replace aa:=bB aa hb;replace HB:=bW HB hb;(try clear hb);(try clear hb2);(try clear hk);(try clear hi);(try clear ho0);obtain⟨aG,aH,aI⟩:=Kd.R_slice al.out;subst aI)|((with_reducible refine gate_builtin (b:=.append) (xs:=#[.tmp 18,.tmp 21]) rfl ?_);at_builtin;refine Kd.R_append_rows (Kd.int .u8) (w0:=w) w.heap.size rfl (.tmp 18) (.tmp 21) 30 5 (.int .u8 0) 1 rfl Try.underlying30 info5 rfl (by decide) (by omega) am ac ag _ _ _ (fun k_=>some k_≠(.slice aG ag.length aH:Value).ownBlock) (fun _=>False) rfl rfl ?aO ?aR (fun _ _ h=>h) (fun _ h=>h.elim) ?aF ?aB ?aS ?aL ?_;(case aR=>exact sC (Kd.R_reads' al.out).2.2);(case aB=>exact (bC HB));(case aF=>exact (fun k_ hk=>Kd.fresh' (Kd.R_lt (by (with_reducible repeat (first|apply Kd.R_alloc|apply Kd.R_drewN|apply Kd.R_drew));exact al.out)) k_ hk));(case aO=>exact (by (with_reducible repeat (first|apply Kd.R_alloc|apply Kd.R_drewN|apply Kd.R_drew));exact Kd.R_mono ae.out (fun _ hk=>hk.2)));(case aS=>exact (below_size (bC HB)));(case aL=>have:=LMc15.out;omega);intro bO w21 ho hb hg hat;rw [← Ny429.out] at ho;have aw:=aK (ho);replace aa:=aK (blk_grown (bQ aa) hg (Kd.R_ne ae.out aa.out (by decide)));replace al:=aK (Kd.R_after (ok:=(fun _=>True)) (by (with_reducible repeat (first|apply Kd.R_alloc|apply Kd.R_drewN|apply Kd.R_drew));exact al.out) hg hat);replace HB:=aK (hb);clear ae;clear ho hb hg hat))
 go_ret
 exact⟨_,by first|rfl|(simp [errW_none,errW_some] <;> rfl)|(simp [*,errW_none,errW_some] <;> rfl),by (with_reducible repeat (first|apply Kd.R_alloc|apply Kd.R_drewN|apply Kd.R_drew));exact Kd.R_mono aw.out (fun _ hk=>trivial),by repeat (first|(with_reducible first|exact HB.out|apply below_alloc|apply pw_below_drewN|apply below_drew1|refine below_set ?_ aj.out)|exact HB.out)⟩
def engrossref10_Bytes.f (k:Nat) (a0_0:ByteArray) (a0_1:Int) (a0_2:Nat) (a0_3:ByteArray) (a0_4:Int) (a0_5:Int) (a0_6:Nat) (a0_7:ByteArray):Option (List Int):=(engrossref1_PutText.f k a0_0).bind fun t433=>((engrossref1_PutVal.f k a0_1 a0_2 a0_3).bind fun t436=>(if t433.length+t436.length<140737488355328 then ((some (t433++t436:List Int)).bind fun y439=>((engrossref1_Put.f k a0_4).bind fun t442=>(if y439.length+t442.length<140737488355328 then ((some (y439++t442:List Int)).bind fun y445=>(if a0_4>0 then ((engrossref1_PutVal.f k a0_5 a0_6 a0_7).bind fun t448=>(if y445.length+t448.length<140737488355328 then (some (y445++t448)) else (none))) else (some y445))) else (none)))) else (none)))
def engrossref10_Bytes.T1:Bool × List (List Nat × List Nat):=(true,[([],[]),([0],[0]),([1],[1]),([],[]),([3],[3]),([4,2],[4]),([2,5,5],[2,5]),([6,6,0,1,2,3,4,5,6],[6])])
def engrossref10_Bytes.B1:List Nat:=[0,1,3,0,8,31,63,127]
theorem engrossref10_Bytes.tab1:rtab .any (opsOf Try.f29 1)=engrossref10_Bytes.T1:=by kernel_rfl
theorem engrossref10_Bytes.bits1:waitsOk engrossref10_Bytes.T1.2 engrossref10_Bytes.B1=true:=by kernel_rfl
set_option maxHeartbeats 8000000 in
set_option maxRecDepth 100000 in
theorem engrossref10_Bytes.calls (k:Nat) (ax:ByteArray) (au:Int) (av:Nat) (aw:ByteArray) (ag:Int) (ao:Int) (ap:Nat) (aq:ByteArray) (r:List Int) (w:World) (h:engrossref10_Bytes.f k ax au av aw ag ao ap aq=some r) :
  Calls Try.prog 29 #[.agg #[.string ax,.int .i64 au,.float .f64 av,.string aw,.int .i64 ag,.int .i64 ao,.float .f64 ap,.string aq]] w fun e w'=>∃ v0_:Value,e = .returned (v0_)∧Kd.R (Kd.int .u8) 5 w' w.heap.size (fun _=>True) v0_ r∧Below w.heap.size w w':=by
 have hu56:=Try.underlying56
 have hu54:=Try.underlying54
 have HB:=aK (Below.refl w.heap.size w)
 have H:((engrossref1_PutText.f k ax).bind fun ar=>((engrossref1_PutVal.f k au av aw).bind fun ah=>(if ar.length+ah.length<140737488355328 then ((some (ar++ah:List Int)).bind fun ak=>((engrossref1_Put.f k ag).bind fun ae=>(if ak.length+ae.length<140737488355328 then ((some (ak++ae:List Int)).bind fun ac=>(if ag>0 then ((engrossref1_PutVal.f k ao ap aq).bind fun af=>(if ac.length+af.length<140737488355328 then (some (ac++af)) else (none))) else (some ac))) else (none)))) else (none))))=some r:=h
 clear h
 replace H:=oS H
 obtain⟨ar,A20,H⟩:=H
 replace H:((engrossref1_PutVal.f k au av aw).bind fun ah=>(if ar.length+ah.length<140737488355328 then ((some (ar++ah:List Int)).bind fun ak=>((engrossref1_Put.f k ag).bind fun ae=>(if ak.length+ae.length<140737488355328 then ((some (ak++ae:List Int)).bind fun ac=>(if ag>0 then ((engrossref1_PutVal.f k ao ap aq).bind fun af=>(if ac.length+af.length<140737488355328 then (some (ac++af)) else (none))) else (some ac))) else (none)))) else (none)))=some r:=H
 have A2:=aK A20
 clear A20
 replace H:=oS H
 obtain⟨ah,A30,H⟩:=H
 replace H:(if ar.length+ah.length<140737488355328 then ((some (ar++ah:List Int)).bind fun ak=>((engrossref1_Put.f k ag).bind fun ae=>(if ak.length+ae.length<140737488355328 then ((some (ak++ae:List Int)).bind fun ac=>(if ag>0 then ((engrossref1_PutVal.f k ao ap aq).bind fun af=>(if ac.length+af.length<140737488355328 then (some (ac++af)) else (none))) else (some ac))) else (none)))) else (none))=some r:=H
 have A3:=aK A30
 clear A30
 by_cases c4:ar.length+ah.length<140737488355328
 rotate_left
 ·rw [if_neg c4] at H
  exact absurd H (by simp)
 rw [if_pos c4] at H
 have LMc4:=aK c4
 clear c4
 obtain⟨ak,hy439⟩:∃ y_:List Int,y_=(ar++ah):=⟨_,rfl⟩
 replace H:((engrossref1_Put.f k ag).bind fun ae=>(if ak.length+ae.length<140737488355328 then ((some (ak++ae:List Int)).bind fun ac=>(if ag>0 then ((engrossref1_PutVal.f k ao ap aq).bind fun af=>(if ac.length+af.length<140737488355328 then (some (ac++af)) else (none))) else (some ac))) else (none)))=some r:=by first|(rw [hy439];with_reducible exact H)|(have H2_:=(Option.bind_some _ _).symm.trans H;rw [hy439];with_reducible exact H2_)|(have H2_:=(Option.bind_some _ _).symm.trans H;with_reducible exact H2_)|with_reducible exact H|(rw [hy439];exact H)|exact H
 have Ny439:=aK hy439
 clear hy439
 replace H:=oS H
 obtain⟨ae,A50,H⟩:=H
 replace H:(if ak.length+ae.length<140737488355328 then ((some (ak++ae:List Int)).bind fun ac=>(if ag>0 then ((engrossref1_PutVal.f k ao ap aq).bind fun af=>(if ac.length+af.length<140737488355328 then (some (ac++af)) else (none))) else (some ac))) else (none))=some r:=H
 have A5:=aK A50
 clear A50
 by_cases c6:ak.length+ae.length<140737488355328
 rotate_left
 ·rw [if_neg c6] at H
  exact absurd H (by simp)
 rw [if_pos c6] at H
 have LMc6:=aK c6
 clear c6
 obtain⟨ac,hy445⟩:∃ y_:List Int,y_=(ak++ae):=⟨_,rfl⟩
 replace H:(if ag>0 then ((engrossref1_PutVal.f k ao ap aq).bind fun af=>(if ac.length+af.length<140737488355328 then (some (ac++af)) else (none))) else (some ac))=some r:=by first|(rw [hy445];with_reducible exact H)|(have H2_:=(Option.bind_some _ _).symm.trans H;rw [hy445];with_reducible exact H2_)|(have H2_:=(Option.bind_some _ _).symm.trans H;with_reducible exact H2_)|with_reducible exact H|(rw [hy445];exact H)|exact H
 have Ny445:=aK hy445
 clear hy445
 by_cases c7:ag>0
 rotate_left
 ·rw [if_neg c7] at H
  have ba:decide (0<ag)=false:=decide_eq_false c7
  clear c7
  obtain rfl:=Option.some.inj H
  go_enter Try.func29,Try.ntmps29
  try go_wp2_with (first|((with_reducible refine gate_dst (N:=1) rfl ?_);refine box_event ?hg (N:=1) ?hd (cs:=#[.string ax,.int .i64 au,.float .f64 av,.string aw,.int .i64 ag,.int .i64 ao,.float .f64 ap,.string aq]) (t:=56) ?hr ?_;(case hd=>rfl);(case hg=>rfl);(case hr=>first|(go_simp;done)|(go_simp;rfl));intro ai hg w24 hbox hb;have aa:=aK (hbox);have aY:=bZ HB hg;have aG:=bZ HB hg;replace HB:=bW HB hb;clear hb hbox hg))
  replace aa:=aK (blk_drew aa.out)
  replace HB:=aK (below_drew1 HB.out)
  refine start_ (n:=8) (S:=fun w'=>w'.cell? ⟨ai,0,none⟩=some (.string ax)∧w'.cell? ⟨ai,1,none⟩=some (.int .i64 au)∧w'.cell? ⟨ai,2,none⟩=some (.float .f64 av)∧w'.cell? ⟨ai,3,none⟩=some (.string aw)∧w'.cell? ⟨ai,4,none⟩=some (.int .i64 ag)∧w'.cell? ⟨ai,5,none⟩=some (.int .i64 ao)∧w'.cell? ⟨ai,6,none⟩=some (.float .f64 ap)∧w'.cell? ⟨ai,7,none⟩=some (.string aq)) (ds:=[]) #[false,false,false,false,false,false,false,false] (by kernel_rfl) rfl rfl (be8 aa) (fun hHeld=>?_);refine with_tabW engrossref10_Bytes.tab1 engrossref10_Bytes.bits1 (fun HT_ HW_=>?_)
  generalize w24.drew=w25 at aa HB hHeld ⊢
  refine pA 0 4 HT_ ?_
  refine pA 3 7 HT_ ?_
  refine tA 1 5 HT_ HW_ hHeld ?_ (hy:=by rintro w' ⟨s0,s1,s2,s3,s4,s5,s6,s7⟩;go_simp;with_reducible rfl)
  refine tA 4 8 HT_ HW_ hHeld ?_ (hy:=by rintro w' ⟨s0,s1,s2,s3,s4,s5,s6,s7⟩;go_simp;with_reducible rfl)
  refine oA 2 (some 6) HT_ (fun K hK=>?_)
  refine goes_ Try.func30 (by kernel_rfl) rfl #[.string ax] (by rfl) rfl rfl (by (try simp only [List.map_toArray,List.map_cons,List.map_nil]);first|done|rfl|(simp only [List.length_drop,List.length_take];rfl)) ?_
  with_reducible refine (engrossref1_PutText.calls k ax ar _ A2.out).mono ?_
  rintro e w26 ⟨aH,rfl,ho0,hb⟩
  refine⟨_,rfl,?_⟩
  have al:=aK (Kd.R_lower ho0 (below_size (bC HB)))
  replace aa:=bB aa hb
  replace HB:=bW HB hb
  (try clear hb)
  (try clear hb2)
  (try clear hk)
  (try clear hi)
  (try clear ho0)
  refine hK.out _ _ (be8 aa) (fun hHeld=>?_)
  clear hK K
  refine norm_ (a':=?_) ?_ ?_
  rotate_left
  ·show Act.put _ (some 6) _=_
   simp only [Act.put,List.setIfInBounds_toArray,List.set_cons_zero,List.set_cons_succ,i64_w,i32_w]
   rfl
  refine oA 5 (some 9) HT_ (fun K hK=>?_)
  refine goes_ Try.func46 (by kernel_rfl) rfl #[.agg #[.int .i64 au,.float .f64 av,.string aw]] (by rfl) rfl rfl (by (try simp only [List.map_toArray,List.map_cons,List.map_nil]);first|done|rfl|(simp only [List.length_drop,List.length_take];rfl)) ?_
  with_reducible refine (engrossref1_PutVal.calls k au av aw ah _ A3.out).mono ?_
  rintro e w27 ⟨bb,rfl,ho0,hb⟩
  refine⟨_,rfl,?_⟩
  have ab:=aK (Kd.R_lower (Kd.R_new' ho0 (Kd.R_lt (by (with_reducible repeat (first|apply Kd.R_alloc|apply Kd.R_drewN|apply Kd.R_drew));exact al.out))) (below_size (bC HB)))
  replace al:=rE al (Kd.R_base ho0) hb
  replace aa:=bB aa hb
  replace HB:=bW HB hb
  (try clear hb)
  (try clear hb2)
  (try clear hk)
  (try clear hi)
  (try clear ho0)
  obtain⟨aI,aJ,aT⟩:=Kd.R_slice ab.out
  (first|subst aT|(injection aT with f1_ f2_ f3_;have f4_:=f1_.symm;have f5_:=f3_.symm;clear f1_ f2_ f3_;subst f4_;subst f5_))
  refine hK.out _ _ (be8 aa) (fun hHeld=>?_)
  clear hK K
  refine norm_ (a':=?_) ?_ ?_
  rotate_left
  ·show Act.put _ (some 9) _=_
   simp only [Act.put,List.setIfInBounds_toArray,List.set_cons_zero,List.set_cons_succ,i64_w,i32_w]
   rfl
  refine oA 6 (some 10) HT_ (fun K hK=>?_)
  refine Kd.R_append_rows_step (Kd.int .u8) (w0:=w) w.heap.size (by rfl) (.tmp 6) (.tmp 9) 30 5 (.int .u8 0) 1 rfl Try.underlying30 info5 rfl (by decide) (by omega) aH ar ah _ _ _ (fun k_=>some k_≠(.slice aI ah.length aJ:Value).ownBlock) (fun _=>False) rfl rfl ?aO ?aR (fun _ _ h=>h) (fun _ h=>h.elim) ?aF ?aB ?aS ?aL ?_
  (case aR=>exact sC (Kd.R_reads' ab.out).2.2)
  (case aB=>exact (bC HB))
  (case aF=>exact (fun k_ hk=>Kd.fresh' (Kd.R_lt (by (with_reducible repeat (first|apply Kd.R_alloc|apply Kd.R_drewN|apply Kd.R_drew));exact ab.out)) k_ hk))
  (case aO=>exact (by (with_reducible repeat (first|apply Kd.R_alloc|apply Kd.R_drewN|apply Kd.R_drew));exact Kd.R_mono al.out (fun _ hk=>hk.2)))
  (case aS=>exact (below_size (bC HB)))
  (case aL=>have:=LMc4.out;omega)
  intro aM w28 ho hb hg hat
  rw [← Ny439.out] at ho
  have am:=aK (ho)
  replace aa:=aK (blk_grown (bQ aa) hg (Kd.R_ne al.out aa.out (by decide)))
  replace ab:=aK (Kd.R_after (ok:=(fun _=>True)) (by (with_reducible repeat (first|apply Kd.R_alloc|apply Kd.R_drewN|apply Kd.R_drew));exact ab.out) hg hat)
  replace HB:=aK (hb)
  clear al
  clear ho hb hg hat
  refine hK.out _ _ (be8 aa) (fun hHeld=>?_)
  clear hK K
  refine norm_ (a':=?_) ?_ ?_
  rotate_left
  ·show Act.put _ (some 10) _=_
   simp only [Act.put,List.setIfInBounds_toArray,List.set_cons_zero,List.set_cons_succ,i64_w,i32_w]
   rfl
  refine pA 7 3 HT_ ?_
  refine done_ (done_of HT_.out (by kernel_rfl)) ?_
  obtain⟨bj,bk,bl,bm,bn,bo,bp,bq,br,bs,bu,bv,bw,bx,bA,bD⟩:=bf8 (w:=w28) aa
  try go_wp2_with (first|((with_reducible refine gate_callee (f:=28) rfl ?_);refine gL (some 14) Try.func28 #[.int .i64 ag] ?_;(with_reducible refine (engrossref1_Put.calls k ag ae _ A5.out).mono ?_);rintro e w31 ⟨bc,rfl,ho0,hb⟩;refine⟨_,rfl,?_⟩;have aj:=aK (Kd.R_lower (Kd.R_new' (Kd.R_new' ho0 (Kd.R_lt (by (with_reducible repeat (first|apply Kd.R_alloc|apply Kd.R_drewN|apply Kd.R_drew));exact ab.out))) (Kd.R_lt (by (with_reducible repeat (first|apply Kd.R_alloc|apply Kd.R_drewN|apply Kd.R_drew));exact am.out))) (below_size (bC HB)));replace ab:=rE ab (Kd.R_base ho0) hb;replace am:=rE am (Kd.R_base ho0) hb;replace aa:=bB aa hb;replace HB:=bW HB hb;(try clear hb);(try clear hb2);(try clear hk);(try clear hi);(try clear ho0);obtain⟨aU,aV,bf⟩:=Kd.R_slice aj.out;subst bf)|((with_reducible refine gate_builtin (b:=.append) (xs:=#[.tmp 11,.tmp 14]) rfl ?_);at_builtin;refine Kd.R_append_rows (Kd.int .u8) (w0:=w) w.heap.size rfl (.tmp 11) (.tmp 14) 30 5 (.int .u8 0) 1 rfl Try.underlying30 info5 rfl (by decide) (by omega) aM ak ae _ _ _ (fun k_=>some k_≠(.slice aI ah.length aJ:Value).ownBlock∧some k_≠(.slice aU ae.length aV:Value).ownBlock) (fun _=>False) rfl rfl ?aO ?aR (fun _ _ h=>h) (fun _ h=>h.elim) ?aF ?aB ?aS ?aL ?_;(case aR=>exact sC (Kd.R_reads' aj.out).2.2);(case aB=>exact (bC HB));(case aF=>exact (fun k_ hk=>⟨Kd.fresh' (Kd.R_lt (by (with_reducible repeat (first|apply Kd.R_alloc|apply Kd.R_drewN|apply Kd.R_drew));exact ab.out)) k_ hk,Kd.fresh' (Kd.R_lt (by (with_reducible repeat (first|apply Kd.R_alloc|apply Kd.R_drewN|apply Kd.R_drew));exact aj.out)) k_ hk⟩));(case aO=>exact (by (with_reducible repeat (first|apply Kd.R_alloc|apply Kd.R_drewN|apply Kd.R_drew));exact am.out));(case aS=>exact (below_size (bC HB)));(case aL=>have:=LMc6.out;omega);intro aW w32 ho hb hg hat;rw [← Ny445.out] at ho;have ay:=aK (ho);replace aa:=aK (blk_grown (bQ aa) hg (Kd.R_ne am.out aa.out (by decide)));replace ab:=aK (Kd.R_after (ok:=(fun k_=>some k_≠(.slice aU ae.length aV:Value).ownBlock)) (by (with_reducible repeat (first|apply Kd.R_alloc|apply Kd.R_drewN|apply Kd.R_drew));exact Kd.R_mono ab.out (fun _ hk=>⟨hk.2,hk.1.2⟩)) hg hat);replace aj:=aK (Kd.R_after (ok:=(fun k_=>some k_≠(.slice aI ah.length aJ:Value).ownBlock)) (by (with_reducible repeat (first|apply Kd.R_alloc|apply Kd.R_drewN|apply Kd.R_drew));exact Kd.R_mono aj.out (fun _ hk=>⟨hk.1.2,hk.2⟩)) hg hat);replace HB:=aK (hb);clear am;clear ho hb hg hat;obtain⟨bF,bI,bJ,bM,bN,bO,bU,bX,bY,b8,b9,ca,cb,cd,cf,cg⟩:=bf8 (w:=w32) aa))
  go_ret
  exact⟨_,by first|rfl|(simp [errW_none,errW_some] <;> rfl)|(simp [*,errW_none,errW_some] <;> rfl),by (with_reducible repeat (first|apply Kd.R_alloc|apply Kd.R_drewN|apply Kd.R_drew));exact Kd.R_mono ay.out (fun _ hk=>trivial),by repeat (first|(with_reducible first|exact HB.out|apply below_alloc|apply pw_below_drewN|apply below_drew1|refine below_set ?_ aG.out)|exact HB.out)⟩
 rw [if_pos c7] at H
 have ba:decide (0<ag)=true:=decide_eq_true c7
 clear c7
 replace H:=oS H
 obtain⟨af,A80,H⟩:=H
 replace H:(if ac.length+af.length<140737488355328 then (some (ac++af)) else (none))=some r:=H
 have A8:=aK A80
 clear A80
 by_cases c9:ac.length+af.length<140737488355328
 rotate_left
 ·rw [if_neg c9] at H
  exact absurd H (by simp)
 rw [if_pos c9] at H
 have LMc9:=aK c9
 clear c9
 obtain⟨bg,hy451⟩:∃ y_:List Int,y_=(ac++af):=⟨_,rfl⟩
 replace H:(some bg)=some r:=by first|(rw [hy451];with_reducible exact H)|(have H2_:=(Option.bind_some _ _).symm.trans H;rw [hy451];with_reducible exact H2_)|(have H2_:=(Option.bind_some _ _).symm.trans H;with_reducible exact H2_)|with_reducible exact H|(rw [hy451];exact H)|exact H
 have Ny451:=aK hy451
 clear hy451
 obtain rfl:=Option.some.inj H
 go_enter Try.func29,Try.ntmps29
 try go_wp2_with (first|((with_reducible refine gate_dst (N:=1) rfl ?_);refine box_event ?hg (N:=1) ?hd (cs:=#[.string ax,.int .i64 au,.float .f64 av,.string aw,.int .i64 ag,.int .i64 ao,.float .f64 ap,.string aq]) (t:=56) ?hr ?_;(case hd=>rfl);(case hg=>rfl);(case hr=>first|(go_simp;done)|(go_simp;rfl));intro ai hg w10 hbox hb;have aa:=aK (hbox);have aY:=bZ HB hg;have aG:=bZ HB hg;replace HB:=bW HB hb;clear hb hbox hg))
 replace aa:=aK (blk_drew aa.out)
 replace HB:=aK (below_drew1 HB.out)
 refine start_ (n:=8) (S:=fun w'=>w'.cell? ⟨ai,0,none⟩=some (.string ax)∧w'.cell? ⟨ai,1,none⟩=some (.int .i64 au)∧w'.cell? ⟨ai,2,none⟩=some (.float .f64 av)∧w'.cell? ⟨ai,3,none⟩=some (.string aw)∧w'.cell? ⟨ai,4,none⟩=some (.int .i64 ag)∧w'.cell? ⟨ai,5,none⟩=some (.int .i64 ao)∧w'.cell? ⟨ai,6,none⟩=some (.float .f64 ap)∧w'.cell? ⟨ai,7,none⟩=some (.string aq)) (ds:=[]) #[false,false,false,false,false,false,false,false] (by kernel_rfl) rfl rfl (be8 aa) (fun hHeld=>?_);refine with_tabW engrossref10_Bytes.tab1 engrossref10_Bytes.bits1 (fun HT_ HW_=>?_)
 generalize w10.drew=w11 at aa HB hHeld ⊢
 refine pA 0 4 HT_ ?_
 refine pA 3 7 HT_ ?_
 refine tA 1 5 HT_ HW_ hHeld ?_ (hy:=by rintro w' ⟨s0,s1,s2,s3,s4,s5,s6,s7⟩;go_simp;with_reducible rfl)
 refine tA 4 8 HT_ HW_ hHeld ?_ (hy:=by rintro w' ⟨s0,s1,s2,s3,s4,s5,s6,s7⟩;go_simp;with_reducible rfl)
 refine oA 2 (some 6) HT_ (fun K hK=>?_)
 refine goes_ Try.func30 (by kernel_rfl) rfl #[.string ax] (by rfl) rfl rfl (by (try simp only [List.map_toArray,List.map_cons,List.map_nil]);first|done|rfl|(simp only [List.length_drop,List.length_take];rfl)) ?_
 with_reducible refine (engrossref1_PutText.calls k ax ar _ A2.out).mono ?_
 rintro e w12 ⟨aH,rfl,ho0,hb⟩
 refine⟨_,rfl,?_⟩
 have al:=aK (Kd.R_lower ho0 (below_size (bC HB)))
 replace aa:=bB aa hb
 replace HB:=bW HB hb
 (try clear hb)
 (try clear hb2)
 (try clear hk)
 (try clear hi)
 (try clear ho0)
 refine hK.out _ _ (be8 aa) (fun hHeld=>?_)
 clear hK K
 refine norm_ (a':=?_) ?_ ?_
 rotate_left
 ·show Act.put _ (some 6) _=_
  simp only [Act.put,List.setIfInBounds_toArray,List.set_cons_zero,List.set_cons_succ,i64_w,i32_w]
  rfl
 refine oA 5 (some 9) HT_ (fun K hK=>?_)
 refine goes_ Try.func46 (by kernel_rfl) rfl #[.agg #[.int .i64 au,.float .f64 av,.string aw]] (by rfl) rfl rfl (by (try simp only [List.map_toArray,List.map_cons,List.map_nil]);first|done|rfl|(simp only [List.length_drop,List.length_take];rfl)) ?_
 with_reducible refine (engrossref1_PutVal.calls k au av aw ah _ A3.out).mono ?_
 rintro e w13 ⟨bb,rfl,ho0,hb⟩
 refine⟨_,rfl,?_⟩
 have ab:=aK (Kd.R_lower (Kd.R_new' ho0 (Kd.R_lt (by (with_reducible repeat (first|apply Kd.R_alloc|apply Kd.R_drewN|apply Kd.R_drew));exact al.out))) (below_size (bC HB)))
 replace al:=rE al (Kd.R_base ho0) hb
 replace aa:=bB aa hb
 replace HB:=bW HB hb
 (try clear hb)
 (try clear hb2)
 (try clear hk)
 (try clear hi)
 (try clear ho0)
 obtain⟨aA,aC,aX⟩:=Kd.R_slice ab.out
 (first|subst aX|(injection aX with f1_ f2_ f3_;have f4_:=f1_.symm;have f5_:=f3_.symm;clear f1_ f2_ f3_;subst f4_;subst f5_))
 refine hK.out _ _ (be8 aa) (fun hHeld=>?_)
 clear hK K
 refine norm_ (a':=?_) ?_ ?_
 rotate_left
 ·show Act.put _ (some 9) _=_
  simp only [Act.put,List.setIfInBounds_toArray,List.set_cons_zero,List.set_cons_succ,i64_w,i32_w]
  rfl
 refine oA 6 (some 10) HT_ (fun K hK=>?_)
 refine Kd.R_append_rows_step (Kd.int .u8) (w0:=w) w.heap.size (by rfl) (.tmp 6) (.tmp 9) 30 5 (.int .u8 0) 1 rfl Try.underlying30 info5 rfl (by decide) (by omega) aH ar ah _ _ _ (fun k_=>some k_≠(.slice aA ah.length aC:Value).ownBlock) (fun _=>False) rfl rfl ?aO ?aR (fun _ _ h=>h) (fun _ h=>h.elim) ?aF ?aB ?aS ?aL ?_
 (case aR=>exact sC (Kd.R_reads' ab.out).2.2)
 (case aB=>exact (bC HB))
 (case aF=>exact (fun k_ hk=>Kd.fresh' (Kd.R_lt (by (with_reducible repeat (first|apply Kd.R_alloc|apply Kd.R_drewN|apply Kd.R_drew));exact ab.out)) k_ hk))
 (case aO=>exact (by (with_reducible repeat (first|apply Kd.R_alloc|apply Kd.R_drewN|apply Kd.R_drew));exact Kd.R_mono al.out (fun _ hk=>hk.2)))
 (case aS=>exact (below_size (bC HB)))
 (case aL=>have:=LMc4.out;omega)
 intro aM w14 ho hb hg hat
 rw [← Ny439.out] at ho
 have am:=aK (ho)
 replace aa:=aK (blk_grown (bQ aa) hg (Kd.R_ne al.out aa.out (by decide)))
 replace ab:=aK (Kd.R_after (ok:=(fun _=>True)) (by (with_reducible repeat (first|apply Kd.R_alloc|apply Kd.R_drewN|apply Kd.R_drew));exact ab.out) hg hat)
 replace HB:=aK (hb)
 clear al
 clear ho hb hg hat
 refine hK.out _ _ (be8 aa) (fun hHeld=>?_)
 clear hK K
 refine norm_ (a':=?_) ?_ ?_
 rotate_left
 ·show Act.put _ (some 10) _=_
  simp only [Act.put,List.setIfInBounds_toArray,List.set_cons_zero,List.set_cons_succ,i64_w,i32_w]
  rfl
 refine pA 7 3 HT_ ?_
 refine done_ (done_of HT_.out (by kernel_rfl)) ?_
 obtain⟨ch,cj,cm,cn,cp,cq,ct,cu,cv,cw,cx,cz,cA,cB,cC,cD⟩:=bf8 (w:=w14) aa
 try go_wp2_with (first|((with_reducible refine gate_callee (f:=28) rfl ?_);refine gL (some 14) Try.func28 #[.int .i64 ag] ?_;(with_reducible refine (engrossref1_Put.calls k ag ae _ A5.out).mono ?_);rintro e w17 ⟨bc,rfl,ho0,hb⟩;refine⟨_,rfl,?_⟩;have aj:=aK (Kd.R_lower (Kd.R_new' (Kd.R_new' ho0 (Kd.R_lt (by (with_reducible repeat (first|apply Kd.R_alloc|apply Kd.R_drewN|apply Kd.R_drew));exact ab.out))) (Kd.R_lt (by (with_reducible repeat (first|apply Kd.R_alloc|apply Kd.R_drewN|apply Kd.R_drew));exact am.out))) (below_size (bC HB)));replace ab:=rE ab (Kd.R_base ho0) hb;replace am:=rE am (Kd.R_base ho0) hb;replace aa:=bB aa hb;replace HB:=bW HB hb;(try clear hb);(try clear hb2);(try clear hk);(try clear hi);(try clear ho0);obtain⟨aD,aE,bh⟩:=Kd.R_slice aj.out;subst bh)|((with_reducible refine gate_builtin (b:=.append) (xs:=#[.tmp 11,.tmp 14]) rfl ?_);at_builtin;refine Kd.R_append_rows (Kd.int .u8) (w0:=w) w.heap.size rfl (.tmp 11) (.tmp 14) 30 5 (.int .u8 0) 1 rfl Try.underlying30 info5 rfl (by decide) (by omega) aM ak ae _ _ _ (fun k_=>some k_≠(.slice aA ah.length aC:Value).ownBlock∧some k_≠(.slice aD ae.length aE:Value).ownBlock) (fun _=>False) rfl rfl ?aO ?aR (fun _ _ h=>h) (fun _ h=>h.elim) ?aF ?aB ?aS ?aL ?_;(case aR=>exact sC (Kd.R_reads' aj.out).2.2);(case aB=>exact (bC HB));(case aF=>exact (fun k_ hk=>⟨Kd.fresh' (Kd.R_lt (by (with_reducible repeat (first|apply Kd.R_alloc|apply Kd.R_drewN|apply Kd.R_drew));exact ab.out)) k_ hk,Kd.fresh' (Kd.R_lt (by (with_reducible repeat (first|apply Kd.R_alloc|apply Kd.R_drewN|apply Kd.R_drew));exact aj.out)) k_ hk⟩));(case aO=>exact (by (with_reducible repeat (first|apply Kd.R_alloc|apply Kd.R_drewN|apply Kd.R_drew));exact am.out));(case aS=>exact (below_size (bC HB)));(case aL=>have:=LMc6.out;omega);intro aW w18 ho hb hg hat;rw [← Ny445.out] at ho;have ay:=aK (ho);replace aa:=aK (blk_grown (bQ aa) hg (Kd.R_ne am.out aa.out (by decide)));replace ab:=aK (Kd.R_after (ok:=(fun k_=>some k_≠(.slice aD ae.length aE:Value).ownBlock)) (by (with_reducible repeat (first|apply Kd.R_alloc|apply Kd.R_drewN|apply Kd.R_drew));exact Kd.R_mono ab.out (fun _ hk=>⟨hk.2,hk.1.2⟩)) hg hat);replace aj:=aK (Kd.R_after (ok:=(fun k_=>some k_≠(.slice aA ah.length aC:Value).ownBlock)) (by (with_reducible repeat (first|apply Kd.R_alloc|apply Kd.R_drewN|apply Kd.R_drew));exact Kd.R_mono aj.out (fun _ hk=>⟨hk.1.2,hk.2⟩)) hg hat);replace HB:=aK (hb);clear am;clear ho hb hg hat;obtain⟨cE,cF,cG,cH,cI,cJ,cK,cL,cM,cN,cO,cP,cQ,cR,cS,cT⟩:=bf8 (w:=w18) aa)|((with_reducible refine gate_callee (f:=46) rfl ?_);refine gL (some 22) Try.func46 #[.agg #[.int .i64 ao,.float .f64 ap,.string aq]] ?_;(with_reducible refine (engrossref1_PutVal.calls k ao ap aq af _ A8.out).mono ?_);rintro e w21 ⟨cU,rfl,ho0,hb⟩;refine⟨_,rfl,?_⟩;have az:=aK (Kd.R_lower (Kd.R_new' (Kd.R_new' (Kd.R_new' ho0 (Kd.R_lt (by (with_reducible repeat (first|apply Kd.R_alloc|apply Kd.R_drewN|apply Kd.R_drew));exact ab.out))) (Kd.R_lt (by (with_reducible repeat (first|apply Kd.R_alloc|apply Kd.R_drewN|apply Kd.R_drew));exact aj.out))) (Kd.R_lt (by (with_reducible repeat (first|apply Kd.R_alloc|apply Kd.R_drewN|apply Kd.R_drew));exact ay.out))) (below_size (bC HB)));replace ab:=rE ab (Kd.R_base ho0) hb;replace aj:=rE aj (Kd.R_base ho0) hb;replace ay:=rE ay (Kd.R_base ho0) hb;replace aa:=bB aa hb;replace HB:=bW HB hb;(try clear hb);(try clear hb2);(try clear hk);(try clear hi);(try clear ho0);obtain⟨aN,aQ,bi⟩:=Kd.R_slice az.out;subst bi)|((with_reducible refine gate_builtin (b:=.append) (xs:=#[.tmp 19,.tmp 22]) rfl ?_);at_builtin;refine Kd.R_append_rows (Kd.int .u8) (w0:=w) w.heap.size rfl (.tmp 19) (.tmp 22) 30 5 (.int .u8 0) 1 rfl Try.underlying30 info5 rfl (by decide) (by omega) aW ac af _ _ _ (fun k_=>some k_≠(.slice aA ah.length aC:Value).ownBlock∧some k_≠(.slice aD ae.length aE:Value).ownBlock∧some k_≠(.slice aN af.length aQ:Value).ownBlock) (fun _=>False) rfl rfl ?aO ?aR (fun _ _ h=>h) (fun _ h=>h.elim) ?aF ?aB ?aS ?aL ?_;(case aR=>exact sC (Kd.R_reads' az.out).2.2);(case aB=>exact (bC HB));(case aF=>exact (fun k_ hk=>⟨Kd.fresh' (Kd.R_lt (by (with_reducible repeat (first|apply Kd.R_alloc|apply Kd.R_drewN|apply Kd.R_drew));exact ab.out)) k_ hk,Kd.fresh' (Kd.R_lt (by (with_reducible repeat (first|apply Kd.R_alloc|apply Kd.R_drewN|apply Kd.R_drew));exact aj.out)) k_ hk,Kd.fresh' (Kd.R_lt (by (with_reducible repeat (first|apply Kd.R_alloc|apply Kd.R_drewN|apply Kd.R_drew));exact az.out)) k_ hk⟩));(case aO=>exact (by (with_reducible repeat (first|apply Kd.R_alloc|apply Kd.R_drewN|apply Kd.R_drew));exact Kd.R_mono ay.out (fun _ hk=>⟨hk.1.1,⟨hk.1.2,hk.2⟩⟩)));(case aS=>exact (below_size (bC HB)));(case aL=>have:=LMc9.out;omega);intro cV w22 ho hb hg hat;rw [← Ny451.out] at ho;have aZ:=aK (ho);replace aa:=aK (blk_grown (bQ aa) hg (Kd.R_ne ay.out aa.out (by decide)));replace ab:=aK (Kd.R_after (ok:=(fun k_=>some k_≠(.slice aD ae.length aE:Value).ownBlock∧some k_≠(.slice aN af.length aQ:Value).ownBlock)) (by (with_reducible repeat (first|apply Kd.R_alloc|apply Kd.R_drewN|apply Kd.R_drew));exact Kd.R_mono ab.out (fun _ hk=>⟨⟨hk.1.1,hk.2⟩,hk.1.2⟩)) hg hat);replace aj:=aK (Kd.R_after (ok:=(fun k_=>some k_≠(.slice aA ah.length aC:Value).ownBlock∧some k_≠(.slice aN af.length aQ:Value).ownBlock)) (by (with_reducible repeat (first|apply Kd.R_alloc|apply Kd.R_drewN|apply Kd.R_drew));exact Kd.R_mono aj.out (fun _ hk=>⟨⟨hk.1.1,hk.2⟩,hk.1.2⟩)) hg hat);replace az:=aK (Kd.R_after (ok:=(fun k_=>some k_≠(.slice aA ah.length aC:Value).ownBlock∧some k_≠(.slice aD ae.length aE:Value).ownBlock)) (by (with_reducible repeat (first|apply Kd.R_alloc|apply Kd.R_drewN|apply Kd.R_drew));exact Kd.R_mono az.out (fun _ hk=>⟨⟨hk.1.1.2,hk.1.2⟩,hk.2⟩)) hg hat);replace HB:=aK (hb);clear ay;clear ho hb hg hat))
 go_ret
 exact⟨_,by first|rfl|(simp [errW_none,errW_some] <;> rfl)|(simp [*,errW_none,errW_some] <;> rfl),by (with_reducible repeat (first|apply Kd.R_alloc|apply Kd.R_drewN|apply Kd.R_drew));exact Kd.R_mono aZ.out (fun _ hk=>trivial),by repeat (first|(with_reducible first|exact HB.out|apply below_alloc|apply pw_below_drewN|apply below_drew1|refine below_set ?_ aG.out)|exact HB.out)⟩
end Go.Proofs.Ytmmjpieafbjggaa.P
end
section
namespace Go.Proofs.Ytmmjpieafbjggaa.P
open Go.RowKit Go.Proofs.YtmmjpieafbjggaaW.PrintWords Go.Proofs.YtmmjpieafbjggaaW.PrintLast Go.Proofs.YtmmjpieafbjggaaW.PrintMore
attribute [local go_sem] max2_int min2_int max_two min_two max_three min_three max_four min_four   -- for this text's walks alone
attribute [local go_sem] x_str_gtr x_str_leq x_str_geq ext_bits ext_frombits ext_neg x_store_float Instr.field asAgg
set_option linter.unusedVariables false
set_option linter.unusedSimpArgs false
mutual
def engrossref10_NodeBytes.l0:Nat→List Int→Int→Bool→List (S56)→List ByteArray→List Int→Option (List Int)
 | 0,_,_,_,_,_,_=>none
 | k+1,x3,x4,x455000,x455001,x455002,x455003=>if x4<(x455001.length:Int) then (if 0≤x4 then ((engrossref10_Bytes.f k ((rd_T56 x455001 x4).f0) ((rd_T56 x455001 x4).f1.f0) ((rd_T56 x455001 x4).f1.f1) ((rd_T56 x455001 x4).f1.f2) ((rd_T56 x455001 x4).f2) ((rd_T56 x455001 x4).f3.f0) ((rd_T56 x455001 x4).f3.f1) ((rd_T56 x455001 x4).f3.f2)).bind fun t466=>(if x3.length+t466.length<140737488355328 then (engrossref10_NodeBytes.l0 k (x3++t466) (wrap64 (x4+1)) x455000 x455001 x455002 x455003) else (none))) else (none)) else (some x3)
def engrossref10_NodeBytes.l1:Nat→List Int→Int→Bool→List (S56)→List ByteArray→List Int→Option (List Int)
 | 0,_,_,_,_,_,_=>none
 | k+1,x5,x6,x455000,x455001,x455002,x455003=>if x6<(x455003.length:Int) then (if 0≤x6 then ((engrossref1_Put.f k (rd x455003 x6)).bind fun t482=>(if x5.length+t482.length<140737488355328 then (engrossref10_NodeBytes.l1 k (x5++t482) (wrap64 (x6+1)) x455000 x455001 x455002 x455003) else (none))) else (none)) else (engrossref10_NodeBytes.l2 k x5 0 x455000 x455001 x455002 x455003)
def engrossref10_NodeBytes.l2:Nat→List Int→Int→Bool→List (S56)→List ByteArray→List Int→Option (List Int)
 | 0,_,_,_,_,_,_=>none
 | k+1,x5,x7,x455000,x455001,x455002,x455003=>if x7<(x455002.length:Int) then (if 0≤x7 then ((engrossref1_PutText.f k (rdOf ByteArray.empty x455002 x7)).bind fun t489=>(if x5.length+t489.length<140737488355328 then (engrossref10_NodeBytes.l2 k (x5++t489) (wrap64 (x7+1)) x455000 x455001 x455002 x455003) else (none))) else (none)) else (some x5)
end
def engrossref10_NodeBytes.f (k:Nat) (a0_0:Bool) (l0_1:List (S56)) (l0_2:List ByteArray) (l0_3:List Int):Option (List Int):=(engrossref10_MayNode.f k a0_0 l0_1 l0_2 l0_3).bind fun t455=>(if t455=true then (if a0_0=true then ((some (([1]:List Int):List Int)).bind fun y456=>((engrossref1_Put.f k (l0_1.length:Int)).bind fun t459=>(if y456.length+t459.length<140737488355328 then (engrossref10_NodeBytes.l0 k (y456++t459) 0 a0_0 l0_1 l0_2 l0_3) else (none)))) else ((some (([2]:List Int):List Int)).bind fun y472=>((engrossref1_Put.f k (l0_3.length:Int)).bind fun t475=>(if y472.length+t475.length<140737488355328 then (engrossref10_NodeBytes.l1 k (y472++t475) 0 a0_0 l0_1 l0_2 l0_3) else (none))))) else (some ([]:List Int)))
set_option maxHeartbeats 8000000 in
set_option maxRecDepth 100000 in
theorem engrossref10_NodeBytes.calls (k:Nat) (ak:Bool) (ap:Option Addr) (aq:Nat) (ab:List (S56)) (ar:Option Addr) (au:Nat) (ae:List ByteArray) (av:Option Addr) (aw:Nat) (ac:List Int) (r:List Int) (w:World) (dj:Kd.C k56 w ap ab.length ab) (dk:ab.length≤aq) (dl:Kd.C Kd.string w ar ae.length ae) (dm:ae.length≤au) (dn:Kd.C (Kd.int .i64) w av ac.length ac) (dp:ac.length≤aw) (h:engrossref10_NodeBytes.f k ak ab ae ac=some r) :
  Calls Try.prog 14 #[.agg #[.bool ak,.slice ap ab.length aq,.slice ar ae.length au,.slice av ac.length aw]] w fun e w'=>∃ v0_:Value,e = .returned (v0_)∧Kd.R (Kd.int .u8) 5 w' w.heap.size (fun _=>True) v0_ r∧Below w.heap.size w w':=by
 have hu26:=Try.underlying26
 have hu56:=Try.underlying56
 have bx:=aK dj
 have da:=aK dk
 clear dj dk
 have bA:=aK dl
 have db:=aK dm
 clear dl dm
 have bD:=aK dn
 have dc:=aK dp
 clear dn dp
 have HB:=aK (Below.refl w.heap.size w)
 have H:((engrossref10_MayNode.f k ak ab ae ac).bind fun dd=>(if dd=true then (if ak=true then ((some (([1]:List Int):List Int)).bind fun ai=>((engrossref1_Put.f k (ab.length:Int)).bind fun ag=>(if ai.length+ag.length<140737488355328 then (engrossref10_NodeBytes.l0 k (ai++ag) 0 ak ab ae ac) else (none)))) else ((some (([2]:List Int):List Int)).bind fun aj=>((engrossref1_Put.f k (ac.length:Int)).bind fun ah=>(if aj.length+ah.length<140737488355328 then (engrossref10_NodeBytes.l1 k (aj++ah) 0 ak ab ae ac) else (none))))) else (some ([]:List Int))))=some r:=h
 clear h
 replace H:=oS H
 obtain⟨dd,A20,H⟩:=H
 replace H:(if dd=true then (if ak=true then ((some (([1]:List Int):List Int)).bind fun ai=>((engrossref1_Put.f k (ab.length:Int)).bind fun ag=>(if ai.length+ag.length<140737488355328 then (engrossref10_NodeBytes.l0 k (ai++ag) 0 ak ab ae ac) else (none)))) else ((some (([2]:List Int):List Int)).bind fun aj=>((engrossref1_Put.f k (ac.length:Int)).bind fun ah=>(if aj.length+ah.length<140737488355328 then (engrossref10_NodeBytes.l1 k (aj++ah) 0 ak ab ae ac) else (none))))) else (some ([]:List Int)))=some r:=H
 have A2:=aK A20
 clear A20
 by_cases c3:dd=true
 rotate_left
 ·replace c3:=Bool.eq_false_iff.mpr c3
  subst c3
  have H1:(some ([]:List Int))=some r:=by rw [if_neg (show ¬ (false=true) by decide)] at H;exact H
  clear H
  have H:=H1
  clear H1
  obtain rfl:=Option.some.inj H
  go_enter Try.func14,Try.ntmps14
  go_wp2_with (first|((with_reducible refine gate_dst (N:=1) rfl ?_);refine box_event ?hg (N:=1) ?hd (cs:=#[.bool ak,.slice ap ab.length aq,.slice ar ae.length au,.slice av ac.length aw]) (t:=26) ?hr ?_;(case hd=>rfl);(case hg=>rfl);(case hr=>first|(go_simp;done)|(go_simp;rfl));intro aW hg w56 hbox hb;have aa:=aK (hbox);have dq:=bZ HB hg;have aX:=bZ HB hg;replace HB:=bW HB hb;clear hb hbox hg;obtain⟨eu,ev,ex,ey,ez,eA,eB,eC⟩:=bf4 (w:=w56) aa)|((with_reducible refine gate_callee (f:=15) rfl ?_);refine gL (some 9) Try.func15 #[.agg #[.bool ak,.slice ap ab.length aq,.slice ar ae.length au,.slice av ac.length aw]] ?_;(with_reducible refine (engrossref10_MayNode.calls k ak _ _ ab _ _ ae _ _ ac false _ ?side1 ?side2 ?side3 ?side4 ?side5 ?side6 A2.out).mono ?_);(case side1=>repeat (first|exact (Kd.C_below bx.out HB.out)|(with_reducible refine Kd.C_alloc ?_ _)|(with_reducible refine Kd.C_drewN ?_ _)|(with_reducible refine Kd.C_drew ?_)));(case side2=>exact da.out);(case side3=>repeat (first|exact (Kd.C_below bA.out HB.out)|(with_reducible refine Kd.C_alloc ?_ _)|(with_reducible refine Kd.C_drewN ?_ _)|(with_reducible refine Kd.C_drew ?_)));(case side4=>exact db.out);(case side5=>repeat (first|exact (Kd.C_below bD.out HB.out)|(with_reducible refine Kd.C_alloc ?_ _)|(with_reducible refine Kd.C_drewN ?_ _)|(with_reducible refine Kd.C_drew ?_)));(case side6=>exact dc.out);rintro e w58 ⟨rfl,hb⟩;refine⟨_,rfl,?_⟩;replace aa:=bB aa hb;replace HB:=bW HB hb;(try clear hb);(try clear hb2);(try clear hk);(try clear hi)))
  go_ret
  exact⟨_,by first|rfl|(simp [errW_none,errW_some] <;> rfl)|(simp [*,errW_none,errW_some] <;> rfl),by first|exact Kd.R_nil _ _ _ _ _|exact Kd.N_nil _ _ _ _ _|exact Kd.V_nil _ _ _ _ _|exact Kd.Q_nil _ _ _ _ _|exact Kd.S_nil _ _ _ _ _,by repeat (first|(with_reducible first|exact HB.out|apply below_alloc|apply pw_below_drewN|apply below_drew1|refine below_set ?_ aX.out)|exact HB.out)⟩
 subst c3
 have H1:(if ak=true then ((some (([1]:List Int):List Int)).bind fun ai=>((engrossref1_Put.f k (ab.length:Int)).bind fun ag=>(if ai.length+ag.length<140737488355328 then (engrossref10_NodeBytes.l0 k (ai++ag) 0 ak ab ae ac) else (none)))) else ((some (([2]:List Int):List Int)).bind fun aj=>((engrossref1_Put.f k (ac.length:Int)).bind fun ah=>(if aj.length+ah.length<140737488355328 then (engrossref10_NodeBytes.l1 k (aj++ah) 0 ak ab ae ac) else (none)))))=some r:=by rw [if_pos rfl] at H;exact H
 clear H
 have H:=H1
 clear H1
 by_cases c4:ak=true
 ·subst c4
  have H1:((some (([1]:List Int):List Int)).bind fun ai=>((engrossref1_Put.f k (ab.length:Int)).bind fun ag=>(if ai.length+ag.length<140737488355328 then (engrossref10_NodeBytes.l0 k (ai++ag) 0 true ab ae ac) else (none))))=some r:=by rw [if_pos rfl] at H;exact H
  clear H
  have H:=H1
  clear H1
  obtain⟨ai,hy456⟩:∃ y_:List Int,y_=(([1]:List Int)):=⟨_,rfl⟩
  replace H:((engrossref1_Put.f k (ab.length:Int)).bind fun ag=>(if ai.length+ag.length<140737488355328 then (engrossref10_NodeBytes.l0 k (ai++ag) 0 true ab ae ac) else (none)))=some r:=by first|(rw [hy456];with_reducible exact H)|(have H2_:=(Option.bind_some _ _).symm.trans H;rw [hy456];with_reducible exact H2_)|(have H2_:=(Option.bind_some _ _).symm.trans H;with_reducible exact H2_)|with_reducible exact H|(rw [hy456];exact H)|exact H
  have Ny456:=aK hy456
  clear hy456
  replace H:=oS H
  obtain⟨ag,A50,H⟩:=H
  replace H:(if ai.length+ag.length<140737488355328 then (engrossref10_NodeBytes.l0 k (ai++ag) 0 true ab ae ac) else (none))=some r:=H
  have A5:=aK A50
  clear A50
  by_cases c6:ai.length+ag.length<140737488355328
  rotate_left
  ·rw [if_neg c6] at H
   exact absurd H (by simp)
  rw [if_pos c6] at H
  have LMc6:=aK c6
  clear c6
  obtain⟨dL,hy462⟩:∃ y_:List Int,y_=(ai++ag):=⟨_,rfl⟩
  replace H:(engrossref10_NodeBytes.l0 k dL 0 true ab ae ac)=some r:=by first|(rw [hy462];with_reducible exact H)|(have H2_:=(Option.bind_some _ _).symm.trans H;rw [hy462];with_reducible exact H2_)|(have H2_:=(Option.bind_some _ _).symm.trans H;with_reducible exact H2_)|with_reducible exact H|(rw [hy462];exact H)|exact H
  have Ny462:=aK hy462
  clear hy462
  have H':=aK H
  clear H
  go_enter Try.func14,Try.ntmps14
  go_wp2_with (first|((with_reducible refine gate_dst (N:=1) rfl ?_);refine box_event ?hg (N:=1) ?hd (cs:=#[.bool true,.slice ap ab.length aq,.slice ar ae.length au,.slice av ac.length aw]) (t:=26) ?hr ?_;(case hd=>rfl);(case hg=>rfl);(case hr=>first|(go_simp;done)|(go_simp;rfl));intro aW hg w7 hbox hb;have aa:=aK (hbox);have dq:=bZ HB hg;have aX:=bZ HB hg;replace HB:=bW HB hb;clear hb hbox hg;obtain⟨bF,bI,bJ,bM,bN,bO,bU,bX⟩:=bf4 (w:=w7) aa)|((with_reducible refine gate_callee (f:=15) rfl ?_);refine gL (some 9) Try.func15 #[.agg #[.bool true,.slice ap ab.length aq,.slice ar ae.length au,.slice av ac.length aw]] ?_;(with_reducible refine (engrossref10_MayNode.calls k true _ _ ab _ _ ae _ _ ac true _ ?side1 ?side2 ?side3 ?side4 ?side5 ?side6 A2.out).mono ?_);(case side1=>repeat (first|exact (Kd.C_below bx.out HB.out)|(with_reducible refine Kd.C_alloc ?_ _)|(with_reducible refine Kd.C_drewN ?_ _)|(with_reducible refine Kd.C_drew ?_)));(case side2=>exact da.out);(case side3=>repeat (first|exact (Kd.C_below bA.out HB.out)|(with_reducible refine Kd.C_alloc ?_ _)|(with_reducible refine Kd.C_drewN ?_ _)|(with_reducible refine Kd.C_drew ?_)));(case side4=>exact db.out);(case side5=>repeat (first|exact (Kd.C_below bD.out HB.out)|(with_reducible refine Kd.C_alloc ?_ _)|(with_reducible refine Kd.C_drewN ?_ _)|(with_reducible refine Kd.C_drew ?_)));(case side6=>exact dc.out);rintro e w9 ⟨rfl,hb⟩;refine⟨_,rfl,?_⟩;replace aa:=bB aa hb;replace HB:=bW HB hb;(try clear hb);(try clear hb2);(try clear hk);(try clear hi);obtain⟨bf,bg,bh,bi,bj,bk,bl,bm⟩:=bf4 (w:=w9) aa)|((with_reducible refine gate_dst (N:=13) rfl ?_);refine Kd.R_lit (Kd.int .u8) _ 5 ?hg (N:=13) ?hd (xs:=([1]:List Int)) (inner:=[.int .u8 1]) (ok:=fun _=>True) (okp:=fun _=>True) ?hr ?hp (fun _ hk=>hk) trivial (Below.refl _ _) (Nat.le_refl _) (by simp) ?_;(case hd=>rfl);(case hg=>rfl);(case hr=>first|(go_simp;done)|(go_simp;rfl));(case hp=>exact (Reps.one (show Kd.M (Kd.int .u8) _ _ _ 1 [.int .u8 1] from rfl) (Reps.none _ _)));intro d5 w11 bY hb hg_ hnew_;clear hg_ hnew_;(first|rw [← Ny456.out] at bY|(simp only [Int.reduceToNat] at bY;rw [← Ny456.out] at bY));have aA:=aK (Kd.R_lower bY (below_size (bC HB)));replace aa:=bB aa hb;replace HB:=bW HB hb;clear hb bY;obtain⟨bn,bo,bp,bq,br,bs,bu,bv⟩:=bf4 (w:=w11) aa)|((with_reducible refine gate_callee (f:=28) rfl ?_);refine gL (some 17) Try.func28 #[.int .i64 (ab.length:Int)] ?_;(with_reducible refine (engrossref1_Put.calls k (ab.length:Int) ag _ A5.out).mono ?_);rintro e w14 ⟨eX,rfl,ho0,hb⟩;refine⟨_,rfl,?_⟩;have aY:=aK (Kd.R_lower (Kd.R_new' ho0 (Kd.R_lt (by (with_reducible repeat (first|apply Kd.R_alloc|apply Kd.R_drewN|apply Kd.R_drew));exact aA.out))) (below_size (bC HB)));replace aA:=rE aA (Kd.R_base ho0) hb;replace aa:=bB aa hb;replace HB:=bW HB hb;(try clear hb);(try clear hb2);(try clear hk);(try clear hi);(try clear ho0);obtain⟨d6,d7,d8⟩:=Kd.R_slice aY.out;subst d8)|((with_reducible refine gate_builtin (b:=.append) (xs:=#[.tmp 13,.tmp 17]) rfl ?_);at_builtin;refine Kd.R_append_rows (Kd.int .u8) (w0:=w) w.heap.size rfl (.tmp 13) (.tmp 17) 30 5 (.int .u8 0) 1 rfl Try.underlying30 info5 rfl (by decide) (by omega) d5 ai ag _ _ _ (fun k_=>some k_≠(.slice d6 ag.length d7:Value).ownBlock) (fun _=>False) rfl rfl ?aO ?aR (fun _ _ h=>h) (fun _ h=>h.elim) ?aF ?aB ?aS ?aL ?_;(case aR=>exact sC (Kd.R_reads' aY.out).2.2);(case aB=>exact (bC HB));(case aF=>exact (fun k_ hk=>Kd.fresh' (Kd.R_lt (by (with_reducible repeat (first|apply Kd.R_alloc|apply Kd.R_drewN|apply Kd.R_drew));exact aY.out)) k_ hk));(case aO=>exact (by (with_reducible repeat (first|apply Kd.R_alloc|apply Kd.R_drewN|apply Kd.R_drew));exact Kd.R_mono aA.out (fun _ hk=>hk.2)));(case aS=>exact (below_size (bC HB)));(case aL=>have:=LMc6.out;omega);intro eY w15 ho hb hg hat;rw [← Ny462.out] at ho;have dU:=aK (ho);replace aa:=aK (blk_grown (bQ aa) hg (Kd.R_ne aA.out aa.out (by decide)));replace aY:=aK (Kd.R_after (ok:=(fun _=>True)) (by (with_reducible repeat (first|apply Kd.R_alloc|apply Kd.R_drewN|apply Kd.R_drew));exact aY.out) hg hat);replace HB:=aK (hb);clear aA;clear ho hb hg hat))
  go_loopg [3,4] k (fun kq v3 v4 w'=>∃ (ay:List Int) (af:Int),v4 = .int .i64 af∧Aside0 (engrossref10_NodeBytes.l0 kq ay af true ab ae ac=some r)∧Aside0 (kq≤k)∧Aside0 (Kd.R (Kd.int .u8) 5 w' w.heap.size (fun _=>True) v3 ay)∧Aside0 (w'.heap[aW]? = some (.cells #[.bool true,(.slice ap ab.length aq),(.slice ar ae.length au),(.slice av ac.length aw)] 26 (0,0)))∧Aside0 (Below w.heap.size w w'))
  case atStart=>exact⟨(dL),(0),(by first|rfl|(simp;done)|(simp [*];done)),H',⟨Nat.le_refl _⟩,⟨by (with_reducible repeat (first|apply Kd.R_alloc|apply Kd.R_drewN|apply Kd.R_drew));exact Kd.R_mono dU.out (fun _ hk=>trivial)⟩,bK aa,bV HB⟩
  case round =>
   clear H'
   try clear c1
   try clear c2
   try clear p2
   try clear c3
   try clear c4
   try clear c6
   try clear c14
   try clear c15
   try clear bf bg bh bi
   try clear bn bo bp bq
   try clear bF bI bJ bM
   try clear bj bk bl bm
   try clear br bs bu bv
   try clear bN bO bU bX
   obtain⟨ay,af,rfl,HA,HK1,aQ,aa,HB⟩:=hrel
   cases gk with
   | zero=>exact absurd HA.out (by simp [engrossref10_NodeBytes.l0])
   | succ k1 =>
    have H:=HA.out
    clear HA
    simp only [engrossref10_NodeBytes.l0] at H
    by_cases c17:af<(ab.length:Int)
    rotate_left
    ·rw [if_neg c17] at H
     have de:decide (af<(ab.length:Int))=false:=decide_eq_false c17
     clear c17
     obtain rfl:=Option.some.inj H
     obtain⟨cb,cd,cf,cg,ch,cj,cm,cn⟩:=bf4 (w:=wr) aa
     go_wp2
     go_ret
     exact⟨_,by first|rfl|(simp [errW_none,errW_some] <;> rfl)|(simp [*,errW_none,errW_some] <;> rfl),by (with_reducible repeat (first|apply Kd.R_alloc|apply Kd.R_drewN|apply Kd.R_drew));exact aQ.out,by repeat (first|(with_reducible first|exact HB.out|apply below_alloc|apply pw_below_drewN|apply below_drew1|refine below_set ?_ aX.out)|exact HB.out)⟩
    rw [if_pos c17] at H
    have de:decide (af<(ab.length:Int))=true:=decide_eq_true c17
    clear c17
    by_cases c18:0≤af
    rotate_left
    ·rw [if_neg c18] at H
     exact absurd H (by simp)
    rw [if_pos c18] at H
    have dr:decide (0≤af)=true:=decide_eq_true c18
    clear c18
    replace H:=oS H
    obtain⟨aT,dM,H⟩:=H
    replace H:(if ay.length+aT.length<140737488355328 then (engrossref10_NodeBytes.l0 k1 (ay++aT) (wrap64 (af+1)) true ab ae ac) else (none))=some r:=H
    have A19:=aK dM
    clear dM
    by_cases c20:ay.length+aT.length<140737488355328
    rotate_left
    ·rw [if_neg c20] at H
     exact absurd H (by simp)
    rw [if_pos c20] at H
    have LMc20:=aK c20
    clear c20
    obtain⟨dN,hy469⟩:∃ y_:List Int,y_=(ay++aT):=⟨_,rfl⟩
    replace H:(engrossref10_NodeBytes.l0 k1 dN (wrap64 (af+1)) true ab ae ac)=some r:=by first|(rw [hy469];with_reducible exact H)|(have H2_:=(Option.bind_some _ _).symm.trans H;rw [hy469];with_reducible exact H2_)|(have H2_:=(Option.bind_some _ _).symm.trans H;with_reducible exact H2_)|with_reducible exact H|(rw [hy469];exact H)|exact H
    have Ny469:=aK hy469
    clear hy469
    have H':=aK H
    clear H
    obtain⟨cp,cq,ct,cu,cv,cw,cx,cz⟩:=bf4 (w:=wr) aa
    have b8:0≤(af:Int):=dA
    have b9:af<(ab.length:Int):=dA
    obtain⟨eT,e465,aC,aD,aE,aG,aH,aI,aJ,aM⟩:=at_T56 bx.out af b8 b9
    cases e465
    replace aC:=cW HB aC
    replace aD:=cW HB aD
    replace aE:=cW HB aE
    replace aG:=cW HB aG
    replace aH:=cW HB aH
    replace aI:=cW HB aI
    replace aJ:=cW HB aJ
    replace aM:=cW HB aM
    replace b8:=eq_true b8
    replace b9:=eq_true b9
    go_wp2_with (first|((with_reducible refine gate_callee (f:=29) rfl ?_);refine gL (some 32) Try.func29 #[.agg #[.string ((rd_T56 ab af).f0),.int .i64 ((rd_T56 ab af).f1.f0),.float .f64 ((rd_T56 ab af).f1.f1),.string ((rd_T56 ab af).f1.f2),.int .i64 ((rd_T56 ab af).f2),.int .i64 ((rd_T56 ab af).f3.f0),.float .f64 ((rd_T56 ab af).f3.f1),.string ((rd_T56 ab af).f3.f2)]] ?_;(with_reducible refine (engrossref10_Bytes.calls k1 ((rd_T56 ab af).f0) ((rd_T56 ab af).f1.f0) ((rd_T56 ab af).f1.f1) ((rd_T56 ab af).f1.f2) ((rd_T56 ab af).f2) ((rd_T56 ab af).f3.f0) ((rd_T56 ab af).f3.f1) ((rd_T56 ab af).f3.f2) aT _ A19.out).mono ?_);rintro e w22 ⟨eZ,rfl,ho0,hb⟩;refine⟨_,rfl,?_⟩;have aZ:=aK (Kd.R_lower (Kd.R_new' ho0 (Kd.R_lt (by (with_reducible repeat (first|apply Kd.R_alloc|apply Kd.R_drewN|apply Kd.R_drew));exact aQ.out))) (below_size (bC HB)));replace aQ:=rE aQ (Kd.R_base ho0) hb;replace aa:=bB aa hb;replace HB:=bW HB hb;(try clear hb);(try clear hb2);(try clear hk);(try clear hi);(try clear ho0);obtain⟨d9,ed,eg⟩:=Kd.R_slice aZ.out;subst eg)|((with_reducible refine gate_builtin (b:=.append) (xs:=#[.tmp 26,.tmp 32]) rfl ?_);at_builtin;refine Kd.R_append_rows (Kd.int .u8) (w0:=w) w.heap.size rfl (.tmp 26) (.tmp 32) 30 5 (.int .u8 0) 1 rfl Try.underlying30 info5 rfl (by decide) (by omega) u3 ay aT _ _ _ (fun k_=>some k_≠(.slice d9 aT.length ed:Value).ownBlock) (fun _=>False) rfl rfl ?aO ?aR (fun _ _ h=>h) (fun _ h=>h.elim) ?aF ?aB ?aS ?aL ?_;(case aR=>exact sC (Kd.R_reads' aZ.out).2.2);(case aB=>exact (bC HB));(case aF=>exact (fun k_ hk=>Kd.fresh' (Kd.R_lt (by (with_reducible repeat (first|apply Kd.R_alloc|apply Kd.R_drewN|apply Kd.R_drew));exact aZ.out)) k_ hk));(case aO=>exact (by (with_reducible repeat (first|apply Kd.R_alloc|apply Kd.R_drewN|apply Kd.R_drew));exact Kd.R_mono aQ.out (fun _ hk=>hk.2)));(case aS=>exact (below_size (bC HB)));(case aL=>have:=LMc20.out;omega);intro e8 w23 ho hb hg hat;rw [← Ny469.out] at ho;have dV:=aK (ho);replace aa:=aK (blk_grown (bQ aa) hg (Kd.R_ne aQ.out aa.out (by decide)));replace aZ:=aK (Kd.R_after (ok:=(fun _=>True)) (by (with_reducible repeat (first|apply Kd.R_alloc|apply Kd.R_drewN|apply Kd.R_drew));exact aZ.out) hg hat);replace HB:=aK (hb);clear aQ;clear ho hb hg hat))
    go_roundg k1
    case measure=>have:=HK1.out;omega
    case rel=>exact⟨(dN),(wrap64 (af+1)),(by first|rfl|(simp;done)|(simp [*];done)),H',⟨by have:=HK1.out;omega⟩,⟨by (with_reducible repeat (first|apply Kd.R_alloc|apply Kd.R_drewN|apply Kd.R_drew));exact Kd.R_mono dV.out (fun _ hk=>trivial)⟩,bK aa,bV HB⟩
 replace c4:=Bool.eq_false_iff.mpr c4
 subst c4
 have H1:((some (([2]:List Int):List Int)).bind fun aj=>((engrossref1_Put.f k (ac.length:Int)).bind fun ah=>(if aj.length+ah.length<140737488355328 then (engrossref10_NodeBytes.l1 k (aj++ah) 0 false ab ae ac) else (none))))=some r:=by rw [if_neg (show ¬ (false=true) by decide)] at H;exact H
 clear H
 have H:=H1
 clear H1
 obtain⟨aj,hy472⟩:∃ y_:List Int,y_=(([2]:List Int)):=⟨_,rfl⟩
 replace H:((engrossref1_Put.f k (ac.length:Int)).bind fun ah=>(if aj.length+ah.length<140737488355328 then (engrossref10_NodeBytes.l1 k (aj++ah) 0 false ab ae ac) else (none)))=some r:=by first|(rw [hy472];with_reducible exact H)|(have H2_:=(Option.bind_some _ _).symm.trans H;rw [hy472];with_reducible exact H2_)|(have H2_:=(Option.bind_some _ _).symm.trans H;with_reducible exact H2_)|with_reducible exact H|(rw [hy472];exact H)|exact H
 have Ny472:=aK hy472
 clear hy472
 replace H:=oS H
 obtain⟨ah,dO,H⟩:=H
 replace H:(if aj.length+ah.length<140737488355328 then (engrossref10_NodeBytes.l1 k (aj++ah) 0 false ab ae ac) else (none))=some r:=H
 have A26:=aK dO
 clear dO
 by_cases c27:aj.length+ah.length<140737488355328
 rotate_left
 ·rw [if_neg c27] at H
  exact absurd H (by simp)
 rw [if_pos c27] at H
 have LMc27:=aK c27
 clear c27
 obtain⟨dP,hy478⟩:∃ y_:List Int,y_=(aj++ah):=⟨_,rfl⟩
 replace H:(engrossref10_NodeBytes.l1 k dP 0 false ab ae ac)=some r:=by first|(rw [hy478];with_reducible exact H)|(have H2_:=(Option.bind_some _ _).symm.trans H;rw [hy478];with_reducible exact H2_)|(have H2_:=(Option.bind_some _ _).symm.trans H;with_reducible exact H2_)|with_reducible exact H|(rw [hy478];exact H)|exact H
 have Ny478:=aK hy478
 clear hy478
 have H':=aK H
 clear H
 go_enter Try.func14,Try.ntmps14
 go_wp2_with (first|((with_reducible refine gate_dst (N:=1) rfl ?_);refine box_event ?hg (N:=1) ?hd (cs:=#[.bool false,.slice ap ab.length aq,.slice ar ae.length au,.slice av ac.length aw]) (t:=26) ?hr ?_;(case hd=>rfl);(case hg=>rfl);(case hr=>first|(go_simp;done)|(go_simp;rfl));intro aW hg w28 hbox hb;have aa:=aK (hbox);have dq:=bZ HB hg;have aX:=bZ HB hg;replace HB:=bW HB hb;clear hb hbox hg;obtain⟨cA,cB,cC,cD,cE,cF,cG,cH⟩:=bf4 (w:=w28) aa)|((with_reducible refine gate_callee (f:=15) rfl ?_);refine gL (some 9) Try.func15 #[.agg #[.bool false,.slice ap ab.length aq,.slice ar ae.length au,.slice av ac.length aw]] ?_;(with_reducible refine (engrossref10_MayNode.calls k false _ _ ab _ _ ae _ _ ac true _ ?side1 ?side2 ?side3 ?side4 ?side5 ?side6 A2.out).mono ?_);(case side1=>repeat (first|exact (Kd.C_below bx.out HB.out)|(with_reducible refine Kd.C_alloc ?_ _)|(with_reducible refine Kd.C_drewN ?_ _)|(with_reducible refine Kd.C_drew ?_)));(case side2=>exact da.out);(case side3=>repeat (first|exact (Kd.C_below bA.out HB.out)|(with_reducible refine Kd.C_alloc ?_ _)|(with_reducible refine Kd.C_drewN ?_ _)|(with_reducible refine Kd.C_drew ?_)));(case side4=>exact db.out);(case side5=>repeat (first|exact (Kd.C_below bD.out HB.out)|(with_reducible refine Kd.C_alloc ?_ _)|(with_reducible refine Kd.C_drewN ?_ _)|(with_reducible refine Kd.C_drew ?_)));(case side6=>exact dc.out);rintro e w30 ⟨rfl,hb⟩;refine⟨_,rfl,?_⟩;replace aa:=bB aa hb;replace HB:=bW HB hb;(try clear hb);(try clear hb2);(try clear hk);(try clear hi);obtain⟨cI,cJ,cK,cL,cM,cN,cO,cP⟩:=bf4 (w:=w30) aa)|((with_reducible refine gate_dst (N:=35) rfl ?_);refine Kd.R_lit (Kd.int .u8) _ 5 ?hg (N:=35) ?hd (xs:=([2]:List Int)) (inner:=[.int .u8 2]) (ok:=fun _=>True) (okp:=fun _=>True) ?hr ?hp (fun _ hk=>hk) trivial (Below.refl _ _) (Nat.le_refl _) (by simp) ?_;(case hd=>rfl);(case hg=>rfl);(case hr=>first|(go_simp;done)|(go_simp;rfl));(case hp=>exact (Reps.one (show Kd.M (Kd.int .u8) _ _ _ 2 [.int .u8 2] from rfl) (Reps.none _ _)));intro eh w32 ca hb hg_ hnew_;clear hg_ hnew_;(first|rw [← Ny472.out] at ca|(simp only [Int.reduceToNat] at ca;rw [← Ny472.out] at ca));have aN:=aK (Kd.R_lower ca (below_size (bC HB)));replace aa:=bB aa hb;replace HB:=bW HB hb;clear hb ca;obtain⟨cQ,cR,cS,cT,cU,cV,cX,cY⟩:=bf4 (w:=w32) aa)|((with_reducible refine gate_callee (f:=28) rfl ?_);refine gL (some 39) Try.func28 #[.int .i64 (ac.length:Int)] ?_;(with_reducible refine (engrossref1_Put.calls k (ac.length:Int) ah _ A26.out).mono ?_);rintro e w35 ⟨e9,rfl,ho0,hb⟩;refine⟨_,rfl,?_⟩;have ba:=aK (Kd.R_lower (Kd.R_new' ho0 (Kd.R_lt (by (with_reducible repeat (first|apply Kd.R_alloc|apply Kd.R_drewN|apply Kd.R_drew));exact aN.out))) (below_size (bC HB)));replace aN:=rE aN (Kd.R_base ho0) hb;replace aa:=bB aa hb;replace HB:=bW HB hb;(try clear hb);(try clear hb2);(try clear hk);(try clear hi);(try clear ho0);obtain⟨ei,ej,ek⟩:=Kd.R_slice ba.out;subst ek)|((with_reducible refine gate_builtin (b:=.append) (xs:=#[.tmp 35,.tmp 39]) rfl ?_);at_builtin;refine Kd.R_append_rows (Kd.int .u8) (w0:=w) w.heap.size rfl (.tmp 35) (.tmp 39) 30 5 (.int .u8 0) 1 rfl Try.underlying30 info5 rfl (by decide) (by omega) eh aj ah _ _ _ (fun k_=>some k_≠(.slice ei ah.length ej:Value).ownBlock) (fun _=>False) rfl rfl ?aO ?aR (fun _ _ h=>h) (fun _ h=>h.elim) ?aF ?aB ?aS ?aL ?_;(case aR=>exact sC (Kd.R_reads' ba.out).2.2);(case aB=>exact (bC HB));(case aF=>exact (fun k_ hk=>Kd.fresh' (Kd.R_lt (by (with_reducible repeat (first|apply Kd.R_alloc|apply Kd.R_drewN|apply Kd.R_drew));exact ba.out)) k_ hk));(case aO=>exact (by (with_reducible repeat (first|apply Kd.R_alloc|apply Kd.R_drewN|apply Kd.R_drew));exact Kd.R_mono aN.out (fun _ hk=>hk.2)));(case aS=>exact (below_size (bC HB)));(case aL=>have:=LMc27.out;omega);intro fa w36 ho hb hg hat;rw [← Ny478.out] at ho;have dW:=aK (ho);replace aa:=aK (blk_grown (bQ aa) hg (Kd.R_ne aN.out aa.out (by decide)));replace ba:=aK (Kd.R_after (ok:=(fun _=>True)) (by (with_reducible repeat (first|apply Kd.R_alloc|apply Kd.R_drewN|apply Kd.R_drew));exact ba.out) hg hat);replace HB:=aK (hb);clear aN;clear ho hb hg hat))
 go_loopg [5,6] k (fun kq v5 v6 w'=>∃ (ax:List Int) (al:Int),v6 = .int .i64 al∧Aside0 (engrossref10_NodeBytes.l1 kq ax al false ab ae ac=some r)∧Aside0 (kq≤k)∧Aside0 (Kd.R (Kd.int .u8) 5 w' w.heap.size (fun _=>True) v5 ax)∧Aside0 (w'.heap[aW]? = some (.cells #[.bool false,(.slice ap ab.length aq),(.slice ar ae.length au),(.slice av ac.length aw)] 26 (0,0)))∧Aside0 (Below w.heap.size w w'))
 case atStart=>exact⟨(dP),(0),(by first|rfl|(simp;done)|(simp [*];done)),H',⟨Nat.le_refl _⟩,⟨by (with_reducible repeat (first|apply Kd.R_alloc|apply Kd.R_drewN|apply Kd.R_drew));exact Kd.R_mono dW.out (fun _ hk=>trivial)⟩,bK aa,bV HB⟩
 case round =>
  clear H'
  try clear c1
  try clear c2
  try clear p2
  try clear c3
  try clear c4
  try clear p4
  try clear q4
  try clear hx4
  try clear c6
  try clear p6
  try clear c14
  try clear c15
  try clear c17
  try clear de
  try clear c18
  try clear dr
  try clear c20
  try clear c27
  try clear c28
  try clear c29
  try clear bf bg bh bi
  try clear bn bo bp bq
  try clear cp cq ct cu
  try clear cb cd cf cg
  try clear cA cB cC cD
  try clear cI cJ cK cL
  try clear cQ cR cS cT
  try clear bF bI bJ bM
  try clear bj bk bl bm
  try clear br bs bu bv
  try clear cv cw cx cz
  try clear ch cj cm cn
  try clear cE cF cG cH
  try clear cM cN cO cP
  try clear cU cV cX cY
  try clear bN bO bU bX
  try clear aC
  try clear aD
  try clear aE
  try clear aG
  try clear aH
  try clear aI
  try clear aJ
  try clear aM
  try clear p2
  try clear b8
  try clear b9
  obtain⟨ax,al,rfl,HA,HK1,ao,aa,HB⟩:=hrel
  cases gk with
  | zero=>exact absurd HA.out (by simp [engrossref10_NodeBytes.l1])
  | succ k1 =>
   have H:=HA.out
   clear HA
   simp only [engrossref10_NodeBytes.l1] at H
   by_cases c38:al<(ac.length:Int)
   ·rw [if_pos c38] at H
    have dt:decide (al<(ac.length:Int))=true:=decide_eq_true c38
    clear c38
    by_cases c39:0≤al
    rotate_left
    ·rw [if_neg c39] at H
     exact absurd H (by simp)
    rw [if_pos c39] at H
    have dX:decide (0≤al)=true:=decide_eq_true c39
    clear c39
    replace H:=oS H
    obtain⟨aU,dQ,H⟩:=H
    replace H:(if ax.length+aU.length<140737488355328 then (engrossref10_NodeBytes.l1 k1 (ax++aU) (wrap64 (al+1)) false ab ae ac) else (none))=some r:=H
    have A40:=aK dQ
    clear dQ
    by_cases c41:ax.length+aU.length<140737488355328
    rotate_left
    ·rw [if_neg c41] at H
     exact absurd H (by simp)
    rw [if_pos c41] at H
    have LMc41:=aK c41
    clear c41
    obtain⟨dR,hy485⟩:∃ y_:List Int,y_=(ax++aU):=⟨_,rfl⟩
    replace H:(engrossref10_NodeBytes.l1 k1 dR (wrap64 (al+1)) false ab ae ac)=some r:=by first|(rw [hy485];with_reducible exact H)|(have H2_:=(Option.bind_some _ _).symm.trans H;rw [hy485];with_reducible exact H2_)|(have H2_:=(Option.bind_some _ _).symm.trans H;with_reducible exact H2_)|with_reducible exact H|(rw [hy485];exact H)|exact H
    have Ny485:=aK hy485
    clear hy485
    have H':=aK H
    clear H
    obtain⟨du,dv,dw,dx,dy,dz,dB,dC⟩:=bf4 (w:=wr) aa
    have df:0≤(al:Int):=dA
    have dg:al<(ac.length:Int):=dA
    obtain⟨eU,e481,bw⟩:=Kd.at_int bD.out al df dg
    cases e481
    replace bw:=cW HB bw
    replace df:=eq_true df
    replace dg:=eq_true dg
    go_wp2_with (first|((with_reducible refine gate_callee (f:=28) rfl ?_);refine gL (some 54) Try.func28 #[.int .i64 (rd ac al)] ?_;(with_reducible refine (engrossref1_Put.calls k1 (rd ac al) aU _ A40.out).mono ?_);rintro e w43 ⟨fb,rfl,ho0,hb⟩;refine⟨_,rfl,?_⟩;have bb:=aK (Kd.R_lower (Kd.R_new' ho0 (Kd.R_lt (by (with_reducible repeat (first|apply Kd.R_alloc|apply Kd.R_drewN|apply Kd.R_drew));exact ao.out))) (below_size (bC HB)));replace ao:=rE ao (Kd.R_base ho0) hb;replace aa:=bB aa hb;replace HB:=bW HB hb;(try clear hb);(try clear hb2);(try clear hk);(try clear hi);(try clear ho0);obtain⟨el,em,ep⟩:=Kd.R_slice bb.out;subst ep)|((with_reducible refine gate_builtin (b:=.append) (xs:=#[.tmp 48,.tmp 54]) rfl ?_);at_builtin;refine Kd.R_append_rows (Kd.int .u8) (w0:=w) w.heap.size rfl (.tmp 48) (.tmp 54) 30 5 (.int .u8 0) 1 rfl Try.underlying30 info5 rfl (by decide) (by omega) u5 ax aU _ _ _ (fun k_=>some k_≠(.slice el aU.length em:Value).ownBlock) (fun _=>False) rfl rfl ?aO ?aR (fun _ _ h=>h) (fun _ h=>h.elim) ?aF ?aB ?aS ?aL ?_;(case aR=>exact sC (Kd.R_reads' bb.out).2.2);(case aB=>exact (bC HB));(case aF=>exact (fun k_ hk=>Kd.fresh' (Kd.R_lt (by (with_reducible repeat (first|apply Kd.R_alloc|apply Kd.R_drewN|apply Kd.R_drew));exact bb.out)) k_ hk));(case aO=>exact (by (with_reducible repeat (first|apply Kd.R_alloc|apply Kd.R_drewN|apply Kd.R_drew));exact Kd.R_mono ao.out (fun _ hk=>hk.2)));(case aS=>exact (below_size (bC HB)));(case aL=>have:=LMc41.out;omega);intro fd w44 ho hb hg hat;rw [← Ny485.out] at ho;have dY:=aK (ho);replace aa:=aK (blk_grown (bQ aa) hg (Kd.R_ne ao.out aa.out (by decide)));replace bb:=aK (Kd.R_after (ok:=(fun _=>True)) (by (with_reducible repeat (first|apply Kd.R_alloc|apply Kd.R_drewN|apply Kd.R_drew));exact bb.out) hg hat);replace HB:=aK (hb);clear ao;clear ho hb hg hat))
    go_roundg k1
    case measure=>have:=HK1.out;omega
    case rel=>exact⟨(dR),(wrap64 (al+1)),(by first|rfl|(simp;done)|(simp [*];done)),H',⟨by have:=HK1.out;omega⟩,⟨by (with_reducible repeat (first|apply Kd.R_alloc|apply Kd.R_drewN|apply Kd.R_drew));exact Kd.R_mono dY.out (fun _ hk=>trivial)⟩,bK aa,bV HB⟩
   rw [if_neg c38] at H
   have dt:decide (al<(ac.length:Int))=false:=decide_eq_false c38
   clear c38
   have H':=aK H
   clear H
   obtain⟨dD,dE,dF,dG,dH,dI,dJ,dK⟩:=bf4 (w:=wr) aa
   go_wp2
   go_loopg [5,7] k1 (fun kq v5 v7 w'=>∃ (az:List Int) (am:Int),v7 = .int .i64 am∧Aside0 (engrossref10_NodeBytes.l2 kq az am false ab ae ac=some r)∧Aside0 (kq≤k1)∧Aside0 (Kd.R (Kd.int .u8) 5 w' w.heap.size (fun _=>True) v5 az)∧Aside0 (w'.heap[aW]? = some (.cells #[.bool false,(.slice ap ab.length aq),(.slice ar ae.length au),(.slice av ac.length aw)] 26 (0,0)))∧Aside0 (Below w.heap.size w w'))
   case atStart=>exact⟨(ax),(0),(by first|rfl|(simp;done)|(simp [*];done)),H',⟨Nat.le_refl _⟩,⟨by (with_reducible repeat (first|apply Kd.R_alloc|apply Kd.R_drewN|apply Kd.R_drew));exact ao.out⟩,bK aa,bV HB⟩
   case round =>
    clear H'
    try clear c1
    try clear c2
    try clear p2
    try clear c3
    try clear c4
    try clear p4
    try clear q4
    try clear hx4
    try clear c6
    try clear p6
    try clear c14
    try clear c15
    try clear c17
    try clear de
    try clear c18
    try clear dr
    try clear c20
    try clear c27
    try clear c28
    try clear c29
    try clear c38
    try clear dt
    try clear c39
    try clear dX
    try clear c41
    try clear p46
    try clear q46
    try clear fe
    try clear bf bg bh bi
    try clear bn bo bp bq
    try clear cp cq ct cu
    try clear cb cd cf cg
    try clear cA cB cC cD
    try clear cI cJ cK cL
    try clear cQ cR cS cT
    try clear du dv dw dx
    try clear dD dE dF dG
    try clear bF bI bJ bM
    try clear bj bk bl bm
    try clear br bs bu bv
    try clear cv cw cx cz
    try clear ch cj cm cn
    try clear cE cF cG cH
    try clear cM cN cO cP
    try clear cU cV cX cY
    try clear dy dz dB dC
    try clear dH dI dJ dK
    try clear bN bO bU bX
    try clear aC
    try clear aD
    try clear aE
    try clear aG
    try clear aH
    try clear aI
    try clear aJ
    try clear aM
    try clear bw
    try clear p2
    try clear p4
    try clear b8
    try clear df
    try clear p6
    try clear q4
    try clear b9
    try clear dg
    obtain⟨az,am,rfl,HA,HK2,ao,aa,HB⟩:=hrel
    cases gk with
    | zero=>exact absurd HA.out (by simp [engrossref10_NodeBytes.l2])
    | succ k2 =>
     have H:=HA.out
     clear HA
     simp only [engrossref10_NodeBytes.l2] at H
     by_cases c47:am<(ae.length:Int)
     rotate_left
     ·rw [if_neg c47] at H
      have dZ:decide (am<(ae.length:Int))=false:=decide_eq_false c47
      clear c47
      obtain rfl:=Option.some.inj H
      obtain⟨eD,eE,eF,eG,eH,eI,eJ,eK⟩:=bf4 (w:=wr) aa
      go_wp2
      go_ret
      exact⟨_,by first|rfl|(simp [errW_none,errW_some] <;> rfl)|(simp [*,errW_none,errW_some] <;> rfl),by (with_reducible repeat (first|apply Kd.R_alloc|apply Kd.R_drewN|apply Kd.R_drew));exact ao.out,by repeat (first|(with_reducible first|exact HB.out|apply below_alloc|apply pw_below_drewN|apply below_drew1|refine below_set ?_ aX.out)|exact HB.out)⟩
     rw [if_pos c47] at H
     have dZ:decide (am<(ae.length:Int))=true:=decide_eq_true c47
     clear c47
     by_cases c48:0≤am
     rotate_left
     ·rw [if_neg c48] at H
      exact absurd H (by simp)
     rw [if_pos c48] at H
     have eV:decide (0≤am)=true:=decide_eq_true c48
     clear c48
     replace H:=oS H
     obtain⟨aV,dS,H⟩:=H
     replace H:(if az.length+aV.length<140737488355328 then (engrossref10_NodeBytes.l2 k2 (az++aV) (wrap64 (am+1)) false ab ae ac) else (none))=some r:=H
     have A49:=aK dS
     clear dS
     by_cases c50:az.length+aV.length<140737488355328
     rotate_left
     ·rw [if_neg c50] at H
      exact absurd H (by simp)
     rw [if_pos c50] at H
     have LMc50:=aK c50
     clear c50
     obtain⟨dT,hy492⟩:∃ y_:List Int,y_=(az++aV):=⟨_,rfl⟩
     replace H:(engrossref10_NodeBytes.l2 k2 dT (wrap64 (am+1)) false ab ae ac)=some r:=by first|(rw [hy492];with_reducible exact H)|(have H2_:=(Option.bind_some _ _).symm.trans H;rw [hy492];with_reducible exact H2_)|(have H2_:=(Option.bind_some _ _).symm.trans H;with_reducible exact H2_)|with_reducible exact H|(rw [hy492];exact H)|exact H
     have Ny492:=aK hy492
     clear hy492
     have H':=aK H
     clear H
     obtain⟨eL,eM,eN,eO,eP,eQ,eR,eS⟩:=bf4 (w:=wr) aa
     have dh:0≤(am:Int):=dA
     have di:am<(ae.length:Int):=dA
     obtain⟨eW,e488,cZ⟩:=Kd.at_string bA.out am dh di
     cases e488
     replace cZ:=cW HB cZ
     replace dh:=eq_true dh
     replace di:=eq_true di
     go_wp2_with (first|((with_reducible refine gate_callee (f:=30) rfl ?_);refine gL (some 69) Try.func30 #[.string (rdOf ByteArray.empty ae am)] ?_;(with_reducible refine (engrossref1_PutText.calls k2 (rdOf ByteArray.empty ae am) aV _ A49.out).mono ?_);rintro e w52 ⟨ff,rfl,ho0,hb⟩;refine⟨_,rfl,?_⟩;have bc:=aK (Kd.R_lower (Kd.R_new' ho0 (Kd.R_lt (by (with_reducible repeat (first|apply Kd.R_alloc|apply Kd.R_drewN|apply Kd.R_drew));exact ao.out))) (below_size (bC HB)));replace ao:=rE ao (Kd.R_base ho0) hb;replace aa:=bB aa hb;replace HB:=bW HB hb;(try clear hb);(try clear hb2);(try clear hk);(try clear hi);(try clear ho0);obtain⟨er,es,et⟩:=Kd.R_slice bc.out;subst et)|((with_reducible refine gate_builtin (b:=.append) (xs:=#[.tmp 63,.tmp 69]) rfl ?_);at_builtin;refine Kd.R_append_rows (Kd.int .u8) (w0:=w) w.heap.size rfl (.tmp 63) (.tmp 69) 30 5 (.int .u8 0) 1 rfl Try.underlying30 info5 rfl (by decide) (by omega) u5 az aV _ _ _ (fun k_=>some k_≠(.slice er aV.length es:Value).ownBlock) (fun _=>False) rfl rfl ?aO ?aR (fun _ _ h=>h) (fun _ h=>h.elim) ?aF ?aB ?aS ?aL ?_;(case aR=>exact sC (Kd.R_reads' bc.out).2.2);(case aB=>exact (bC HB));(case aF=>exact (fun k_ hk=>Kd.fresh' (Kd.R_lt (by (with_reducible repeat (first|apply Kd.R_alloc|apply Kd.R_drewN|apply Kd.R_drew));exact bc.out)) k_ hk));(case aO=>exact (by (with_reducible repeat (first|apply Kd.R_alloc|apply Kd.R_drewN|apply Kd.R_drew));exact Kd.R_mono ao.out (fun _ hk=>hk.2)));(case aS=>exact (below_size (bC HB)));(case aL=>have:=LMc50.out;omega);intro fg w53 ho hb hg hat;rw [← Ny492.out] at ho;have d4:=aK (ho);replace aa:=aK (blk_grown (bQ aa) hg (Kd.R_ne ao.out aa.out (by decide)));replace bc:=aK (Kd.R_after (ok:=(fun _=>True)) (by (with_reducible repeat (first|apply Kd.R_alloc|apply Kd.R_drewN|apply Kd.R_drew));exact bc.out) hg hat);replace HB:=aK (hb);clear ao;clear ho hb hg hat))
     go_roundg k2
     case measure=>have:=HK1.out;have:=HK2.out;omega
     case rel=>exact⟨(dT),(wrap64 (am+1)),(by first|rfl|(simp;done)|(simp [*];done)),H',⟨by have:=HK1.out;have:=HK2.out;omega⟩,⟨by (with_reducible repeat (first|apply Kd.R_alloc|apply Kd.R_drewN|apply Kd.R_drew));exact Kd.R_mono d4.out (fun _ hk=>trivial)⟩,bK aa,bV HB⟩
end Go.Proofs.Ytmmjpieafbjggaa.P
end
section
namespace Go.Proofs.Ytmmjpieafbjggaa.P
open Go.RowKit Go.Proofs.YtmmjpieafbjggaaW.PrintWords Go.Proofs.YtmmjpieafbjggaaW.PrintLast Go.Proofs.YtmmjpieafbjggaaW.PrintMore
attribute [local go_sem] max2_int min2_int max_two min_two max_three min_three max_four min_four   -- for this text's walks alone
attribute [local go_sem] x_str_gtr x_str_leq x_str_geq ext_bits ext_frombits ext_neg x_store_float Instr.field asAgg
set_option linter.unusedVariables false
set_option linter.unusedSimpArgs false
def engrossref10_Whole.f (l0:List Int):Option (List Int):=if (l0.length:Int)>256 then (some ([]:List Int)) else (if ([]:List Int).length+l0.length<140737488355328 then ((some (([]:List Int)++l0:List Int)).bind fun y512=>(if 0≤(wrap64 (256 - (l0.length:Int))) then (if y512.length+(wrap64 (256 - (l0.length:Int)):Int).toNat<140737488355328 then (some (y512++List.replicate (wrap64 (256 - (l0.length:Int)):Int).toNat 0)) else (none)) else (none))) else (none))
set_option maxHeartbeats 8000000 in
set_option maxRecDepth 100000 in
theorem engrossref10_Whole.calls (A0:Option Addr) (c0:Nat) (l0:List Int) (r:List Int) (w:World) (hr0:Kd.C (Kd.int .u8) w A0 l0.length l0) (hc0:l0.length≤c0) (h:engrossref10_Whole.f l0=some r) :
  Calls Try.prog 22 #[.slice A0 l0.length c0] w fun e w'=>∃ v0_:Value,e = .returned (v0_)∧Kd.R (Kd.int .u8) 5 w' w.heap.size (fun _=>True) v0_ r∧Below w.heap.size w w':=by
 have HR0:=aK hr0
 have HC0:=aK hc0
 clear hr0 hc0
 have HB:=aK (Below.refl w.heap.size w)
 have H:(if (l0.length:Int)>256 then (some ([]:List Int)) else (if ([]:List Int).length+l0.length<140737488355328 then ((some (([]:List Int)++l0:List Int)).bind fun aa=>(if 0≤(wrap64 (256 - (l0.length:Int))) then (if aa.length+(wrap64 (256 - (l0.length:Int)):Int).toNat<140737488355328 then (some (aa++List.replicate (wrap64 (256 - (l0.length:Int)):Int).toNat 0)) else (none)) else (none))) else (none)))=some r:=h
 clear h
 by_cases c2:(l0.length:Int)>256
 ·rw [if_pos c2] at H
  have ae:decide (256<(l0.length:Int))=true:=decide_eq_true c2
  have af:decide (256<l0.length)=true:=decide_eq_true (by omega)
  clear c2
  obtain rfl:=Option.some.inj H
  go_enter Try.func22,Try.ntmps22
  go_wp2
  go_ret
  exact⟨_,by first|rfl|(simp [errW_none,errW_some] <;> rfl)|(simp [*,errW_none,errW_some] <;> rfl),by first|exact Kd.R_nil _ _ _ _ _|exact Kd.N_nil _ _ _ _ _|exact Kd.V_nil _ _ _ _ _|exact Kd.Q_nil _ _ _ _ _|exact Kd.S_nil _ _ _ _ _,by repeat (first|(with_reducible first|exact HB.out|apply below_alloc|apply pw_below_drewN|apply below_drew1)|exact HB.out)⟩
 rw [if_neg c2] at H
 have ae:decide (256<(l0.length:Int))=false:=decide_eq_false c2
 have af:decide (256<l0.length)=false:=decide_eq_false (by omega)
 clear c2
 by_cases c3:([]:List Int).length+l0.length<140737488355328
 rotate_left
 ·rw [if_neg c3] at H
  exact absurd H (by simp)
 rw [if_pos c3] at H
 have LMc3:=aK c3
 clear c3
 obtain⟨aa,hy512⟩:∃ y_:List Int,y_=(([]:List Int)++l0):=⟨_,rfl⟩
 replace H:(if 0≤(wrap64 (256 - (l0.length:Int))) then (if aa.length+(wrap64 (256 - (l0.length:Int)):Int).toNat<140737488355328 then (some (aa++List.replicate (wrap64 (256 - (l0.length:Int)):Int).toNat 0)) else (none)) else (none))=some r:=by first|(rw [hy512];with_reducible exact H)|(have H2_:=(Option.bind_some _ _).symm.trans H;rw [hy512];with_reducible exact H2_)|(have H2_:=(Option.bind_some _ _).symm.trans H;with_reducible exact H2_)|with_reducible exact H|(rw [hy512];exact H)|exact H
 have Ny512:=aK hy512
 clear hy512
 obtain⟨ji4,hji4⟩:∃ j_:Int,(wrap64 (256 - (l0.length:Int)))=j_:=⟨_,rfl⟩
 replace H:(if 0≤(ji4) then (if aa.length+(ji4:Int).toNat<140737488355328 then (some (aa++List.replicate (ji4:Int).toNat 0)) else (none)) else (none))=some r:=by first|(rw [hji4] at H;exact H)|(simp only [hji4] at H ⊢;exact H)
 have hji4w:(IntKind.i64.wrap (256 - (l0.length:Int)))=ji4:=(i64_w _).trans hji4
 by_cases c5:0≤(ji4)
 rotate_left
 ·rw [if_neg c5] at H
  exact absurd H (by simp)
 rw [if_pos c5] at H
 have ai:=eq_true c5
 have aj:decide (0≤(ji4))=true:=decide_eq_true c5
 clear c5
 by_cases c6:aa.length+(ji4:Int).toNat<140737488355328
 rotate_left
 ·rw [if_neg c6] at H
  exact absurd H (by simp)
 rw [if_pos c6] at H
 have LMc6:=aK c6
 clear c6
 obtain⟨ag,hy515⟩:∃ y_:List Int,y_=(aa++List.replicate (ji4:Int).toNat 0):=⟨_,rfl⟩
 replace H:(some ag)=some r:=by first|(rw [hy515];with_reducible exact H)|(have H2_:=(Option.bind_some _ _).symm.trans H;rw [hy515];with_reducible exact H2_)|(have H2_:=(Option.bind_some _ _).symm.trans H;with_reducible exact H2_)|with_reducible exact H|(rw [hy515];exact H)|exact H
 have Ny515:=aK hy515
 clear hy515
 obtain rfl:=Option.some.inj H
 go_enter Try.func22,Try.ntmps22
 go_wp2_with (first|((with_reducible refine gate_builtin (b:=.append) (xs:=#[.const (.slice none 0 0),.tmp 6]) rfl ?_);at_builtin;refine Kd.R_append_rows (Kd.int .u8) (w0:=w) w.heap.size rfl (.const (.slice none 0 0)) (.tmp 6) 30 5 (.int .u8 0) 1 rfl Try.underlying30 info5 rfl (by decide) (by omega) (.slice none 0 0) ([]:List Int) l0 _ _ _ (fun _=>True) (fun _=>False) rfl rfl ?aO ?aR (fun _ _ h=>h) (fun _ h=>h.elim) ?aF ?aB ?aS ?aL ?_;(case aR=>repeat (first|exact HR0.out|(with_reducible refine Kd.C_alloc ?_ _)|(with_reducible refine Kd.C_drewN ?_ _)|(with_reducible refine Kd.C_drew ?_)));(case aB=>exact (bC HB));(case aF=>exact (fun _ _=>trivial));(case aO=>exact ((Kd.R_nil _ _ _ _ (fun _=>True))));(case aS=>exact (below_size (bC HB)));(case aL=>have:=LMc3.out;omega);intro ah w7 ho hb hg hat;rw [← Ny512.out] at ho;have ab:=aK (ho);replace HB:=aK (hb);clear ho hb hg hat)|(at_builtin;refine Kd.R_append_zeros (Kd.int .u8) (w0:=w) w.heap.size rfl (.tmp 7) (.tmp 10) 30 3 5 (.int .u8 0) 1 rfl Try.underlying30 Try.underlying3 info5 rfl (by decide) (by omega) ah aa 0 (ji4:Int) (fun _=>True) rfl rfl rfl ?aF ?aO (dA) ?aB ?aS ?aL ?_;(case aB=>exact (bC HB));(case aF=>exact (fun _ _=>trivial));(case aO=>exact (by (with_reducible repeat (first|apply Kd.R_alloc|apply Kd.R_drewN|apply Kd.R_drew));exact ab.out));(case aS=>exact (below_size (bC HB)));(case aL=>have:=LMc6.out;omega);intro ak w8 ho hb hg hat;rw [← Ny515.out] at ho;have ac:=aK (ho);replace HB:=aK (hb);clear ab;clear ho hb hg hat))
 go_ret
 exact⟨_,by first|rfl|(simp [errW_none,errW_some] <;> rfl)|(simp only [← hji4];first|rfl|(simp [errW_none,errW_some] <;> rfl))|(simp [*,errW_none,errW_some] <;> rfl),by (with_reducible repeat (first|apply Kd.R_alloc|apply Kd.R_drewN|apply Kd.R_drew));exact ac.out,by repeat (first|(with_reducible first|exact HB.out|apply below_alloc|apply pw_below_drewN|apply below_drew1)|exact HB.out)⟩
end Go.Proofs.Ytmmjpieafbjggaa.P
end
section
namespace Go.Proofs.Ytmmjpieafbjggaa.P
open Go.RowKit Go.Proofs.YtmmjpieafbjggaaW.PrintWords Go.Proofs.YtmmjpieafbjggaaW.PrintLast Go.Proofs.YtmmjpieafbjggaaW.PrintMore
attribute [local go_sem] max2_int min2_int max_two min_two max_three min_three max_four min_four   -- for this text's walks alone
attribute [local go_sem] x_str_gtr x_str_leq x_str_geq ext_bits ext_frombits ext_neg x_store_float Instr.field asAgg
set_option linter.unusedVariables false
set_option linter.unusedSimpArgs false
def engrosslaw10_Back.f (a0_0:ByteArray) (a0_1:Int) (a0_2:Nat) (a0_3:ByteArray) (a0_4:Int) (a0_5:Int) (a0_6:Nat) (a0_7:ByteArray):Option (ByteArray × Int × Nat × ByteArray × Int × Int × Nat × ByteArray):=some (a0_0,a0_1,a0_2,a0_3,a0_4,a0_5,a0_6,a0_7)
set_option maxHeartbeats 8000000 in
set_option maxRecDepth 100000 in
theorem engrosslaw10_Back.calls (ab:ByteArray) (ac:Int) (ae:Nat) (af:ByteArray) (ag:Int) (ah:Int) (ai:Nat) (aj:ByteArray) (r1:ByteArray) (r2:Int) (r3:Nat) (r4:ByteArray) (r5:Int) (r6:Int) (r7:Nat) (r8:ByteArray) (w:World) (h:engrosslaw10_Back.f ab ac ae af ag ah ai aj=some (r1,r2,r3,r4,r5,r6,r7,r8)) :
  Calls Try.prog 44 #[.agg #[.string ab,.int .i64 ac,.float .f64 ae,.string af,.int .i64 ag,.int .i64 ah,.float .f64 ai,.string aj]] w fun e w'=>e = .returned (.agg #[.string r1,.int .i64 r2,.float .f64 r3,.string r4,.int .i64 r5,.int .i64 r6,.float .f64 r7,.string r8])∧Below w.heap.size w w':=by
 have hu62:=Try.underlying62
 have hu56:=Try.underlying56
 have hu54:=Try.underlying54
 have HB:=aK (Below.refl w.heap.size w)
 have H:(some (ab,ac,ae,af,ag,ah,ai,aj))=some (r1,r2,r3,r4,r5,r6,r7,r8):=h
 clear h
 simp only [Option.some.injEq,Prod.mk.injEq] at H
 obtain⟨rfl,rfl,rfl,rfl,rfl,rfl,rfl,rfl⟩:=H
 go_enter Try.func44,Try.ntmps44
 go_wp2_with (first|((with_reducible refine gate_dst (N:=1) rfl ?_);refine box_event ?hg (N:=1) ?hd (cs:=#[.string ab,.int .i64 ac,.float .f64 ae,.string af,.int .i64 ag,.int .i64 ah,.float .f64 ai,.string aj]) (t:=62) ?hr ?_;(case hd=>rfl);(case hg=>rfl);(case hr=>first|(go_simp;done)|(go_simp;rfl));intro bh hg w2 hbox hb;have aa:=aK (hbox);have bi:=bZ HB hg;have bj:=bZ HB hg;replace HB:=bW HB hb;clear hb hbox hg)|((with_reducible refine gate_dst (N:=2) rfl ?_);refine box_event ?hg (N:=2) ?hd (cs:=#[.string (⟨#[]⟩:ByteArray),.int .i64 0,.float .f64 0,.string (⟨#[]⟩:ByteArray),.int .i64 0,.int .i64 0,.float .f64 0,.string (⟨#[]⟩:ByteArray)]) (t:=56) ?hr ?_;(case hd=>rfl);(case hg=>rfl);(case hr=>first|(go_simp;done)|(go_simp;rfl));intro ao hg w3 hbox hb;have am:=aK (hbox);have bk:=bZ HB hg;have bl:=bZ HB hg;have ak:=bL aa hg;have al:=bG aa hg;replace aa:=bB aa hb;replace HB:=bW HB hb;clear hb hbox hg;have hnb4:=ak.out;have hnc4:=al.out;obtain⟨ap,aq,ar,au,av,aw,ax,ay,az,aA,aC,aD,aE,aG,aH,aI⟩:=bf8 (w:=w3) aa;obtain⟨aJ,aM,aN,aQ,aT,aU,aV,aW,aX,aY,aZ,ba,bb,bc,bf,bg⟩:=bf8 (w:=w3) am))
 refine bodyPost_ret (results_cell_row rfl _ _ ao 56 #[.string ab,.int .i64 ac,.float .f64 ae,.string af,.int .i64 ag,.int .i64 ah,.float .f64 ai,.string aj] (0,0) _ rfl (bR am) Try.underlying56 rfl (by kernel_rfl)) rfl ?_
 exact xB HB
def engrosslaw11_Back.l0:Nat→Int→Bool→List (S62)→List ByteArray→List Int→Bool→List (S56)→List ByteArray→List Int→Option (Bool × (List (S56)) × List ByteArray × List Int)
 | 0,_,_,_,_,_,_,_,_,_=>none
 | k+1,x4,x538000,x538001,x538002,x538003,x540000,x540001,x540002,x540003=>if x4<(x538001.length:Int) then (if 0≤x4 then ((engrosslaw10_Back.f ((rd_T62 x538001 x4).f0) ((rd_T62 x538001 x4).f1.f0) ((rd_T62 x538001 x4).f1.f1) ((rd_T62 x538001 x4).f1.f2) ((rd_T62 x538001 x4).f2) ((rd_T62 x538001 x4).f3.f0) ((rd_T62 x538001 x4).f3.f1) ((rd_T62 x538001 x4).f3.f2)).bind fun bt541=>(if x540001.length<1599289640401 then (engrosslaw11_Back.l0 k (wrap64 (x4+1)) x538000 x538001 x538002 x538003 x540000 (x540001++[(⟨bt541.1,(⟨bt541.2.1,bt541.2.2.1,bt541.2.2.2.1⟩:S54),bt541.2.2.2.2.1,(⟨bt541.2.2.2.2.2.1,bt541.2.2.2.2.2.2.1,bt541.2.2.2.2.2.2.2⟩:S54)⟩:S56)]) x540002 x540003) else (none))) else (none)) else (some (x540000,x540001,x540002,x540003))
def engrosslaw11_Back.f (k:Nat) (a0_0:Bool) (l0_1:List (S62)) (l0_2:List ByteArray) (l0_3:List Int):Option (Bool × (List (S56)) × List ByteArray × List Int):=engrosslaw11_Back.l0 k 0 a0_0 l0_1 l0_2 l0_3 a0_0 ([]:List (S56)) l0_2 l0_3
def engrosslaw11_Back.T5:Bool × List (List Nat × List Nat):=(true,[([],[]),([0],[0]),([],[]),([2],[2]),([],[]),([3,4],[3,4]),([5],[5]),([6],[6]),([7],[7]),([1,8,7],[1,8]),([0,1,2,3,4,5,6,7,8,9],[]),([10,9,9,0,1,2,3,4,5,6,7,8,9],[9,10])])
def engrosslaw11_Back.B5:List Nat:=[0,1,0,4,0,28,60,124,252,511,1023,2047]
theorem engrosslaw11_Back.tab5:rtab .any (opsOf Try.f24 5)=engrosslaw11_Back.T5:=by kernel_rfl
theorem engrosslaw11_Back.bits5:waitsOk engrosslaw11_Back.T5.2 engrosslaw11_Back.B5=true:=by kernel_rfl
set_option maxHeartbeats 8000000 in
set_option maxRecDepth 100000 in
theorem engrosslaw11_Back.calls (k:Nat) (al:Bool) (bw:Option Addr) (bv:Nat) (ac:List (S62)) (P0_2_:Nat→Prop) (au:Option Addr) (av:Nat) (af:List ByteArray) (P0_3_:Nat→Prop) (aA:Option Addr) (aC:Nat) (ah:List Int) (r1:Bool) (r2:List (S56)) (r3:List ByteArray) (r4:List Int) (w:World) (bI:Kd.C k62 w bw ac.length ac) (bJ:ac.length≤bv) (ct:Kd.V Kd.string 9 w w.heap.size (fun k_=>P0_2_ k_) (.slice au af.length av) af) (cu:Kd.V (Kd.int .i64) 3 w w.heap.size (fun k_=>P0_3_ k_) (.slice aA ah.length aC) ah) (h:engrosslaw11_Back.f k al ac af ah=some (r1,r2,r3,r4)) :
  Calls Try.prog 24 #[.agg #[.bool al,.slice bw ac.length bv,.slice au af.length av,.slice aA ah.length aC]] w fun e w'=>∃ v1_ v2_ v3_:Value,e = .returned (.agg #[.bool r1,v1_,v2_,v3_])∧Kd.R k56 56 w' w.heap.size (fun k_=>(w.heap.size≤k_)) v1_ r2∧Kd.V Kd.string 9 w' w.heap.size (fun k_=>((P0_2_ k_∨P0_3_ k_)∨w.heap.size≤k_)∧some k_≠(v1_:Value).ownBlock) v2_ r3∧Kd.V (Kd.int .i64) 3 w' w.heap.size (fun k_=>((P0_2_ k_∨P0_3_ k_)∨w.heap.size≤k_)∧some k_≠(v1_:Value).ownBlock) v3_ r4∧Below w.heap.size w w':=by
 have hu36:=Try.underlying36
 have hu26:=Try.underlying26
 have hu62:=Try.underlying62
 have cv:=aK bI
 have dn:=aK bJ
 clear bI bJ
 have aE:=aK (show Kd.V Kd.string 9 w w.heap.size (fun k_=>((P0_2_ k_∨P0_3_ k_)∨w.heap.size≤k_)) (.slice au af.length av) af from Kd.V_mono ct (fun k_ hk=>.inl (.inl hk)))
 have aG:=aK (show Kd.V (Kd.int .i64) 3 w w.heap.size (fun k_=>((P0_2_ k_∨P0_3_ k_)∨w.heap.size≤k_)) (.slice aA ah.length aC) ah from Kd.V_mono cu (fun k_ hk=>.inl (.inr hk)))
 have HB:=aK (Below.refl w.heap.size w)
 have H:(engrosslaw11_Back.l0 k 0 al ac af ah al ([]:List (S56)) af ah)=some (r1,r2,r3,r4):=h
 clear h
 have H':=aK H
 clear H
 go_enter Try.func24,Try.ntmps24
 go_wp2_with (first|((with_reducible refine gate_dst (N:=1) rfl ?_);refine box_event ?hg (N:=1) ?hd (cs:=#[.bool al,.slice bw ac.length bv,.slice au af.length av,.slice aA ah.length aC]) (t:=36) ?hr ?_;(case hd=>rfl);(case hg=>rfl);(case hr=>first|(go_simp;done)|(go_simp;rfl));intro aD hg w2 hbox hb;have ae:=aK (hbox);have dp:=bZ HB hg;have cw:=bZ HB hg;replace aE:=aK (Kd.V_below (Kd.V_elderB (by (with_reducible repeat (first|apply Kd.V_alloc|apply Kd.V_drewN|apply Kd.V_drew));exact aE.out) aD (Nat.le_of_eq hg.symm)) hb);replace aG:=aK (Kd.V_below (Kd.V_elderB (by (with_reducible repeat (first|apply Kd.V_alloc|apply Kd.V_drewN|apply Kd.V_drew));exact aG.out) aD (Nat.le_of_eq hg.symm)) hb);replace HB:=bW HB hb;clear hb hbox hg)|((with_reducible refine gate_dst (N:=2) rfl ?_);refine box_event ?hg (N:=2) ?hd (cs:=#[.bool false,.slice none 0 0,.slice none 0 0,.slice none 0 0]) (t:=26) ?hr ?_;(case hd=>rfl);(case hg=>rfl);(case hr=>first|(go_simp;done)|(go_simp;rfl));intro ag hg w3 hbox hb;have am:=aK (hbox);have dq:=bZ HB hg;have cx:=bZ HB hg;have aW:=bL ae hg;have aX:=bG ae hg;replace aE:=aK (Kd.V_below (Kd.V_elderB (by (with_reducible repeat (first|apply Kd.V_alloc|apply Kd.V_drewN|apply Kd.V_drew));exact aE.out) ag (Nat.le_of_eq hg.symm)) hb);replace aG:=aK (Kd.V_below (Kd.V_elderB (by (with_reducible repeat (first|apply Kd.V_alloc|apply Kd.V_drewN|apply Kd.V_drew));exact aG.out) ag (Nat.le_of_eq hg.symm)) hb);replace ae:=bB ae hb;replace HB:=bW HB hb;clear hb hbox hg;have hnb4:=aW.out;have hnc4:=aX.out;obtain⟨bN,bO,bU,bX,bY,b8,b9,ca⟩:=bf4 (w:=w3) ae)|((with_reducible refine gate_dst (N:=3) rfl ?_);refine box_event ?hg (N:=3) ?hd (cs:=#[.bool false,.slice none 0 0,.slice none 0 0,.slice none 0 0]) (t:=26) ?hr ?_;(case hd=>rfl);(case hg=>rfl);(case hr=>first|(go_simp;done)|(go_simp;rfl));intro aa hg w6 hbox hb;have ai:=aK (hbox);have dr:=bZ HB hg;have cz:=bZ HB hg;have ao:=bL ae hg;have aH:=bG ae hg;have ax:=bL am hg;have aY:=bG am hg;replace aE:=aK (Kd.V_below (Kd.V_elderB (by (with_reducible repeat (first|apply Kd.V_alloc|apply Kd.V_drewN|apply Kd.V_drew));exact aE.out) aa (Nat.le_of_eq hg.symm)) hb);replace aG:=aK (Kd.V_below (Kd.V_elderB (by (with_reducible repeat (first|apply Kd.V_alloc|apply Kd.V_drewN|apply Kd.V_drew));exact aG.out) aa (Nat.le_of_eq hg.symm)) hb);replace ae:=bB ae hb;replace am:=bB am hb;replace HB:=bW HB hb;clear hb hbox hg;have hnb7:=aH.out;have hnc7:=ao.out;have hnb8:=aY.out;have hnc8:=ax.out;obtain⟨cb,cd,cf,cg,ch,cj,cm,cn⟩:=bf4 (w:=w6) ai))
 go_loopg [4] k (fun kq v4 w'=>∃ (ab:Int) (aj:List (S56)) (aw:Value),v4 = .int .i64 ab∧Aside0 (engrosslaw11_Back.l0 kq ab al ac af ah al aj af ah=some (r1,r2,r3,r4))∧Aside0 (kq≤k)∧Aside0 (Kd.V Kd.string 9 w' w.heap.size (fun k_=>((P0_2_ k_∨P0_3_ k_)∨w.heap.size≤k_)∧some k_≠(aw:Value).ownBlock∧k_≠aD∧k_≠ag∧k_≠aa) (.slice au af.length av) af)∧Aside0 (Kd.V (Kd.int .i64) 3 w' w.heap.size (fun k_=>((P0_2_ k_∨P0_3_ k_)∨w.heap.size≤k_)∧some k_≠(aw:Value).ownBlock∧k_≠aD∧k_≠ag∧k_≠aa) (.slice aA ah.length aC) ah)∧Aside0 (Kd.R k56 56 w' w.heap.size (fun k_=>(w.heap.size≤k_)) aw aj)∧Aside0 (Kd.V Kd.string 9 w' w.heap.size (fun k_=>((P0_2_ k_∨P0_3_ k_)∨w.heap.size≤k_)∧some k_≠(aw:Value).ownBlock∧k_≠aD∧k_≠ag∧k_≠aa) (.slice au af.length av) af)∧Aside0 (Kd.V (Kd.int .i64) 3 w' w.heap.size (fun k_=>((P0_2_ k_∨P0_3_ k_)∨w.heap.size≤k_)∧some k_≠(aw:Value).ownBlock∧k_≠aD∧k_≠ag∧k_≠aa) (.slice aA ah.length aC) ah)∧Aside0 (w'.heap[aD]? = some (.cells #[.bool al,(.slice bw ac.length bv),(.slice au af.length av),(.slice aA ah.length aC)] 36 (0,0)))∧Aside0 (w'.heap[ag]? = some (.cells #[.bool false,(.slice none 0 0),(.slice none 0 0),(.slice none 0 0)] 26 (0,0)))∧Aside0 (w'.heap[aa]? = some (.cells #[.bool al,aw,(.slice au af.length av),(.slice aA ah.length aC)] 26 (0,0)))∧Aside0 (Below w.heap.size w w'))
 case atStart=>exact⟨(0),(([]:List (S56))),(.slice none 0 0),(by first|rfl|(simp;done)|(simp [*];done)),H',⟨Nat.le_refl _⟩,⟨by (with_reducible repeat (first|apply Kd.V_alloc|apply Kd.V_drewN|apply Kd.V_drew));exact Kd.V_mono (Kd.V_far (p:=⟨aa,3,none⟩) (Kd.V_far (p:=⟨aa,2,none⟩) (Kd.V_far (p:=⟨aa,1,none⟩) (Kd.V_far (p:=⟨aa,0,none⟩) (Kd.V_mono aE.out (fun k_ hk=>(⟨hk,hk.2⟩:_∧k_≠aa))) (fun _ hk=>hk.2) (.bool al)) (fun _ hk=>hk.2) (.slice none 0 0)) (fun _ hk=>hk.2) (.slice au af.length av)) (fun _ hk=>hk.2) (.slice aA ah.length aC)) (fun _ hk=>⟨hk.1.1.1.1,⟨(by simp [Value.ownBlock]),⟨hk.1.1.1.2,⟨hk.1.1.2,hk.1.2⟩⟩⟩⟩)⟩,⟨by (with_reducible repeat (first|apply Kd.V_alloc|apply Kd.V_drewN|apply Kd.V_drew));exact Kd.V_mono (Kd.V_far (p:=⟨aa,3,none⟩) (Kd.V_far (p:=⟨aa,2,none⟩) (Kd.V_far (p:=⟨aa,1,none⟩) (Kd.V_far (p:=⟨aa,0,none⟩) (Kd.V_mono aG.out (fun k_ hk=>(⟨hk,hk.2⟩:_∧k_≠aa))) (fun _ hk=>hk.2) (.bool al)) (fun _ hk=>hk.2) (.slice none 0 0)) (fun _ hk=>hk.2) (.slice au af.length av)) (fun _ hk=>hk.2) (.slice aA ah.length aC)) (fun _ hk=>⟨hk.1.1.1.1,⟨(by simp [Value.ownBlock]),⟨hk.1.1.1.2,⟨hk.1.1.2,hk.1.2⟩⟩⟩⟩)⟩,⟨by first|exact Kd.R_nil _ _ _ _ _|exact Kd.N_nil _ _ _ _ _|exact Kd.V_nil _ _ _ _ _|exact Kd.Q_nil _ _ _ _ _|exact Kd.S_nil _ _ _ _ _⟩,⟨by (with_reducible repeat (first|apply Kd.V_alloc|apply Kd.V_drewN|apply Kd.V_drew));exact Kd.V_mono (Kd.V_far (p:=⟨aa,3,none⟩) (Kd.V_far (p:=⟨aa,2,none⟩) (Kd.V_far (p:=⟨aa,1,none⟩) (Kd.V_far (p:=⟨aa,0,none⟩) (Kd.V_mono aE.out (fun k_ hk=>(⟨hk,hk.2⟩:_∧k_≠aa))) (fun _ hk=>hk.2) (.bool al)) (fun _ hk=>hk.2) (.slice none 0 0)) (fun _ hk=>hk.2) (.slice au af.length av)) (fun _ hk=>hk.2) (.slice aA ah.length aC)) (fun _ hk=>⟨hk.1.1.1.1,⟨(by simp [Value.ownBlock]),⟨hk.1.1.1.2,⟨hk.1.1.2,hk.1.2⟩⟩⟩⟩)⟩,⟨by (with_reducible repeat (first|apply Kd.V_alloc|apply Kd.V_drewN|apply Kd.V_drew));exact Kd.V_mono (Kd.V_far (p:=⟨aa,3,none⟩) (Kd.V_far (p:=⟨aa,2,none⟩) (Kd.V_far (p:=⟨aa,1,none⟩) (Kd.V_far (p:=⟨aa,0,none⟩) (Kd.V_mono aG.out (fun k_ hk=>(⟨hk,hk.2⟩:_∧k_≠aa))) (fun _ hk=>hk.2) (.bool al)) (fun _ hk=>hk.2) (.slice none 0 0)) (fun _ hk=>hk.2) (.slice au af.length av)) (fun _ hk=>hk.2) (.slice aA ah.length aC)) (fun _ hk=>⟨hk.1.1.1.1,⟨(by simp [Value.ownBlock]),⟨hk.1.1.1.2,⟨hk.1.1.2,hk.1.2⟩⟩⟩⟩)⟩,⟨by (with_reducible repeat (first|refine blk_drewN ?_ _|refine blk_drew ?_|refine blk_alloc ?_ _));refine blk_far ?_ ao.out _;(with_reducible repeat (first|refine blk_drewN ?_ _|refine blk_drew ?_|refine blk_alloc ?_ _));refine blk_far ?_ ao.out _;(with_reducible repeat (first|refine blk_drewN ?_ _|refine blk_drew ?_|refine blk_alloc ?_ _));refine blk_far ?_ ao.out _;(with_reducible repeat (first|refine blk_drewN ?_ _|refine blk_drew ?_|refine blk_alloc ?_ _));refine blk_far ?_ ao.out _;(with_reducible repeat (first|refine blk_drewN ?_ _|refine blk_drew ?_|refine blk_alloc ?_ _));exact ae.out⟩,⟨by (with_reducible repeat (first|refine blk_drewN ?_ _|refine blk_drew ?_|refine blk_alloc ?_ _));refine blk_far ?_ ax.out _;(with_reducible repeat (first|refine blk_drewN ?_ _|refine blk_drew ?_|refine blk_alloc ?_ _));refine blk_far ?_ ax.out _;(with_reducible repeat (first|refine blk_drewN ?_ _|refine blk_drew ?_|refine blk_alloc ?_ _));refine blk_far ?_ ax.out _;(with_reducible repeat (first|refine blk_drewN ?_ _|refine blk_drew ?_|refine blk_alloc ?_ _));refine blk_far ?_ ax.out _;(with_reducible repeat (first|refine blk_drewN ?_ _|refine blk_drew ?_|refine blk_alloc ?_ _));exact am.out⟩,⟨by (with_reducible repeat (first|refine blk_drewN ?_ _|refine blk_drew ?_|refine blk_alloc ?_ _));refine blk_put (cs:=#[.bool al,.slice none 0 0,.slice au af.length av,.slice none 0 0]) ?_ 3 _ rfl;(with_reducible repeat (first|refine blk_drewN ?_ _|refine blk_drew ?_|refine blk_alloc ?_ _));refine blk_put (cs:=#[.bool al,.slice none 0 0,.slice none 0 0,.slice none 0 0]) ?_ 2 _ rfl;(with_reducible repeat (first|refine blk_drewN ?_ _|refine blk_drew ?_|refine blk_alloc ?_ _));refine blk_put (cs:=#[.bool al,.slice none 0 0,.slice none 0 0,.slice none 0 0]) ?_ 1 _ rfl;(with_reducible repeat (first|refine blk_drewN ?_ _|refine blk_drew ?_|refine blk_alloc ?_ _));refine blk_put (cs:=#[.bool false,.slice none 0 0,.slice none 0 0,.slice none 0 0]) ?_ 0 _ rfl;(with_reducible repeat (first|refine blk_drewN ?_ _|refine blk_drew ?_|refine blk_alloc ?_ _));exact ai.out⟩,bV HB⟩
 case round =>
  clear H'
  try clear c2
  try clear p2
  try clear c4
  try clear c7
  try clear c8
  try clear bN bO bU bX
  try clear cb cd cf cg
  try clear bY b8 b9 ca
  try clear ch cj cm cn
  obtain⟨ab,aj,aw,rfl,HA,HK1,ay,az,ak,ap,aq,ae,am,ai,HB⟩:=hrel
  cases gk with
  | zero=>exact absurd HA.out (by simp [engrosslaw11_Back.l0])
  | succ k1 =>
   have H:=HA.out
   clear HA
   simp only [engrosslaw11_Back.l0] at H
   by_cases c10:ab<(ac.length:Int)
   rotate_left
   ·rw [if_neg c10] at H
    have cA:decide (ab<(ac.length:Int))=false:=decide_eq_false c10
    clear c10
    simp only [Option.some.injEq,Prod.mk.injEq] at H
    obtain⟨rfl,rfl,rfl,rfl⟩:=H
    have hnb22:=aW.out
    have hnc22:=aX.out
    have hnb23:=ao.out
    have hnc23:=aH.out
    obtain⟨cC,cD,cE,cF,cG,cH,cI,cJ⟩:=bf4 (w:=wr) ae
    have hnb25:=aY.out
    have hnc25:=ax.out
    obtain⟨cK,cL,cM,cN,cO,cP,cQ,cR⟩:=bf4 (w:=wr) ai
    obtain⟨cS,cT,cU,cV,cX,cY,cZ,da⟩:=bf4 (w:=wr) am
    obtain⟨bx,bA,cB⟩:=Kd.R_slice ak.out
    subst cB
    go_wp2
    refine bodyPost_ret (results_cell_row rfl _ _ ag 26 #[.bool al,.slice bx aj.length bA,.slice au af.length av,.slice aA ah.length aC] (0,0) _ rfl (bR am) Try.underlying26 rfl (by kernel_rfl)) rfl ?_
    exact⟨_,_,_,by first|rfl|(simp [errW_none,errW_some] <;> rfl)|(simp [*,errW_none,errW_some] <;> rfl),by (with_reducible repeat (first|apply Kd.R_alloc|apply Kd.R_drewN|apply Kd.R_drew));exact Kd.R_mono (Kd.R_far (p:=⟨ag,3,none⟩) (Kd.R_far (p:=⟨ag,2,none⟩) (Kd.R_far (p:=⟨ag,1,none⟩) (Kd.R_far (p:=⟨ag,0,none⟩) (Kd.R_types ak.out am.out (by decide)) (fun _ hk=>hk.2) (.bool al)) (fun _ hk=>hk.2) (.slice bx aj.length bA)) (fun _ hk=>hk.2) (.slice au af.length av)) (fun _ hk=>hk.2) (.slice aA ah.length aC)) (fun _ hk=>hk.1),by (with_reducible repeat (first|apply Kd.V_alloc|apply Kd.V_drewN|apply Kd.V_drew));exact Kd.V_mono (Kd.V_far (p:=⟨ag,3,none⟩) (Kd.V_far (p:=⟨ag,2,none⟩) (Kd.V_far (p:=⟨ag,1,none⟩) (Kd.V_far (p:=⟨ag,0,none⟩) (Kd.V_mono ap.out (fun k_ hk=>(⟨hk,hk.2.2.2.1⟩:_∧k_≠ag))) (fun _ hk=>hk.2) (.bool al)) (fun _ hk=>hk.2) (.slice bx aj.length bA)) (fun _ hk=>hk.2) (.slice au af.length av)) (fun _ hk=>hk.2) (.slice aA ah.length aC)) (fun _ hk=>⟨hk.1.1,hk.1.2.1⟩),by (with_reducible repeat (first|apply Kd.V_alloc|apply Kd.V_drewN|apply Kd.V_drew));exact Kd.V_mono (Kd.V_far (p:=⟨ag,3,none⟩) (Kd.V_far (p:=⟨ag,2,none⟩) (Kd.V_far (p:=⟨ag,1,none⟩) (Kd.V_far (p:=⟨ag,0,none⟩) (Kd.V_mono aq.out (fun k_ hk=>(⟨hk,hk.2.2.2.1⟩:_∧k_≠ag))) (fun _ hk=>hk.2) (.bool al)) (fun _ hk=>hk.2) (.slice bx aj.length bA)) (fun _ hk=>hk.2) (.slice au af.length av)) (fun _ hk=>hk.2) (.slice aA ah.length aC)) (fun _ hk=>⟨hk.1.1,hk.1.2.1⟩),by repeat (first|(with_reducible first|exact HB.out|apply below_alloc|apply pw_below_drewN|apply below_drew1|refine below_set ?_ cw.out|refine below_set ?_ cx.out|refine below_set ?_ cz.out)|exact HB.out)⟩
   rw [if_pos c10] at H
   have cA:decide (ab<(ac.length:Int))=true:=decide_eq_true c10
   clear c10
   by_cases c11:0≤ab
   rotate_left
   ·rw [if_neg c11] at H
    exact absurd H (by simp)
   rw [if_pos c11] at H
   have dt:decide (0≤ab)=true:=decide_eq_true c11
   clear c11
   replace H:=oS H
   obtain⟨⟨bk,bl,bm,bn,bo,bp,bq,br⟩,cp,H⟩:=H
   replace H:(if aj.length<1599289640401 then (engrosslaw11_Back.l0 k1 (wrap64 (ab+1)) al ac af ah al (aj++[(⟨bk,(⟨bl,bm,bn⟩:S54),bo,(⟨bp,bq,br⟩:S54)⟩:S56)]) af ah) else (none))=some (r1,r2,r3,r4):=H
   have A12:=aK cp
   clear cp
   by_cases c13:aj.length<1599289640401
   rotate_left
   ·rw [if_neg c13] at H
    exact absurd H (by simp)
   rw [if_pos c13] at H
   have LMc13:=aK c13
   clear c13
   obtain⟨aZ,hy549⟩:∃ y_:List (S56),y_=(aj++[(⟨bk,(⟨bl,bm,bn⟩:S54),bo,(⟨bp,bq,br⟩:S54)⟩:S56)]):=⟨_,rfl⟩
   replace H:(engrosslaw11_Back.l0 k1 (wrap64 (ab+1)) al ac af ah al aZ af ah)=some (r1,r2,r3,r4):=by first|(rw [hy549];with_reducible exact H)|(have H2_:=(Option.bind_some _ _).symm.trans H;rw [hy549];with_reducible exact H2_)|(have H2_:=(Option.bind_some _ _).symm.trans H;with_reducible exact H2_)|with_reducible exact H|(rw [hy549];exact H)|exact H
   have Ny549:=aK hy549
   clear hy549
   have H':=aK H
   clear H
   have hnb14:=aW.out
   have hnc14:=aX.out
   have hnb15:=ao.out
   have hnc15:=aH.out
   obtain⟨db,dc,dd,de,df,dg,dh,di⟩:=bf4 (w:=wr) ae
   try go_wp2
   replace ay:=aK (Kd.V_drew ay.out)
   replace az:=aK (Kd.V_drew az.out)
   replace ak:=aK (Kd.R_drew ak.out)
   replace ap:=aK (Kd.V_drew ap.out)
   replace aq:=aK (Kd.V_drew aq.out)
   replace ae:=aK (blk_drew ae.out)
   replace am:=aK (blk_drew am.out)
   replace ai:=aK (blk_drew ai.out)
   replace HB:=aK (below_drew1 HB.out)
   have bD:0≤(ab:Int):=dA
   have bF:ab<(ac.length:Int):=dA
   obtain⟨ar,e540,ba,bb,bc,bf,bg,bh,bi,bj⟩:=at_T62 cv.out ab bD bF
   have aI:=bj
   have aJ:=bi
   have aM:=bh
   have aN:=bg
   have aQ:=bf
   have aT:=bc
   have aU:=bb
   have aV:=ba
   cases e540
   replace ba:=cW HB ba
   replace bb:=cW HB bb
   replace bc:=cW HB bc
   replace bf:=cW HB bf
   replace bg:=cW HB bg
   replace bh:=cW HB bh
   replace bi:=cW HB bi
   replace bj:=cW HB bj
   replace bD:=eq_true bD
   replace bF:=eq_true bF
   refine start_ (n:=12) (S:=fun w'=>w'.cell? ⟨aa,0,none⟩=some (.bool al)∧w'.cell? ⟨aa,1,none⟩=some (aw)∧w'.cell? ⟨aa,2,none⟩=some (.slice au af.length av)∧w'.cell? ⟨aa,3,none⟩=some (.slice aA ah.length aC)∧w'.cell? ⟨aD,0,none⟩=some (.bool al)∧w'.cell? ⟨aD,1,none⟩=some (.slice (some ar) ac.length bv)∧w'.cell? ⟨aD,2,none⟩=some (.slice au af.length av)∧w'.cell? ⟨aD,3,none⟩=some (.slice aA ah.length aC)∧w'.cell? (ar.add ((ab).toNat * 8))=some (.string ((rd_T62 ac ab).f0))∧w'.cell? ⟨(ar.add ((ab).toNat * 8)).block,(ar.add ((ab).toNat * 8)).off+1,none⟩=some (.int .i64 ((rd_T62 ac ab).f1.f0))∧w'.cell? ⟨(ar.add ((ab).toNat * 8)).block,(ar.add ((ab).toNat * 8)).off+2,none⟩=some (.float .f64 ((rd_T62 ac ab).f1.f1))∧w'.cell? ⟨(ar.add ((ab).toNat * 8)).block,(ar.add ((ab).toNat * 8)).off+3,none⟩=some (.string ((rd_T62 ac ab).f1.f2))∧w'.cell? ⟨(ar.add ((ab).toNat * 8)).block,(ar.add ((ab).toNat * 8)).off+4,none⟩=some (.int .i64 ((rd_T62 ac ab).f2))∧w'.cell? ⟨(ar.add ((ab).toNat * 8)).block,(ar.add ((ab).toNat * 8)).off+5,none⟩=some (.int .i64 ((rd_T62 ac ab).f3.f0))∧w'.cell? ⟨(ar.add ((ab).toNat * 8)).block,(ar.add ((ab).toNat * 8)).off+6,none⟩=some (.float .f64 ((rd_T62 ac ab).f3.f1))∧w'.cell? ⟨(ar.add ((ab).toNat * 8)).block,(ar.add ((ab).toNat * 8)).off+7,none⟩=some (.string ((rd_T62 ac ab).f3.f2))) (ds:=[11]) #[false,false,false,false,false,false,false,false,false,false,false,false] (by kernel_rfl) rfl rfl (bn4 ai (bn4 ae ⟨(cW HB aV),(cW HB aU),(cW HB aT),(cW HB aQ),(cW HB aN),(cW HB aM),(cW HB aJ),(cW HB aI)⟩)) (fun hHeld=>?_);refine with_tabW engrosslaw11_Back.tab5 engrosslaw11_Back.bits5 (fun HT_ HW_=>?_)
   generalize wr.drew=w17 at ay az ak ap aq ae am ai HB ba bb bc bf bg bh bi bj hHeld ⊢
   refine pA 0 19 HT_ ?_
   refine pA 2 21 HT_ ?_
   refine pA 4 23 HT_ ?_
   refine tA 1 20 HT_ HW_ hHeld ?_ (hy:=by rintro w' ⟨s0,s1,s2,s3,s4,s5,s6,s7,s8,s9,s10,s11,s12,s13,s14,s15⟩;go_simp;with_reducible rfl)
   refine tA 3 22 HT_ HW_ hHeld ?_ (hy:=by rintro w' ⟨s0,s1,s2,s3,s4,s5,s6,s7,s8,s9,s10,s11,s12,s13,s14,s15⟩;go_simp;with_reducible rfl)
   refine pA 5 24 HT_ ?_
   refine tA 6 25 HT_ HW_ hHeld ?_ (hy:=by rintro w' ⟨s0,s1,s2,s3,s4,s5,s6,s7,s8,s9,s10,s11,s12,s13,s14,s15⟩;go_simp;with_reducible rfl)
   refine oA 7 (some 26) HT_ (fun K hK=>?_)
   refine goes_ Try.func44 (by kernel_rfl) rfl #[.agg #[.string ((rd_T62 ac ab).f0),.int .i64 ((rd_T62 ac ab).f1.f0),.float .f64 ((rd_T62 ac ab).f1.f1),.string ((rd_T62 ac ab).f1.f2),.int .i64 ((rd_T62 ac ab).f2),.int .i64 ((rd_T62 ac ab).f3.f0),.float .f64 ((rd_T62 ac ab).f3.f1),.string ((rd_T62 ac ab).f3.f2)]] (by rfl) rfl rfl (by (try simp only [List.map_toArray,List.map_cons,List.map_nil]);first|done|rfl|(simp only [List.length_drop,List.length_take];rfl)) ?_
   with_reducible refine (engrosslaw10_Back.calls ((rd_T62 ac ab).f0) ((rd_T62 ac ab).f1.f0) ((rd_T62 ac ab).f1.f1) ((rd_T62 ac ab).f1.f2) ((rd_T62 ac ab).f2) ((rd_T62 ac ab).f3.f0) ((rd_T62 ac ab).f3.f1) ((rd_T62 ac ab).f3.f2) bk bl bm bn bo bp bq br _ A12.out).mono ?_
   rintro e w18 ⟨rfl,hb⟩
   refine⟨_,rfl,?_⟩
   replace ay:=vB ay hb
   replace az:=vB az hb
   replace ak:=rB ak hb
   replace ap:=vB ap hb
   replace aq:=vB aq hb
   replace ae:=bB ae hb
   replace am:=bB am hb
   replace ai:=bB ai hb
   replace HB:=bW HB hb
   (try clear hb)
   (try clear hb2)
   (try clear hk)
   (try clear hi)
   refine hK.out _ _ (bn4 ai (bn4 ae ⟨(cW HB aV),(cW HB aU),(cW HB aT),(cW HB aQ),(cW HB aN),(cW HB aM),(cW HB aJ),(cW HB aI)⟩)) (fun hHeld=>?_)
   clear hK K
   refine norm_ (a':=?_) ?_ ?_
   rotate_left
   ·show Act.put _ (some 26) _=_
    simp only [Act.put,List.setIfInBounds_toArray,List.set_cons_zero,List.set_cons_succ,i64_w,i32_w]
    rfl
   refine oA 8 (some 27) HT_ (fun K hK=>?_)
   refine value_ (w1:=?_) (v:=?_) (by rfl) rfl ?_ ?_
   rotate_left 2
   ·go_simp
    constructor
    ·rfl
    ·rfl
   refine hK.out _ _ ⟨(blk_cell (blk_alloc ai.out _) 0).trans rfl,(blk_cell (blk_alloc ai.out _) 1).trans rfl,(blk_cell (blk_alloc ai.out _) 2).trans rfl,(blk_cell (blk_alloc ai.out _) 3).trans rfl,(blk_cell (blk_alloc ae.out _) 0).trans rfl,(blk_cell (blk_alloc ae.out _) 1).trans rfl,(blk_cell (blk_alloc ae.out _) 2).trans rfl,(blk_cell (blk_alloc ae.out _) 3).trans rfl,(World.cell?_alloc_lt _ _ _ (World.block_lt_of_cell? _ _ ((cW HB aV)))).trans ((cW HB aV)),(World.cell?_alloc_lt _ _ _ (World.block_lt_of_cell? _ _ ((cW HB aU)))).trans ((cW HB aU)),(World.cell?_alloc_lt _ _ _ (World.block_lt_of_cell? _ _ ((cW HB aT)))).trans ((cW HB aT)),(World.cell?_alloc_lt _ _ _ (World.block_lt_of_cell? _ _ ((cW HB aQ)))).trans ((cW HB aQ)),(World.cell?_alloc_lt _ _ _ (World.block_lt_of_cell? _ _ ((cW HB aN)))).trans ((cW HB aN)),(World.cell?_alloc_lt _ _ _ (World.block_lt_of_cell? _ _ ((cW HB aM)))).trans ((cW HB aM)),(World.cell?_alloc_lt _ _ _ (World.block_lt_of_cell? _ _ ((cW HB aJ)))).trans ((cW HB aJ)),(World.cell?_alloc_lt _ _ _ (World.block_lt_of_cell? _ _ ((cW HB aI)))).trans ((cW HB aI))⟩ (fun hHeld=>?_)
   clear hK K
   refine norm_ (a':=?_) ?_ ?_
   rotate_left
   ·show Act.put _ (some 27) _=_
    simp only [Act.put,List.setIfInBounds_toArray,List.set_cons_zero,List.set_cons_succ,i64_w,i32_w]
    rfl
   refine oA 9 (some 28) HT_ (fun K hK=>?_)
   refine Kd.R_append_step k56 (w0:=w) w.heap.size (by rfl) (.tmp 20) (.tmp 27) 22 56 (.agg #[(.string ⟨#[]⟩),(.int .i64 0),(.float .f64 0),(.string ⟨#[]⟩),(.int .i64 0),(.int .i64 0),(.float .f64 0),(.string ⟨#[]⟩)]) 88 rfl Try.underlying22 info56 rfl (by decide) (by omega) aw aj (⟨bk,(⟨bl,bm,bn⟩:S54),bo,(⟨bp,bq,br⟩:S54)⟩:S56) [.string bk,.int .i64 bl,.float .f64 bm,.string bn,.int .i64 bo,.int .i64 bp,.float .f64 bq,.string br] (fun k_=>(w.heap.size≤k_)) (fun _=>False) rfl rfl ?aP (fun _ hk=>hk.elim) ?aF ?aO ?aB ?aS ?aL ?_
   (case aP=>exact k56_mkM _ _ _ (⟨bk,(⟨bl,bm,bn⟩:S54),bo,(⟨bp,bq,br⟩:S54)⟩:S56))
   (case aB=>exact (bC HB))
   (case aF=>exact (fun k_ hk=>(Nat.le_trans (below_size (bC HB)) hk)))
   (case aO=>exact (by (with_reducible repeat (first|apply Kd.R_alloc|apply Kd.R_drewN|apply Kd.R_drew));exact ak.out))
   (case aS=>exact (below_size (bC HB)))
   (case aL=>have:=LMc13.out;omega)
   intro dv w19 ho hb hg hat
   rw [← Ny549.out] at ho
   have bM:=aK (ho)
   replace ay:=aK (Kd.V_afterv (ok:=(fun k_=>((P0_2_ k_∨P0_3_ k_)∨w.heap.size≤k_)∧k_≠aD∧k_≠ag∧k_≠aa)) (by (with_reducible repeat (first|apply Kd.V_alloc|apply Kd.V_drewN|apply Kd.V_drew));exact Kd.V_mono ay.out (fun _ hk=>⟨⟨hk.1,⟨hk.2.2.1,⟨hk.2.2.2.1,hk.2.2.2.2⟩⟩⟩,hk.2.1⟩)) hg hat)
   replace az:=aK (Kd.V_afterv (ok:=(fun k_=>((P0_2_ k_∨P0_3_ k_)∨w.heap.size≤k_)∧k_≠aD∧k_≠ag∧k_≠aa)) (by (with_reducible repeat (first|apply Kd.V_alloc|apply Kd.V_drewN|apply Kd.V_drew));exact Kd.V_mono az.out (fun _ hk=>⟨⟨hk.1,⟨hk.2.2.1,⟨hk.2.2.2.1,hk.2.2.2.2⟩⟩⟩,hk.2.1⟩)) hg hat)
   replace ap:=aK (Kd.V_afterv (ok:=(fun k_=>((P0_2_ k_∨P0_3_ k_)∨w.heap.size≤k_)∧k_≠aD∧k_≠ag∧k_≠aa)) (by (with_reducible repeat (first|apply Kd.V_alloc|apply Kd.V_drewN|apply Kd.V_drew));exact Kd.V_mono ap.out (fun _ hk=>⟨⟨hk.1,⟨hk.2.2.1,⟨hk.2.2.2.1,hk.2.2.2.2⟩⟩⟩,hk.2.1⟩)) hg hat)
   replace aq:=aK (Kd.V_afterv (ok:=(fun k_=>((P0_2_ k_∨P0_3_ k_)∨w.heap.size≤k_)∧k_≠aD∧k_≠ag∧k_≠aa)) (by (with_reducible repeat (first|apply Kd.V_alloc|apply Kd.V_drewN|apply Kd.V_drew));exact Kd.V_mono aq.out (fun _ hk=>⟨⟨hk.1,⟨hk.2.2.1,⟨hk.2.2.2.1,hk.2.2.2.2⟩⟩⟩,hk.2.1⟩)) hg hat)
   replace ae:=aK (blk_grown (bQ ae) hg (Kd.R_ne ak.out ae.out (by decide)))
   replace am:=aK (blk_grown (bQ am) hg (Kd.R_ne ak.out am.out (by decide)))
   replace ai:=aK (blk_grown (bQ ai) hg (Kd.R_ne ak.out ai.out (by decide)))
   replace HB:=aK (hb)
   clear ak
   clear ho hb hg hat
   obtain⟨bs,bu,cq⟩:=Kd.R_slice bM.out
   (first|subst cq|(injection cq with f1_ f2_ f3_;have f4_:=f1_.symm;have f5_:=f3_.symm;clear f1_ f2_ f3_;subst f4_;subst f5_))
   refine hK.out _ _ (bn4 ai (bn4 ae ⟨(cW HB aV),(cW HB aU),(cW HB aT),(cW HB aQ),(cW HB aN),(cW HB aM),(cW HB aJ),(cW HB aI)⟩)) (fun hHeld=>?_)
   clear hK K
   refine norm_ (a':=?_) ?_ ?_
   rotate_left
   ·show Act.put _ (some 28) _=_
    simp only [Act.put,List.setIfInBounds_toArray,List.set_cons_zero,List.set_cons_succ,i64_w,i32_w]
    rfl
   refine pA 10 29 HT_ ?_
   refine last_ (i:=11) (N:=none) #[true,true,true,true,true,true,true,true,true,true,true,true] rfl rfl (one_of HT_.out (by kernel_rfl)) (by decide) (fun K hK=>?_)
   have dw:w19.cell? ⟨aa,1,none⟩=some (aw):=(blk_cell ai.out 1).trans rfl
   have du:=blk_frozen ai.out 1
   have dj:=ao.out
   have dk:=ax.out
   have dl:=aH.out
   have dm:=aY.out
   with_reducible refine skip_ (w1:=?_) (by with_unfolding_all rfl) (by with_unfolding_all rfl) ?_ ?_
   rotate_left
   ·go_simp
    rfl
   refine hK.out _ _ ?_
   clear hK K
   refine done_ (done_of HT_.out (by kernel_rfl)) ?_
   try go_wp2
   go_roundg k1
   case measure=>have:=HK1.out;omega
   case rel=>exact⟨(wrap64 (ab+1)),(aZ),(.slice bs aZ.length bu),(by first|rfl|(simp;done)|(simp [*];done)),H',⟨by have:=HK1.out;omega⟩,⟨by (with_reducible repeat (first|apply Kd.V_alloc|apply Kd.V_drewN|apply Kd.V_drew));exact Kd.V_mono (Kd.V_far (p:=⟨aa,1,none⟩) (Kd.V_mono ay.out (fun k_ hk=>(⟨hk,hk.1.2.2.2⟩:_∧k_≠aa))) (fun _ hk=>hk.2) (.slice bs aZ.length bu)) (fun _ hk=>⟨hk.1.1.1,⟨hk.1.2,⟨hk.1.1.2.1,⟨hk.1.1.2.2.1,hk.1.1.2.2.2⟩⟩⟩⟩)⟩,⟨by (with_reducible repeat (first|apply Kd.V_alloc|apply Kd.V_drewN|apply Kd.V_drew));exact Kd.V_mono (Kd.V_far (p:=⟨aa,1,none⟩) (Kd.V_mono az.out (fun k_ hk=>(⟨hk,hk.1.2.2.2⟩:_∧k_≠aa))) (fun _ hk=>hk.2) (.slice bs aZ.length bu)) (fun _ hk=>⟨hk.1.1.1,⟨hk.1.2,⟨hk.1.1.2.1,⟨hk.1.1.2.2.1,hk.1.1.2.2.2⟩⟩⟩⟩)⟩,⟨by (with_reducible repeat (first|apply Kd.R_alloc|apply Kd.R_drewN|apply Kd.R_drew));exact Kd.R_mono (Kd.R_far (p:=⟨aa,1,none⟩) (Kd.R_types bM.out ai.out (by decide)) (fun _ hk=>hk.2) (.slice bs aZ.length bu)) (fun _ hk=>hk.1)⟩,⟨by (with_reducible repeat (first|apply Kd.V_alloc|apply Kd.V_drewN|apply Kd.V_drew));exact Kd.V_mono (Kd.V_far (p:=⟨aa,1,none⟩) (Kd.V_mono ap.out (fun k_ hk=>(⟨hk,hk.1.2.2.2⟩:_∧k_≠aa))) (fun _ hk=>hk.2) (.slice bs aZ.length bu)) (fun _ hk=>⟨hk.1.1.1,⟨hk.1.2,⟨hk.1.1.2.1,⟨hk.1.1.2.2.1,hk.1.1.2.2.2⟩⟩⟩⟩)⟩,⟨by (with_reducible repeat (first|apply Kd.V_alloc|apply Kd.V_drewN|apply Kd.V_drew));exact Kd.V_mono (Kd.V_far (p:=⟨aa,1,none⟩) (Kd.V_mono aq.out (fun k_ hk=>(⟨hk,hk.1.2.2.2⟩:_∧k_≠aa))) (fun _ hk=>hk.2) (.slice bs aZ.length bu)) (fun _ hk=>⟨hk.1.1.1,⟨hk.1.2,⟨hk.1.1.2.1,⟨hk.1.1.2.2.1,hk.1.1.2.2.2⟩⟩⟩⟩)⟩,⟨by (with_reducible repeat (first|refine blk_drewN ?_ _|refine blk_drew ?_|refine blk_alloc ?_ _));refine blk_far ?_ ao.out _;(with_reducible repeat (first|refine blk_drewN ?_ _|refine blk_drew ?_|refine blk_alloc ?_ _));exact ae.out⟩,⟨by (with_reducible repeat (first|refine blk_drewN ?_ _|refine blk_drew ?_|refine blk_alloc ?_ _));refine blk_far ?_ ax.out _;(with_reducible repeat (first|refine blk_drewN ?_ _|refine blk_drew ?_|refine blk_alloc ?_ _));exact am.out⟩,⟨by (with_reducible repeat (first|refine blk_drewN ?_ _|refine blk_drew ?_|refine blk_alloc ?_ _));refine blk_put (cs:=#[.bool al,aw,.slice au af.length av,.slice aA ah.length aC]) ?_ 1 _ rfl;(with_reducible repeat (first|refine blk_drewN ?_ _|refine blk_drew ?_|refine blk_alloc ?_ _));exact ai.out⟩,bV HB⟩
end Go.Proofs.Ytmmjpieafbjggaa.P
end
section
namespace Go.Proofs.Ytmmjpieafbjggaa.P
open Go.RowKit Go.Proofs.YtmmjpieafbjggaaW.PrintWords Go.Proofs.YtmmjpieafbjggaaW.PrintLast Go.Proofs.YtmmjpieafbjggaaW.PrintMore
attribute [local go_sem] max2_int min2_int max_two min_two max_three min_three max_four min_four   -- for this text's walks alone
attribute [local go_sem] x_str_gtr x_str_leq x_str_geq ext_bits ext_frombits ext_neg x_store_float Instr.field asAgg
set_option linter.unusedVariables false
set_option linter.unusedSimpArgs false
def engrosslaw11_tells.f (k:Nat) (l0:List Int):Option (Bool):=(node_Decode.f k l0).bind fun bt654=>(if bt654.2.2.2.2=0 then ((engrosslaw11_Back.f k bt654.1 bt654.2.1 bt654.2.2.1 bt654.2.2.2.1).bind fun bt666=>((engrossref10_NodeBytes.f k bt666.1 bt666.2.1 bt666.2.2.1 bt666.2.2.2).bind fun t676=>((engrossref10_Whole.f t676).bind fun t679=>(some ((strOfNums t679).toList == (strOfNums l0).toList))))) else (if bt654.2.2.2.2=8 then (if (bt654.2.1.length:Int)=0 then (some ((bt654.2.2.2.1.length:Int) == 0)) else (none)) else (none)))
def engrosslaw11_tells.T4:Bool × List (List Nat × List Nat):=(true,[([],[]),([0],[0]),([1,1],[1]),([2,2],[2]),([3],[3]),([],[]),([5],[5]),([4,6],[4,6]),([7,3,0,1,2,3,4,5,6,7],[7])])
def engrosslaw11_tells.B4:List Nat:=[0,1,3,7,15,0,32,127,255]
theorem engrosslaw11_tells.tab4:rtab .any (opsOf Try.f25 4)=engrosslaw11_tells.T4:=by kernel_rfl
theorem engrosslaw11_tells.bits4:waitsOk engrosslaw11_tells.T4.2 engrosslaw11_tells.B4=true:=by kernel_rfl
set_option maxHeartbeats 8000000 in
set_option maxRecDepth 100000 in
theorem engrosslaw11_tells.calls (k:Nat) (A0:Option Addr) (c0:Nat) (l0:List Int) (r:Bool) (w:World) (hr0:Kd.C (Kd.int .u8) w A0 l0.length l0) (hc0:l0.length≤c0) (h:engrosslaw11_tells.f k l0=some r) :
  Calls Try.prog 25 #[.slice A0 l0.length c0] w fun e w'=>e = .returned (.bool r)∧Below w.heap.size w w':=by
 have hu36:=Try.underlying36
 have HR0:=aK hr0
 have HC0:=aK hc0
 clear hr0 hc0
 have HB:=aK (Below.refl w.heap.size w)
 have H:((node_Decode.f k l0).bind fun av=>(if av.2.2.2.2=0 then ((engrosslaw11_Back.f k av.1 av.2.1 av.2.2.1 av.2.2.2.1).bind fun au=>((engrossref10_NodeBytes.f k au.1 au.2.1 au.2.2.1 au.2.2.2).bind fun aw=>((engrossref10_Whole.f aw).bind fun ax=>(some ((strOfNums ax).toList == (strOfNums l0).toList))))) else (if av.2.2.2.2=8 then (if (av.2.1.length:Int)=0 then (some ((av.2.2.2.1.length:Int) == 0)) else (none)) else (none))))=some r:=h
 clear h
 replace H:=oS H
 obtain⟨⟨aj,ag,ah,ai,ar⟩,A20,H⟩:=H
 replace H:(if ar=0 then ((engrosslaw11_Back.f k aj ag ah ai).bind fun au=>((engrossref10_NodeBytes.f k au.1 au.2.1 au.2.2.1 au.2.2.2).bind fun aw=>((engrossref10_Whole.f aw).bind fun ax=>(some ((strOfNums ax).toList == (strOfNums l0).toList))))) else (if ar=8 then (if (ag.length:Int)=0 then (some ((ai.length:Int) == 0)) else (none)) else (none)))=some r:=H
 have A2:=aK A20
 clear A20
 by_cases c3:ar=0
 rotate_left
 ·rw [if_neg c3] at H
  have aX:(ar == 0)=false:=beq_eq_false_iff_ne.mpr c3
  have aY:(ar != 0)=true:=bne_iff_ne.mpr c3
  by_cases c24:ar=8
  rotate_left
  ·rw [if_neg c24] at H
   exact absurd H (by simp)
  rw [if_pos c24] at H
  have b8:(ar == 8)=true:=beq_iff_eq.mpr c24
  have b9:(ar != 8)=false:=bne_eq_false_iff_eq.mpr c24
  clear c24
  by_cases c25:(ag.length:Int)=0
  rotate_left
  ·rw [if_neg c25] at H
   exact absurd H (by simp)
  rw [if_pos c25] at H
  have ca:((ag.length:Int) == 0)=true:=beq_iff_eq.mpr c25
  have cb:((ag.length:Int) != 0)=false:=bne_eq_false_iff_eq.mpr c25
  clear c25
  obtain rfl:=Option.some.inj H
  go_enter Try.func25,Try.ntmps25
  go_wp2_with (first|((with_reducible refine gate_callee (f:=21) rfl ?_);refine gL (some 7) Try.func21 #[.slice A0 l0.length c0] ?_;(with_reducible refine (node_Decode.calls k _ _ l0 aj ag ah ai ar _ ?side1 ?side2 A2.out).mono ?_);(case side1=>repeat (first|exact HR0.out|(with_reducible refine Kd.C_alloc ?_ _)|(with_reducible refine Kd.C_drewN ?_ _)|(with_reducible refine Kd.C_drew ?_)));(case side2=>exact HC0.out);rintro e w26 ⟨aZ,ba,bb,rfl,ho0,ho1,ho2,hb⟩;refine⟨_,rfl,?_⟩;have ac:=aK (Kd.R_lower ho0 (below_size (bC HB)));have ae:=aK (Kd.R_lower ho1 (below_size (bC HB)));have af:=aK (Kd.R_lower ho2 (below_size (bC HB)));replace HB:=bW HB hb;(try clear hb);(try clear hb2);(try clear hk);(try clear hi);(try clear ho0);(try clear ho1);(try clear ho2))|((with_reducible refine gate_dst (N:=3) rfl ?_);(try (refine gate_guard (by rfl) ?_;dsimp only));refine box_event ?hg (N:=3) ?hd (cs:=#[.bool false,.slice none 0 0,.slice none 0 0,.slice none 0 0]) (t:=36) ?hr ?_;(case hd=>rfl);(case hg=>rfl);(case hr=>first|(go_simp;done)|(go_simp;rfl));intro aa hg w27 hbox hb;have ab:=aK (hbox);have aT:=bZ HB hg;have aU:=bZ HB hg;replace ac:=rB ac hb;replace ae:=rB ae hb;replace af:=rB af hb;replace HB:=bW HB hb;clear hb hbox hg;obtain⟨bs,bu,bv,bw,bx,bA,bD,bF⟩:=bf4 (w:=w27) ab;obtain⟨cd,cf,bc⟩:=Kd.R_slice ac.out;subst bc;obtain⟨cg,ch,bf⟩:=Kd.R_slice ae.out;subst bf;obtain⟨cj,cm,bg⟩:=Kd.R_slice af.out;subst bg))
  go_ret
  exact xB HB
 rw [if_pos c3] at H
 have aX:(ar == 0)=true:=beq_iff_eq.mpr c3
 have aY:(ar != 0)=false:=bne_eq_false_iff_eq.mpr c3
 clear c3
 replace H:=oS H
 obtain⟨⟨aD,aE,aG,aH⟩,A40,H⟩:=H
 replace H:((engrossref10_NodeBytes.f k aD aE aG aH).bind fun aw=>((engrossref10_Whole.f aw).bind fun ax=>(some ((strOfNums ax).toList == (strOfNums l0).toList))))=some r:=H
 have A4:=aK A40
 clear A40
 replace H:=oS H
 obtain⟨aw,A50,H⟩:=H
 replace H:((engrossref10_Whole.f aw).bind fun ax=>(some ((strOfNums ax).toList == (strOfNums l0).toList)))=some r:=H
 have A5:=aK A50
 clear A50
 replace H:=oS H
 obtain⟨ax,A60,H⟩:=H
 replace H:(some ((strOfNums ax).toList == (strOfNums l0).toList))=some r:=H
 have A6:=aK A60
 clear A60
 obtain rfl:=Option.some.inj H
 go_enter Try.func25,Try.ntmps25
 try go_wp2_with (first|((with_reducible refine gate_callee (f:=21) rfl ?_);refine gL (some 7) Try.func21 #[.slice A0 l0.length c0] ?_;(with_reducible refine (node_Decode.calls k _ _ l0 aj ag ah ai ar _ ?side1 ?side2 A2.out).mono ?_);(case side1=>repeat (first|exact HR0.out|(with_reducible refine Kd.C_alloc ?_ _)|(with_reducible refine Kd.C_drewN ?_ _)|(with_reducible refine Kd.C_drew ?_)));(case side2=>exact HC0.out);rintro e w7 ⟨aZ,ba,bb,rfl,ho0,ho1,ho2,hb⟩;refine⟨_,rfl,?_⟩;have ac:=aK (Kd.R_lower ho0 (below_size (bC HB)));have ae:=aK (Kd.R_lower ho1 (below_size (bC HB)));have af:=aK (Kd.R_lower ho2 (below_size (bC HB)));replace HB:=bW HB hb;(try clear hb);(try clear hb2);(try clear hk);(try clear hi);(try clear ho0);(try clear ho1);(try clear ho2))|((with_reducible refine gate_dst (N:=3) rfl ?_);(try (refine gate_guard (by rfl) ?_;dsimp only));refine box_event ?hg (N:=3) ?hd (cs:=#[.bool false,.slice none 0 0,.slice none 0 0,.slice none 0 0]) (t:=36) ?hr ?_;(case hd=>rfl);(case hg=>rfl);(case hr=>first|(go_simp;done)|(go_simp;rfl));intro aa hg w8 hbox hb;have ab:=aK (hbox);have aT:=bZ HB hg;have aU:=bZ HB hg;replace ac:=rB ac hb;replace ae:=rB ae hb;replace af:=rB af hb;replace HB:=bW HB hb;clear hb hbox hg;obtain⟨bI,bJ,bM,bN,bO,bU,bX,bY⟩:=bf4 (w:=w8) ab;obtain⟨ak,al,bh⟩:=Kd.R_slice ac.out;subst bh;obtain⟨am,ao,bi⟩:=Kd.R_slice ae.out;subst bi;obtain⟨ap,aq,bj⟩:=Kd.R_slice af.out;subst bj))
 have n0_:Aside0 (Kd.R k62 62 ((((w8.setCell ⟨aa,0,none⟩ (.bool aj)).setCell ⟨aa,1,none⟩ (.slice ak ag.length al)).setCell ⟨aa,2,none⟩ (.slice am ah.length ao)).setCell ⟨aa,3,none⟩ (.slice ap ai.length aq)) w.heap.size (fun _=>True) (.slice ak ag.length al) ag):=⟨by (with_reducible repeat (first|apply Kd.R_alloc|apply Kd.R_drewN|apply Kd.R_drew));exact Kd.R_mono (Kd.R_far (p:=⟨aa,3,none⟩) (Kd.R_far (p:=⟨aa,2,none⟩) (Kd.R_far (p:=⟨aa,1,none⟩) (Kd.R_far (p:=⟨aa,0,none⟩) (Kd.R_types ac.out ab.out (by decide)) (fun _ hk=>hk.2) (.bool aj)) (fun _ hk=>hk.2) (.slice ak ag.length al)) (fun _ hk=>hk.2) (.slice am ah.length ao)) (fun _ hk=>hk.2) (.slice ap ai.length aq)) (fun _ hk=>trivial)⟩
 have n1_:Aside0 (Kd.R Kd.string 9 ((((w8.setCell ⟨aa,0,none⟩ (.bool aj)).setCell ⟨aa,1,none⟩ (.slice ak ag.length al)).setCell ⟨aa,2,none⟩ (.slice am ah.length ao)).setCell ⟨aa,3,none⟩ (.slice ap ai.length aq)) w.heap.size (fun _=>True) (.slice am ah.length ao) ah):=⟨by (with_reducible repeat (first|apply Kd.R_alloc|apply Kd.R_drewN|apply Kd.R_drew));exact Kd.R_mono (Kd.R_far (p:=⟨aa,3,none⟩) (Kd.R_far (p:=⟨aa,2,none⟩) (Kd.R_far (p:=⟨aa,1,none⟩) (Kd.R_far (p:=⟨aa,0,none⟩) (Kd.R_types ae.out ab.out (by decide)) (fun _ hk=>hk.2) (.bool aj)) (fun _ hk=>hk.2) (.slice ak ag.length al)) (fun _ hk=>hk.2) (.slice am ah.length ao)) (fun _ hk=>hk.2) (.slice ap ai.length aq)) (fun _ hk=>trivial)⟩
 have n2_:Aside0 (Kd.R (Kd.int .i64) 3 ((((w8.setCell ⟨aa,0,none⟩ (.bool aj)).setCell ⟨aa,1,none⟩ (.slice ak ag.length al)).setCell ⟨aa,2,none⟩ (.slice am ah.length ao)).setCell ⟨aa,3,none⟩ (.slice ap ai.length aq)) w.heap.size (fun _=>True) (.slice ap ai.length aq) ai):=⟨by (with_reducible repeat (first|apply Kd.R_alloc|apply Kd.R_drewN|apply Kd.R_drew));exact Kd.R_mono (Kd.R_far (p:=⟨aa,3,none⟩) (Kd.R_far (p:=⟨aa,2,none⟩) (Kd.R_far (p:=⟨aa,1,none⟩) (Kd.R_far (p:=⟨aa,0,none⟩) (Kd.R_types af.out ab.out (by decide)) (fun _ hk=>hk.2) (.bool aj)) (fun _ hk=>hk.2) (.slice ak ag.length al)) (fun _ hk=>hk.2) (.slice am ah.length ao)) (fun _ hk=>hk.2) (.slice ap ai.length aq)) (fun _ hk=>trivial)⟩
 have n3_:Aside0 (((((w8.setCell ⟨aa,0,none⟩ (.bool aj)).setCell ⟨aa,1,none⟩ (.slice ak ag.length al)).setCell ⟨aa,2,none⟩ (.slice am ah.length ao)).setCell ⟨aa,3,none⟩ (.slice ap ai.length aq)).heap[aa]? = some (.cells #[.bool aj,.slice ak ag.length al,.slice am ah.length ao,.slice ap ai.length aq] 36 (0,0))):=⟨by (with_reducible repeat (first|refine blk_drewN ?_ _|refine blk_drew ?_|refine blk_alloc ?_ _));refine blk_put (cs:=#[.bool aj,.slice ak ag.length al,.slice am ah.length ao,.slice none 0 0]) ?_ 3 _ rfl;(with_reducible repeat (first|refine blk_drewN ?_ _|refine blk_drew ?_|refine blk_alloc ?_ _));refine blk_put (cs:=#[.bool aj,.slice ak ag.length al,.slice none 0 0,.slice none 0 0]) ?_ 2 _ rfl;(with_reducible repeat (first|refine blk_drewN ?_ _|refine blk_drew ?_|refine blk_alloc ?_ _));refine blk_put (cs:=#[.bool aj,.slice none 0 0,.slice none 0 0,.slice none 0 0]) ?_ 1 _ rfl;(with_reducible repeat (first|refine blk_drewN ?_ _|refine blk_drew ?_|refine blk_alloc ?_ _));refine blk_put (cs:=#[.bool false,.slice none 0 0,.slice none 0 0,.slice none 0 0]) ?_ 0 _ rfl;(with_reducible repeat (first|refine blk_drewN ?_ _|refine blk_drew ?_|refine blk_alloc ?_ _));exact ab.out⟩
 have n4_:Aside0 (Below w.heap.size w ((((w8.setCell ⟨aa,0,none⟩ (.bool aj)).setCell ⟨aa,1,none⟩ (.slice ak ag.length al)).setCell ⟨aa,2,none⟩ (.slice am ah.length ao)).setCell ⟨aa,3,none⟩ (.slice ap ai.length aq))):=bV HB
 (try clear ac)
 (try clear ae)
 (try clear af)
 (try clear ab)
 (try clear HB)
 generalize ((((w8.setCell ⟨aa,0,none⟩ (.bool aj)).setCell ⟨aa,1,none⟩ (.slice ak ag.length al)).setCell ⟨aa,2,none⟩ (.slice am ah.length ao)).setCell ⟨aa,3,none⟩ (.slice ap ai.length aq))=w13 at n0_ n1_ n2_ n3_ n4_ ⊢
 have ac:=n0_
 have ae:=n1_
 have af:=n2_
 have ab:=n3_
 have HB:=n4_
 clear n0_ n1_ n2_ n3_ n4_
 replace ac:=aK (Kd.R_drew ac.out)
 replace ae:=aK (Kd.R_drew ae.out)
 replace af:=aK (Kd.R_drew af.out)
 replace ab:=aK (blk_drew ab.out)
 replace HB:=aK (below_drew1 HB.out)
 refine start_ (n:=9) (S:=fun w'=>w'.cell? ⟨aa,0,none⟩=some (.bool aj)∧w'.cell? ⟨aa,1,none⟩=some (.slice ak ag.length al)∧w'.cell? ⟨aa,2,none⟩=some (.slice am ah.length ao)∧w'.cell? ⟨aa,3,none⟩=some (.slice ap ai.length aq)∧(convert 30 9 (.slice A0 l0.length c0)).run Try.prog w' = .ok (.string (strOfNums l0)) w') (ds:=[]) #[false,false,false,false,false,false,false,false,false] (by kernel_rfl) rfl rfl (bn4 ab ((by have T_:=Kd.x_C_string (P:=Try.prog) (A:=A0) (c:=c0) Try.underlying30 Try.underlying5 Try.underlying9 (Kd.C_below HR0.out HB.out);first|exact T_.1|exact T_.2 _|(simp only [World.drewN_drewN];exact T_.2 _)))) (fun hHeld=>?_);refine with_tabW engrosslaw11_tells.tab4 engrosslaw11_tells.bits4 (fun HT_ HW_=>?_)
 generalize w13.drew=w14 at ac ae af ab HB hHeld ⊢
 refine pA 5 31 HT_ ?_
 refine tA 0 26 HT_ HW_ hHeld ?_ (hy:=by rintro w' ⟨s0,s1,s2,s3,s4⟩;go_simp;with_reducible rfl)
 refine tA 6 32 HT_ HW_ hHeld ?_ (hy:=by rintro w' ⟨s0,s1,s2,s3,s4⟩;go_simp;with_reducible rfl)
 refine oA 1 (some 27) HT_ (fun K hK=>?_)
 refine goes_ Try.func24 (by kernel_rfl) rfl #[.agg #[.bool aj,.slice ak ag.length al,.slice am ah.length ao,.slice ap ai.length aq]] (by rfl) rfl rfl (by (try simp only [List.map_toArray,List.map_cons,List.map_nil]);first|done|rfl|(simp only [List.length_drop,List.length_take];rfl)) ?_
 with_reducible refine (engrosslaw11_Back.calls k aj _ _ ag (fun k_=>some k_=(.slice am ah.length ao:Value).ownBlock) _ _ ah (fun k_=>some k_=(.slice ap ai.length aq:Value).ownBlock) _ _ ai aD aE aG aH _ ?side1 ?side2 ?side3 ?side4 A4.out).mono ?_
 (case side1=>exact sC (Kd.R_reads' ac.out).2.2)
 (case side2=>exact (Kd.R_reads' ac.out).2.1)
 (case side3=>exact Kd.R_V (Kd.R_tight rfl (Kd.R_types (Kd.R_apart' (Kd.R_apart' (ae.out) (Kd.R_typed ac.out) (by decide)) (Kd.R_typed af.out) (by decide)) ab.out (by decide))))
 (case side4=>exact Kd.R_V (Kd.R_tight rfl (Kd.R_types (Kd.R_apart' (Kd.R_apart' (af.out) (Kd.R_typed ac.out) (by decide)) (Kd.R_typed ae.out) (by decide)) ab.out (by decide))))
 rintro e w16 ⟨aI,cn,cp,rfl,ho0,ho1,ho2,hb⟩
 refine⟨_,rfl,?_⟩
 have ay:=aK (Kd.R_lower (Kd.R_mono (ok':=fun k_=>True) ho0 (fun _ hk_=>trivial)) (below_size (bC HB)))
 have az:=aK (Kd.V_lower (Kd.V_mono (ok':=fun k_=>some k_≠(aI:Value).ownBlock∧some k_≠(.slice ak ag.length al:Value).ownBlock∧k_≠aa) ho1 (fun k_ hk_=>⟨hk_.2,Or.elim hk_.1 (fun hs_=>Or.elim hs_ (fun hs_=>((Kd.R_types (Kd.R_apart' (Kd.R_apart' (ae.out) (Kd.R_typed ac.out) (by decide)) (Kd.R_typed af.out) (by decide)) ab.out (by decide)).1 k_ hs_.symm).1.1.2) (fun hs_=>((Kd.R_types (Kd.R_apart' (Kd.R_apart' (af.out) (Kd.R_typed ac.out) (by decide)) (Kd.R_typed ae.out) (by decide)) ab.out (by decide)).1 k_ hs_.symm).1.1.2)) (fun hn_=>(rF ac k_ hn_)),Or.elim hk_.1 (fun hs_=>Or.elim hs_ (fun hs_=>((Kd.R_types (Kd.R_apart' (Kd.R_apart' (ae.out) (Kd.R_typed ac.out) (by decide)) (Kd.R_typed af.out) (by decide)) ab.out (by decide)).1 k_ hs_.symm).2) (fun hs_=>((Kd.R_types (Kd.R_apart' (Kd.R_apart' (af.out) (Kd.R_typed ac.out) (by decide)) (Kd.R_typed ae.out) (by decide)) ab.out (by decide)).1 k_ hs_.symm).2)) (fun hn_=>(Kd.freshB (bQ ab) k_ hn_))⟩)) (below_size (bC HB)))
 have aA:=aK (Kd.V_lower (Kd.V_mono (ok':=fun k_=>some k_≠(aI:Value).ownBlock∧some k_≠(.slice ak ag.length al:Value).ownBlock∧k_≠aa) ho2 (fun k_ hk_=>⟨hk_.2,Or.elim hk_.1 (fun hs_=>Or.elim hs_ (fun hs_=>((Kd.R_types (Kd.R_apart' (Kd.R_apart' (ae.out) (Kd.R_typed ac.out) (by decide)) (Kd.R_typed af.out) (by decide)) ab.out (by decide)).1 k_ hs_.symm).1.1.2) (fun hs_=>((Kd.R_types (Kd.R_apart' (Kd.R_apart' (af.out) (Kd.R_typed ac.out) (by decide)) (Kd.R_typed ae.out) (by decide)) ab.out (by decide)).1 k_ hs_.symm).1.1.2)) (fun hn_=>(rF ac k_ hn_)),Or.elim hk_.1 (fun hs_=>Or.elim hs_ (fun hs_=>((Kd.R_types (Kd.R_apart' (Kd.R_apart' (ae.out) (Kd.R_typed ac.out) (by decide)) (Kd.R_typed af.out) (by decide)) ab.out (by decide)).1 k_ hs_.symm).2) (fun hs_=>((Kd.R_types (Kd.R_apart' (Kd.R_apart' (af.out) (Kd.R_typed ac.out) (by decide)) (Kd.R_typed ae.out) (by decide)) ab.out (by decide)).1 k_ hs_.symm).2)) (fun hn_=>(Kd.freshB (bQ ab) k_ hn_))⟩)) (below_size (bC HB)))
 replace ac:=rB ac hb
 replace ae:=rB ae hb
 replace af:=rB af hb
 replace ab:=bB ab hb
 replace HB:=bW HB hb
 (try clear hb)
 (try clear hb2)
 (try clear hk)
 (try clear hi)
 (try clear ho0)
 (try clear ho1)
 (try clear ho2)
 obtain⟨bk,bl,aJ⟩:=Kd.R_slice ay.out
 (first|subst aJ|(injection aJ with f1_ f2_ f3_;have f4_:=f1_.symm;have f5_:=f3_.symm;clear f1_ f2_ f3_;subst f4_;subst f5_))
 obtain⟨bm,bn,aM⟩:=Kd.V_slice az.out
 (first|subst aM|(injection aM with f1_ f2_ f3_;have f4_:=f1_.symm;have f5_:=f3_.symm;clear f1_ f2_ f3_;subst f4_;subst f5_))
 obtain⟨bo,bp,aN⟩:=Kd.V_slice aA.out
 (first|subst aN|(injection aN with f1_ f2_ f3_;have f4_:=f1_.symm;have f5_:=f3_.symm;clear f1_ f2_ f3_;subst f4_;subst f5_))
 refine hK.out _ _ (bn4 ab ((by have T_:=Kd.x_C_string (P:=Try.prog) (A:=A0) (c:=c0) Try.underlying30 Try.underlying5 Try.underlying9 (Kd.C_below HR0.out HB.out);first|exact T_.1|exact T_.2 _|(simp only [World.drewN_drewN];exact T_.2 _)))) (fun hHeld=>?_)
 clear hK K
 refine norm_ (a':=?_) ?_ ?_
 rotate_left
 ·show Act.put _ (some 27) _=_
  simp only [Act.put,List.setIfInBounds_toArray,List.set_cons_zero,List.set_cons_succ,i64_w,i32_w]
  rfl
 refine oA 2 (some 28) HT_ (fun K hK=>?_)
 refine goes_ Try.func14 (by kernel_rfl) rfl #[.agg #[.bool aD,.slice bk aE.length bl,.slice bm aG.length bn,.slice bo aH.length bp]] (by rfl) rfl rfl (by (try simp only [List.map_toArray,List.map_cons,List.map_nil]);first|done|rfl|(simp only [List.length_drop,List.length_take];rfl)) ?_
 with_reducible refine (engrossref10_NodeBytes.calls k aD _ _ aE _ _ aG _ _ aH aw _ ?side1 ?side2 ?side3 ?side4 ?side5 ?side6 A5.out).mono ?_
 (case side1=>exact sC (Kd.R_reads' ay.out).2.2)
 (case side2=>exact (Kd.R_reads' ay.out).2.1)
 (case side3=>exact sC (Kd.V_reads' az.out).2.2)
 (case side4=>exact (Kd.V_reads' az.out).2.1)
 (case side5=>exact sC (Kd.V_reads' aA.out).2.2)
 (case side6=>exact (Kd.V_reads' aA.out).2.1)
 rintro e w20 ⟨cq,rfl,ho0,hb⟩
 refine⟨_,rfl,?_⟩
 have aC:=aK (Kd.R_lower ho0 (below_size (bC HB)))
 replace ac:=rB ac hb
 replace ae:=rB ae hb
 replace af:=rB af hb
 replace ay:=rB ay hb
 replace az:=vE az (Kd.R_base ho0) hb
 replace aA:=vE aA (Kd.R_base ho0) hb
 replace ab:=bB ab hb
 replace HB:=bW HB hb
 (try clear hb)
 (try clear hb2)
 (try clear hk)
 (try clear hi)
 (try clear ho0)
 obtain⟨bq,br,aQ⟩:=Kd.R_slice aC.out
 (first|subst aQ|(injection aQ with f1_ f2_ f3_;have f4_:=f1_.symm;have f5_:=f3_.symm;clear f1_ f2_ f3_;subst f4_;subst f5_))
 refine hK.out _ _ (bn4 ab ((by have T_:=Kd.x_C_string (P:=Try.prog) (A:=A0) (c:=c0) Try.underlying30 Try.underlying5 Try.underlying9 (Kd.C_below HR0.out HB.out);first|exact T_.1|exact T_.2 _|(simp only [World.drewN_drewN];exact T_.2 _)))) (fun hHeld=>?_)
 clear hK K
 refine norm_ (a':=?_) ?_ ?_
 rotate_left
 ·show Act.put _ (some 28) _=_
  simp only [Act.put,List.setIfInBounds_toArray,List.set_cons_zero,List.set_cons_succ,i64_w,i32_w]
  rfl
 refine oA 3 (some 29) HT_ (fun K hK=>?_)
 refine goes_ Try.func22 (by kernel_rfl) rfl #[.slice bq aw.length br] (by rfl) rfl rfl (by (try simp only [List.map_toArray,List.map_cons,List.map_nil]);first|done|rfl|(simp only [List.length_drop,List.length_take];rfl)) ?_
 with_reducible refine (engrossref10_Whole.calls _ _ aw ax _ ?side1 ?side2 A6.out).mono ?_
 (case side1=>exact sC (Kd.R_reads' aC.out).2.2)
 (case side2=>exact (Kd.R_reads' aC.out).2.1)
 rintro e w22 ⟨ct,rfl,ho0,hb⟩
 refine⟨_,rfl,?_⟩
 have aV:=aK (Kd.R_lower (Kd.R_new' ho0 (Kd.R_lt (by (with_reducible repeat (first|apply Kd.R_alloc|apply Kd.R_drewN|apply Kd.R_drew));exact aC.out))) (below_size (bC HB)))
 replace ac:=rB ac hb
 replace ae:=rB ae hb
 replace af:=rB af hb
 replace ay:=rB ay hb
 replace az:=vE az (Kd.R_base ho0) hb
 replace aA:=vE aA (Kd.R_base ho0) hb
 replace aC:=rE aC (Kd.R_base ho0) hb
 replace ab:=bB ab hb
 replace HB:=bW HB hb
 (try clear hb)
 (try clear hb2)
 (try clear hk)
 (try clear hi)
 (try clear ho0)
 refine hK.out _ _ (bn4 ab ((by have T_:=Kd.x_C_string (P:=Try.prog) (A:=A0) (c:=c0) Try.underlying30 Try.underlying5 Try.underlying9 (Kd.C_below HR0.out HB.out);first|exact T_.1|exact T_.2 _|(simp only [World.drewN_drewN];exact T_.2 _)))) (fun hHeld=>?_)
 clear hK K
 refine norm_ (a':=?_) ?_ ?_
 rotate_left
 ·show Act.put _ (some 29) _=_
  simp only [Act.put,List.setIfInBounds_toArray,List.set_cons_zero,List.set_cons_succ,i64_w,i32_w]
  rfl
 refine oA 4 (some 30) HT_ (fun K hK=>?_)
 have aW:=own_string (P:=Try.prog) Try.underlying30 Try.underlying5 Try.underlying9 (Kd.own_of_R aV.out)
 refine value_ (w1:=?_) (v:=?_) (by rfl) rfl ?_ ?_
 rotate_left 2
 ·go_simp
  constructor
  ·rfl
  ·rfl
 clear aW
 refine hK.out _ _ (bn4 ab ((by have T_:=Kd.x_C_string (P:=Try.prog) (A:=A0) (c:=c0) Try.underlying30 Try.underlying5 Try.underlying9 (Kd.C_below HR0.out HB.out);first|exact T_.1|exact T_.2 _|(simp only [World.drewN_drewN];exact T_.2 _)))) (fun hHeld=>?_)
 clear hK K
 refine norm_ (a':=?_) ?_ ?_
 rotate_left
 ·show Act.put _ (some 30) _=_
  simp only [Act.put,List.setIfInBounds_toArray,List.set_cons_zero,List.set_cons_succ,i64_w,i32_w]
  rfl
 refine pA 7 33 HT_ ?_
 refine pA 8 2 HT_ ?_
 refine done_ (done_of HT_.out (by kernel_rfl)) ?_
 try go_wp2
 go_ret
 exact xB HB
def engrosslaw1_Short.f (l0:List Int) (a1:Int):Option (List Int):=if (l0.length:Int)>a1 then (if 0≤a1 then (if a1≤(l0.length:Int) then (some (l0.take (a1:Int).toNat)) else (none)) else (none)) else (some l0)
set_option maxHeartbeats 8000000 in
set_option maxRecDepth 100000 in
theorem engrosslaw1_Short.calls (P0_:Nat→Prop) (A0:Option Addr) (c0:Nat) (l0:List Int) (a1:Int) (r:List Int) (w:World) (hs0:Kd.V (Kd.int .u8) 5 w w.heap.size (fun k_=>P0_ k_) (.slice A0 l0.length c0) l0) (h:engrosslaw1_Short.f l0 a1=some r) :
  Calls Try.prog 26 #[.slice A0 l0.length c0,.int .i64 a1] w fun e w'=>∃ v0_:Value,e = .returned (v0_)∧Kd.V (Kd.int .u8) 5 w' w.heap.size (fun k_=>(P0_ k_∨w.heap.size≤k_)) v0_ r∧Below w.heap.size w w':=by
 have HO0:=aK (show Kd.V (Kd.int .u8) 5 w w.heap.size (fun k_=>(P0_ k_∨w.heap.size≤k_)) (.slice A0 l0.length c0) l0 from Kd.V_mono hs0 (fun k_ hk=>.inl hk))
 have HB:=aK (Below.refl w.heap.size w)
 have H:(if (l0.length:Int)>a1 then (if 0≤a1 then (if a1≤(l0.length:Int) then (some (l0.take (a1:Int).toNat)) else (none)) else (none)) else (some l0))=some r:=h
 clear h
 by_cases c3:(l0.length:Int)>a1
 rotate_left
 ·rw [if_neg c3] at H
  have ac:decide (a1<(l0.length:Int))=false:=decide_eq_false c3
  clear c3
  obtain rfl:=Option.some.inj H
  go_enter Try.func26,Try.ntmps26
  go_wp2
  go_ret
  exact⟨_,by first|rfl|(simp [errW_none,errW_some] <;> rfl)|(simp [*,errW_none,errW_some] <;> rfl),by (with_reducible repeat (first|apply Kd.V_alloc|apply Kd.V_drewN|apply Kd.V_drew));exact HO0.out,by repeat (first|(with_reducible first|exact HB.out|apply below_alloc|apply pw_below_drewN|apply below_drew1)|exact HB.out)⟩
 rw [if_pos c3] at H
 have ac:decide (a1<(l0.length:Int))=true:=decide_eq_true c3
 clear c3
 by_cases c4:0≤a1
 rotate_left
 ·rw [if_neg c4] at H
  exact absurd H (by simp)
 rw [if_pos c4] at H
 have af:=eq_true c4
 have ag:decide (0≤a1)=true:=decide_eq_true c4
 clear c4
 by_cases c5:a1≤(l0.length:Int)
 rotate_left
 ·rw [if_neg c5] at H
  exact absurd H (by simp)
 rw [if_pos c5] at H
 have ah:=eq_true c5
 have ai:decide (a1≤(l0.length:Int))=true:=decide_eq_true c5
 clear c5
 obtain⟨aa,hy682⟩:∃ y_:List Int,y_=(l0.take (a1:Int).toNat):=⟨_,rfl⟩
 replace H:(some aa)=some r:=by first|(rw [hy682];with_reducible exact H)|(have H2_:=(Option.bind_some _ _).symm.trans H;rw [hy682];with_reducible exact H2_)|(have H2_:=(Option.bind_some _ _).symm.trans H;with_reducible exact H2_)|with_reducible exact H|(rw [hy682];exact H)|exact H
 have Ny682:=aK hy682
 clear hy682
 obtain rfl:=Option.some.inj H
 have q6:(a1:Int)≤((l0.length:Int):Int):=dA
 obtain⟨i06,hi06,_,hsz6,_⟩:=info_parts info5
 have hroom6:l0.length≤c0:=(Kd.V_reads' HO0.out).2.1
 have hC6:Kd.F (Kd.int .u8) _ _ A0 l0.length l0:=(Kd.V_at (base:=w.heap.size) HO0.out).2.2
 have hcut6:=cut_to (P:=Try.prog) 30 5 .i64 Try.underlying30 hi06 A0 l0.length c0 a1 (dA) q6 hroom6
 have hr6:=Kd.F_take (m:=(a1:Int).toNat) hC6 (by omega)
 have hy6:aa.length=(a1:Int).toNat:=(by rw [Ny682.out,List.length_take];omega)
 rw [← Ny682.out] at hr6
 rw [← hy6] at hcut6
 have ab:=aK (show Kd.V (Kd.int .u8) 5 _ w.heap.size _ (.slice A0 aa.length c0) aa from Kd.V_mk (by omega) hr6)
 have ae:=aK (show aa.length≤c0 from by omega)
 clear hr6 hC6 hroom6 hi06 hsz6
 have KY6:=aK hy6
 clear hy6
 replace q6:=eq_true q6
 go_enter Try.func26,Try.ntmps26
 go_wp2
 go_ret
 exact⟨_,by first|rfl|(simp [errW_none,errW_some] <;> rfl)|(simp [*,errW_none,errW_some] <;> rfl),by (with_reducible repeat (first|apply Kd.V_alloc|apply Kd.V_drewN|apply Kd.V_drew));exact ab.out,by repeat (first|(with_reducible first|exact HB.out|apply below_alloc|apply pw_below_drewN|apply below_drew1)|exact HB.out)⟩
end Go.Proofs.Ytmmjpieafbjggaa.P
end
section
set_option linter.unusedVariables false
namespace Go.Proofs.YtmmjpieafbjggaaW.PrintWords
open Go.RowKit Go.Proofs.YtmmjpieafbjggaaW.PrintWords Go.Proofs.YtmmjpieafbjggaaW.PrintMore
namespace Kd
section
variable {α β:Type} {d:Kd α} {e base n N':Nat} {ok:Nat→Prop} {w w1 W W1:World} {A:Option Addr} {u v:Value} {xs:List α}
theorem heap_int (k:IntKind):Heap (Kd.int k):=⟨fun _ h=>h⟩
theorem C_F (hd:Heap d) (h:d.C w A n xs):F d w (fun k=>k<w.heap.size) A n xs:=fun _ hW=>hd.C (fun k hlt=>hW k hlt hlt) h
theorem F_old (h:F d W ok A n xs) (hb:Below W.heap.size W W1):F d W1 (fun k=>ok k∧k<W.heap.size) A n xs:=Foot.old h hb
theorem F_told (h:F d W1 (fun k=>ok k∧k<N') A n xs) (hbase:∀ k,v.ownBlock=some k→N'≤k):F d W1 (fun k=>(ok k∧some k≠v.ownBlock)∧k<N') A n xs :=
  F_mono h (fun k hk=>⟨⟨hk.1,fun he=>Nat.lt_irrefl _ (Nat.lt_of_lt_of_le hk.2 (hbase k he.symm))⟩,hk.2⟩)
theorem V_old (h:V d e W base ok v xs) (hb:Below W.heap.size W w1):V d e w1 base (fun k=>ok k∧k<W.heap.size) v xs:=V_map h (fun _ hf=>F_old hf hb)
theorem V_told (h:V d e w1 base (fun k=>ok k∧k<N') v xs) (hbase:∀ k,u.ownBlock=some k→N'≤k):V d e w1 base (fun k=>(ok k∧some k≠u.ownBlock)∧k<N') v xs:=V_map h (fun _ hf=>F_told hf hbase)
theorem R_grown (h:d.R e w base ok v xs) {row:Option Nat} (hg:w.grownBy w1 row) (hok:∀ k,ok k→some k≠row):d.R e w1 base ok v xs:=R_step h (fun k ho hk=>hg.block k hk (hok k ho))
theorem R_apart_nil (h:d.R e w base ok u xs):d.R e w base (fun k=>ok k∧some k≠(Value.slice none 0 0).ownBlock) u xs:=R_mono h (fun k hk=>⟨hk,by simp [Value.ownBlock]⟩)
end
end Kd
end Go.Proofs.YtmmjpieafbjggaaW.PrintWords
end
