/- The law NodeOrder returns true for every input: the words, the walks and the plain statement that its row needs. No condition. (Merged by a program of this session out of its own texts.) -/
import Derived.ArgAppend
import Derived.Below
import Derived.BigQuiet
import Derived.Deep.AppendLies
import Derived.Deep.CutBlock
import Derived.Deep.DeepCutAuto
import Derived.Deep.Draws
import Derived.Deep.LoopGhost
import Derived.Deep.OwnRows
import Derived.Deep.QuietTactic
import Derived.Deep.RegionHeld3
import Derived.KernelRfl
import Derived.Laws.BitsLemmas
import Derived.Laws.BytesArg
import Derived.Laws.Cover2
import Derived.Laws.Externs
import Derived.Laws.FloatArith
import Derived.Laws.IdiomCopy
import Derived.Laws.MakeOwn
import Derived.Laws.OwnMore
import Derived.Laws.Rows
import Derived.Laws.Slices
import Derived.Laws.StructEq
import Derived.Lib.AppendStr
import Derived.Lib.ConvBytes
import Derived.Maps.AppendAt
import Derived.OrdersHeld
import Derived.OwnWalk
import Derived.RowKit
import Derived.RowKit3
import Derived.Tactics
import Derived.Test.YtmmjpieafbjggaaProg
import Derived.WalkKit
import Derived.WideLaws
import Derived.Test.YtmmjpieafbjggaaQNodeOrder4
import Derived.Test.YtmmjpieafbjggaaQNodeOrder6
section
namespace Go.Proofs.Ytmmjpieafbjggaa.P
open Go.RowKit Go.Proofs.YtmmjpieafbjggaaW.PrintWords Go.Proofs.YtmmjpieafbjggaaW.PrintLast Go.Proofs.YtmmjpieafbjggaaW.PrintMore
attribute [local go_sem] max2_int min2_int max_two min_two max_three min_three max_four min_four   -- for this text's walks alone
attribute [local go_sem] x_str_gtr x_str_leq x_str_geq ext_bits ext_frombits ext_neg x_store_float Instr.field asAgg
set_option linter.unusedVariables false
set_option linter.unusedSimpArgs false
mutual
def engrossref10_MayNode.l0:Nat→Int→Bool→List (S56)→List ByteArray→List Int→Option (Bool)
 | 0,_,_,_,_,_=>none
 | k+1,x3,x388000,x388001,x388002,x388003=>if x3<(x388001.length:Int) then (if 0≤x3 then ((engrossref10_May.f ((rd_T56 x388001 x3).f0) ((rd_T56 x388001 x3).f1.f0) ((rd_T56 x388001 x3).f1.f1) ((rd_T56 x388001 x3).f1.f2) ((rd_T56 x388001 x3).f2) ((rd_T56 x388001 x3).f3.f0) ((rd_T56 x388001 x3).f3.f1) ((rd_T56 x388001 x3).f3.f2)).bind fun t389=>(if t389=true then (if x3>0 then (if 0≤(wrap64 (x3 - 1)) then (if (wrap64 (x3 - 1))<(x388001.length:Int) then (if ((Op.bytesLess (((rd_T56 x388001 (wrap64 (x3 - 1))).f0).toList) (((rd_T56 x388001 x3).f0).toList))=true) then (engrossref10_MayNode.l0 k (wrap64 (x3+1)) x388000 x388001 x388002 x388003) else (some false)) else (none)) else (none)) else (engrossref10_MayNode.l0 k (wrap64 (x3+1)) x388000 x388001 x388002 x388003)) else (some false))) else (none)) else (if (x388002.length:Int)=0 then (some ((x388003.length:Int) == 0)) else (some false))
def engrossref10_MayNode.j1:Nat→Bool→Bool→List (S56)→List ByteArray→List Int→Option (Bool)
 | 0,_,_,_,_,_=>none
 | k+1,x77,x388000,x388001,x388002,x388003=>if x77=true then (some false) else (engrossref10_MayNode.l1 k 0 x388000 x388001 x388002 x388003)
def engrossref10_MayNode.l1:Nat→Int→Bool→List (S56)→List ByteArray→List Int→Option (Bool)
 | 0,_,_,_,_,_=>none
 | k+1,x4,x388000,x388001,x388002,x388003=>if x4<(x388003.length:Int) then (if 0≤x4 then (if (rd x388003 x4)<2 then (some false) else (if (rd x388003 x4)>31 then (some false) else (engrossref10_MayNode.l1 k (wrap64 (x4+1)) x388000 x388001 x388002 x388003))) else (none)) else (engrossref10_MayNode.l2 k 0 x388000 x388001 x388002 x388003)
def engrossref10_MayNode.l2:Nat→Int→Bool→List (S56)→List ByteArray→List Int→Option (Bool)
 | 0,_,_,_,_,_=>none
 | k+1,x5,x388000,x388001,x388002,x388003=>if x5<(x388002.length:Int) then (if 0≤x5 then ((engrossref1_MayKey.f (rdOf ByteArray.empty x388002 x5)).bind fun t395=>(if t395=true then (if x5>0 then (if 0≤(wrap64 (x5 - 1)) then (if (wrap64 (x5 - 1))<(x388002.length:Int) then (if ((Op.bytesLess ((rdOf ByteArray.empty x388002 (wrap64 (x5 - 1))).toList) ((rdOf ByteArray.empty x388002 x5).toList))=true) then (engrossref10_MayNode.l2 k (wrap64 (x5+1)) x388000 x388001 x388002 x388003) else (some false)) else (none)) else (none)) else (engrossref10_MayNode.l2 k (wrap64 (x5+1)) x388000 x388001 x388002 x388003)) else (some false))) else (none)) else (some true)
end
def engrossref10_MayNode.f (k:Nat) (a0_0:Bool) (l0_1:List (S56)) (l0_2:List ByteArray) (l0_3:List Int):Option (Bool):=if a0_0=true then (engrossref10_MayNode.l0 k 0 a0_0 l0_1 l0_2 l0_3) else (if (l0_1.length:Int)=0 then (if (l0_3.length:Int)<1 then (engrossref10_MayNode.j1 k true a0_0 l0_1 l0_2 l0_3) else (if (l0_3.length:Int)>32 then (engrossref10_MayNode.j1 k true a0_0 l0_1 l0_2 l0_3) else (engrossref10_MayNode.j1 k ((l0_2.length:Int) != (wrap64 ((l0_3.length:Int) - 1))) a0_0 l0_1 l0_2 l0_3))) else (engrossref10_MayNode.j1 k true a0_0 l0_1 l0_2 l0_3))
def engrossref10_MayNode.T5:Bool × List (List Nat × List Nat):=(true,[([],[]),([0],[0]),([],[]),([1,2],[1,2]),([3],[3]),([4],[4]),([5],[5]),([6,5],[6]),([7],[7]),([8,7],[7,8]),([9,7,7],[7,9]),([10],[10]),([11,10],[10,11]),([10],[10]),([12,13,10],[10,12,13]),([14,10],[10,14]),([15,10],[10,15]),([10],[10]),([17,10],[10,17]),([10],[10]),([19,10],[10,19]),([18,20,10],[10,18,20]),([21,10],[10,21]),([22,10],[10,22]),([16,23,10],[10,16,23]),([10,24,7],[7,10,24]),([7,25],[7,25])])
def engrossref10_MayNode.B5:List Nat:=[0,1,0,7,15,31,63,127,255,511,1023,2047,4095,2047,16383,32767,65535,2047,133119,2047,526335,1968127,4065279,8259583,16777215,33554431,67108863]
theorem engrossref10_MayNode.tab5:rtab .any (opsOf Try.f15 5)=engrossref10_MayNode.T5:=by kernel_rfl
theorem engrossref10_MayNode.bits5:waitsOk engrossref10_MayNode.T5.2 engrossref10_MayNode.B5=true:=by kernel_rfl
def engrossref10_MayNode.T18:Bool × List (List Nat × List Nat):=(true,[([],[]),([0],[0]),([],[]),([1,2],[1,2]),([3],[3]),([4],[4]),([5],[5]),([6,5],[6]),([7],[7]),([8,7],[7,8]),([9,7,7],[7,9]),([10],[10]),([11,10],[10,11]),([10],[10]),([12,13,10],[10,12,13]),([14,10],[10,14]),([10],[10]),([16,10],[10,16]),([10],[10]),([18,10],[10,18]),([17,19,10],[10,17,19]),([20,10],[10,20]),([15,21,10],[10,15,21]),([10,22,7],[7,10,22]),([7,23],[7,23])])
def engrossref10_MayNode.B18:List Nat:=[0,1,0,7,15,31,63,127,255,511,1023,2047,4095,2047,16383,32767,2047,67583,2047,264191,985087,2033663,4194303,8388607,16777215]
theorem engrossref10_MayNode.tab18:rtab .any (opsOf Try.f15 18)=engrossref10_MayNode.T18:=by kernel_rfl
theorem engrossref10_MayNode.bits18:waitsOk engrossref10_MayNode.T18.2 engrossref10_MayNode.B18=true:=by kernel_rfl
set_option maxHeartbeats 8000000 in
set_option maxRecDepth 100000 in
theorem engrossref10_MayNode.calls (k:Nat) (cm:Bool) (br:Option Addr) (bl:Nat) (ab:List (S56)) (bs:Option Addr) (bm:Nat) (af:List ByteArray) (bn:Option Addr) (bo:Nat) (ag:List Int) (r:Bool) (w:World) (ey:Kd.C k56 w br ab.length ab) (ez:ab.length≤bl) (eA:Kd.C Kd.string w bs af.length af) (eB:af.length≤bm) (eC:Kd.C (Kd.int .i64) w bn ag.length ag) (eD:ag.length≤bo) (h:engrossref10_MayNode.f k cm ab af ag=some r) :
  Calls Try.prog 15 #[.agg #[.bool cm,.slice br ab.length bl,.slice bs af.length bm,.slice bn ag.length bo]] w fun e w'=>e = .returned (.bool r)∧Below w.heap.size w w':=by
 have hu26:=Try.underlying26
 have hu56:=Try.underlying56
 have bx:=aK ey
 have gP:=aK ez
 clear ey ez
 have bA:=aK eA
 have gQ:=aK eB
 clear eA eB
 have cB:=aK eC
 have gR:=aK eD
 clear eC eD
 have HB:=aK (Below.refl w.heap.size w)
 have H:(if cm=true then (engrossref10_MayNode.l0 k 0 cm ab af ag) else (if (ab.length:Int)=0 then (if (ag.length:Int)<1 then (engrossref10_MayNode.j1 k true cm ab af ag) else (if (ag.length:Int)>32 then (engrossref10_MayNode.j1 k true cm ab af ag) else (engrossref10_MayNode.j1 k ((af.length:Int) != (wrap64 ((ag.length:Int) - 1))) cm ab af ag))) else (engrossref10_MayNode.j1 k true cm ab af ag)))=some r:=h
 clear h
 by_cases c2:cm=true
 rotate_left
 ·replace c2:=Bool.eq_false_iff.mpr c2
  subst c2
  have H1:(if (ab.length:Int)=0 then (if (ag.length:Int)<1 then (engrossref10_MayNode.j1 k true false ab af ag) else (if (ag.length:Int)>32 then (engrossref10_MayNode.j1 k true false ab af ag) else (engrossref10_MayNode.j1 k ((af.length:Int) != (wrap64 ((ag.length:Int) - 1))) false ab af ag))) else (engrossref10_MayNode.j1 k true false ab af ag))=some r:=by rw [if_neg (show ¬ (false=true) by decide)] at H;exact H
  clear H
  have H:=H1
  clear H1
  have ev:=aK H
  clear H
  go_enter Try.func15,Try.ntmps15
  go_upto_region 8 with (first|((with_reducible refine gate_dst (N:=1) rfl ?_);(try (refine gate_guard (by rfl) ?_;dsimp only));refine box_event ?hg (N:=1) ?hd (cs:=#[.bool false,.slice br ab.length bl,.slice bs af.length bm,.slice bn ag.length bo]) (t:=26) ?hr ?_;(case hd=>rfl);(case hg=>rfl);(case hr=>first|(go_simp;done)|(go_simp;rfl));intro ai hg w30 hbox hb;have ae:=aK (hbox);have fE:=bZ HB hg;have ei:=bZ HB hg;replace HB:=bW HB hb;clear hb hbox hg;obtain⟨cD,cE,cF,cG,cH,cI,cJ,cK⟩:=bf4 (w:=w30) ae))
  (try simp only [Act.put,List.setIfInBounds_toArray,List.set_cons_zero,List.set_cons_succ])
  go_cut [77] (fun v77 wc=>∃ (kq:Nat) (cC:Bool),v77 = .bool cC∧Aside0 (engrossref10_MayNode.j1 kq cC false ab af ag=some r)∧Aside0 (kq≤k)∧Aside0 (wc.heap[ai]? = some (.cells #[.bool false,(.slice br ab.length bl),(.slice bs af.length bm),(.slice bn ag.length bo)] 26 (0,0)))∧Aside0 (Below w.heap.size w wc))
  case first =>
   have H:=ev.out
   clear ev
   by_cases c32:(ab.length:Int)=0
   rotate_left
   ·rw [if_neg c32] at H
    have bD:((ab.length:Int) == 0)=false:=beq_eq_false_iff_ne.mpr c32
    have d5:((ab.length:Int) != 0)=true:=bne_iff_ne.mpr c32
    have ej:¬ (ab = []):=fun h_=>c32 (by rw [h_];rfl)
    (first|rw [bD]|(simp only [i64_w,i32_w];rw [bD])|skip)
    have H':=aK H
    clear H
    obtain⟨cL,cM,cN,cO,cP,cQ,cR,cS⟩:=bf4 (w:=w30) ae
    go_wp2
    go_meet
    case rel=>exact⟨_,(true),(by first|rfl|(simp;done)|(simp [*];done)),H',⟨by first|omega|exact Nat.le_refl _⟩,bK ae,bV HB⟩
   rw [if_pos c32] at H
   have bD:((ab.length:Int) == 0)=true:=beq_iff_eq.mpr c32
   have d5:((ab.length:Int) != 0)=false:=bne_eq_false_iff_eq.mpr c32
   clear c32
   (first|rw [bD]|(simp only [i64_w,i32_w];rw [bD])|skip)
   by_cases c33:(ag.length:Int)<1
   ·rw [if_pos c33] at H
    have d6:decide ((ag.length:Int)<1)=true:=decide_eq_true c33
    have d7:decide (ag.length<1)=true:=decide_eq_true (by omega)
    clear c33
    have H':=aK H
    clear H
    obtain⟨cT,cU,cV,cX,cY,cZ,da,db⟩:=bf4 (w:=w30) ae
    go_wp2
    go_meet
    case rel=>exact⟨_,(true),(by first|rfl|(simp;done)|(simp [*];done)),H',⟨by first|omega|exact Nat.le_refl _⟩,bK ae,bV HB⟩
   rw [if_neg c33] at H
   have d6:decide ((ag.length:Int)<1)=false:=decide_eq_false c33
   have d7:decide (ag.length<1)=false:=decide_eq_false (by omega)
   clear c33
   by_cases c35:(ag.length:Int)>32
   ·rw [if_pos c35] at H
    have d8:decide (32<(ag.length:Int))=true:=decide_eq_true c35
    have d9:decide (32<ag.length)=true:=decide_eq_true (by omega)
    clear c35
    have H':=aK H
    clear H
    obtain⟨dc,dd,de,df,dg,dh,di,dj⟩:=bf4 (w:=w30) ae
    go_wp2
    go_meet
    case rel=>exact⟨_,(true),(by first|rfl|(simp;done)|(simp [*];done)),H',⟨by first|omega|exact Nat.le_refl _⟩,bK ae,bV HB⟩
   rw [if_neg c35] at H
   have d8:decide (32<(ag.length:Int))=false:=decide_eq_false c35
   have d9:decide (32<ag.length)=false:=decide_eq_false (by omega)
   clear c35
   have H':=aK H
   clear H
   obtain⟨dk,dl,dm,dn,dp,dq,dr,dt⟩:=bf4 (w:=w30) ae
   go_wp2
   go_meet
   case rel=>exact⟨_,(((af.length:Int) != (wrap64 ((ag.length:Int) - 1)))),(by first|rfl|(simp;done)|(simp [*];done)),H',⟨by first|omega|exact Nat.le_refl _⟩,bK ae,bV HB⟩
  case rest =>
   clear ev
   try clear c1
   try clear c2
   try clear p2
   try clear c3
   try clear p3
   try clear q3
   try clear hx3
   try clear c5
   try clear ek
   try clear c6
   try clear p6
   try clear c8
   try clear c9
   try clear el
   try clear c11
   try clear c12
   try clear c15
   try clear c26
   try clear ed
   try clear eg
   try clear em
   try clear c31
   try clear c32
   try clear bD
   try clear d5
   try clear ej
   try clear c33
   try clear d6
   try clear d7
   try clear c35
   try clear d8
   try clear d9
   try clear p38
   try clear q38
   try clear fm
   try clear du dv dw dx
   try clear dy dz dB dC
   try clear dD dE dF dG
   try clear dH dI dJ dK
   try clear cD cE cF cG
   try clear cT cU cV cX
   try clear dc dd de df
   try clear dk dl dm dn
   try clear cL cM cN cO
   try clear dL dM dN dO
   try clear dP dQ dR dS
   try clear dT dU dV dW
   try clear dX dY dZ d3
   try clear cH cI cJ cK
   try clear cY cZ da db
   try clear dg dh di dj
   try clear dp dq dr dt
   try clear cP cQ cR cS
   try clear aj
   try clear ak
   try clear al
   try clear am
   try clear ao
   try clear ap
   try clear aq
   try clear ar
   try clear aI
   try clear aJ
   obtain⟨kq,cC,rfl,HA,d4,ae,HB⟩:=hcut
   cases kq with
   | zero=>exact absurd HA.out (by simp [engrossref10_MayNode.j1])
   | succ ex =>
    have H:=HA.out
    clear HA
    simp only [engrossref10_MayNode.j1] at H
    by_cases c39:cC=true
    ·subst c39
     have H1:(some false)=some r:=by rw [if_pos rfl] at H;exact H
     clear H
     have H:=H1
     clear H1
     obtain rfl:=Option.some.inj H
     go_wp2
     go_ret
     exact xB HB
    replace c39:=Bool.eq_false_iff.mpr c39
    subst c39
    have H1:(engrossref10_MayNode.l1 ex 0 false ab af ag)=some r:=by rw [if_neg (show ¬ (false=true) by decide)] at H;exact H
    clear H
    have H:=H1
    clear H1
    have H':=aK H
    clear H
    go_wp2
    go_loopg [4] ex (fun kq v4 w'=>∃ (av:Int),v4 = .int .i64 av∧Aside0 (engrossref10_MayNode.l1 kq av false ab af ag=some r)∧Aside0 (kq≤ex)∧Aside0 (w'.heap[ai]? = some (.cells #[.bool false,(.slice br ab.length bl),(.slice bs af.length bm),(.slice bn ag.length bo)] 26 (0,0)))∧Aside0 (Below w.heap.size w w'))
    case atStart=>exact⟨(0),(by first|rfl|(simp;done)|(simp [*];done)),H',⟨Nat.le_refl _⟩,bK ae,bV HB⟩
    case round =>
     clear H'
     try clear c1
     try clear c2
     try clear p2
     try clear c3
     try clear p3
     try clear q3
     try clear hx3
     try clear c5
     try clear ek
     try clear c6
     try clear p6
     try clear c8
     try clear c9
     try clear el
     try clear c11
     try clear c12
     try clear c15
     try clear c26
     try clear ed
     try clear eg
     try clear em
     try clear c31
     try clear c32
     try clear bD
     try clear d5
     try clear ej
     try clear c33
     try clear d6
     try clear d7
     try clear c35
     try clear d8
     try clear d9
     try clear p38
     try clear q38
     try clear fm
     try clear c39
     try clear du dv dw dx
     try clear dy dz dB dC
     try clear dD dE dF dG
     try clear dH dI dJ dK
     try clear cD cE cF cG
     try clear cT cU cV cX
     try clear dc dd de df
     try clear dk dl dm dn
     try clear cL cM cN cO
     try clear dL dM dN dO
     try clear dP dQ dR dS
     try clear dT dU dV dW
     try clear dX dY dZ d3
     try clear cH cI cJ cK
     try clear cY cZ da db
     try clear dg dh di dj
     try clear dp dq dr dt
     try clear cP cQ cR cS
     try clear aj
     try clear ak
     try clear al
     try clear am
     try clear ao
     try clear ap
     try clear aq
     try clear ar
     try clear p2
     try clear p3
     try clear p38
     try clear aI
     try clear p6
     try clear q3
     try clear q38
     try clear aJ
     obtain⟨av,rfl,HA,HK2,ae,HB⟩:=hrel
     cases gk with
     | zero=>exact absurd HA.out (by simp [engrossref10_MayNode.l1])
     | succ k2 =>
      have H:=HA.out
      clear HA
      simp only [engrossref10_MayNode.l1] at H
      by_cases c40:av<(ag.length:Int)
      ·rw [if_pos c40] at H
       have eE:decide (av<(ag.length:Int))=true:=decide_eq_true c40
       clear c40
       by_cases c41:0≤av
       rotate_left
       ·rw [if_neg c41] at H
        exact absurd H (by simp)
       rw [if_pos c41] at H
       have fF:decide (0≤av)=true:=decide_eq_true c41
       clear c41
       by_cases c42:(rd ag av)<2
       ·rw [if_pos c42] at H
        have eF:decide ((rd ag av)<2)=true:=decide_eq_true c42
        clear c42
        obtain rfl:=Option.some.inj H
        obtain⟨eH,eI,eJ,eK,eL,eM,eN,eO⟩:=bf4 (w:=wr) ae
        have bu:0≤(av:Int):=dA
        have bv:av<(ag.length:Int):=dA
        obtain⟨eh,e392,aM⟩:=Kd.at_int cB.out av bu bv
        cases e392
        replace aM:=cW HB aM
        replace bu:=eq_true bu
        replace bv:=eq_true bv
        go_wp2
        go_ret
        exact xB HB
       rw [if_neg c42] at H
       have eF:decide ((rd ag av)<2)=false:=decide_eq_false c42
       clear c42
       by_cases c44:(rd ag av)>31
       ·rw [if_pos c44] at H
        have eG:decide (31<(rd ag av))=true:=decide_eq_true c44
        clear c44
        obtain rfl:=Option.some.inj H
        obtain⟨eP,eQ,eR,eS,eT,eU,eV,eW⟩:=bf4 (w:=wr) ae
        have bu:0≤(av:Int):=dA
        have bv:av<(ag.length:Int):=dA
        obtain⟨eh,e392,aM⟩:=Kd.at_int cB.out av bu bv
        cases e392
        replace aM:=cW HB aM
        replace bu:=eq_true bu
        replace bv:=eq_true bv
        have cn:0≤(av:Int):=dA
        have cp:av<(ag.length:Int):=dA
        obtain⟨ep,e393,bw⟩:=Kd.at_int cB.out av cn cp
        obtain rfl:eh=ep:=(by injection e393)
        replace bw:=cW HB bw
        replace cn:=eq_true cn
        replace cp:=eq_true cp
        go_wp2
        go_ret
        exact xB HB
       rw [if_neg c44] at H
       have eG:decide (31<(rd ag av))=false:=decide_eq_false c44
       clear c44
       have H':=aK H
       clear H
       obtain⟨eX,eY,eZ,e8,e9,fa,fb,fd⟩:=bf4 (w:=wr) ae
       have bu:0≤(av:Int):=dA
       have bv:av<(ag.length:Int):=dA
       obtain⟨eh,e392,aM⟩:=Kd.at_int cB.out av bu bv
       cases e392
       replace aM:=cW HB aM
       replace bu:=eq_true bu
       replace bv:=eq_true bv
       have cn:0≤(av:Int):=dA
       have cp:av<(ag.length:Int):=dA
       obtain⟨ep,e393,bw⟩:=Kd.at_int cB.out av cn cp
       obtain rfl:eh=ep:=(by injection e393)
       replace bw:=cW HB bw
       replace cn:=eq_true cn
       replace cp:=eq_true cp
       go_wp2
       go_roundg k2
       case measure=>have:=d4.out;have:=HK2.out;omega
       case rel=>exact⟨(wrap64 (av+1)),(by first|rfl|(simp;done)|(simp [*];done)),H',⟨by have:=d4.out;have:=HK2.out;omega⟩,bK ae,bV HB⟩
      rw [if_neg c40] at H
      have eE:decide (av<(ag.length:Int))=false:=decide_eq_false c40
      clear c40
      have H':=aK H
      clear H
      obtain⟨fe,ff,fg,fh,fi,fj,fk,fl⟩:=bf4 (w:=wr) ae
      go_wp2
      go_loopg [5] k2 (fun kq v5 w'=>∃ (ah:Int),v5 = .int .i64 ah∧Aside0 (engrossref10_MayNode.l2 kq ah false ab af ag=some r)∧Aside0 (kq≤k2)∧Aside0 (w'.heap[ai]? = some (.cells #[.bool false,(.slice br ab.length bl),(.slice bs af.length bm),(.slice bn ag.length bo)] 26 (0,0)))∧Aside0 (Below w.heap.size w w'))
      case atStart=>exact⟨(0),(by first|rfl|(simp;done)|(simp [*];done)),H',⟨Nat.le_refl _⟩,bK ae,bV HB⟩
      case round =>
       clear H'
       try clear c1
       try clear c2
       try clear p2
       try clear c3
       try clear p3
       try clear q3
       try clear hx3
       try clear c4
       try clear c5
       try clear ek
       try clear c6
       try clear p6
       try clear c8
       try clear c9
       try clear el
       try clear c11
       try clear c12
       try clear c15
       try clear c26
       try clear ed
       try clear eg
       try clear em
       try clear c31
       try clear c32
       try clear bD
       try clear d5
       try clear ej
       try clear c33
       try clear d6
       try clear d7
       try clear c35
       try clear d8
       try clear d9
       try clear p38
       try clear q38
       try clear fm
       try clear c39
       try clear p39
       try clear q39
       try clear gX
       try clear c40
       try clear eE
       try clear c41
       try clear fF
       try clear c42
       try clear eF
       try clear c44
       try clear eG
       try clear du dv dw dx
       try clear dy dz dB dC
       try clear dD dE dF dG
       try clear dH dI dJ dK
       try clear cD cE cF cG
       try clear cT cU cV cX
       try clear dc dd de df
       try clear dk dl dm dn
       try clear cL cM cN cO
       try clear eH eI eJ eK
       try clear eP eQ eR eS
       try clear eX eY eZ e8
       try clear fe ff fg fh
       try clear dL dM dN dO
       try clear dP dQ dR dS
       try clear dT dU dV dW
       try clear dX dY dZ d3
       try clear cH cI cJ cK
       try clear cY cZ da db
       try clear dg dh di dj
       try clear dp dq dr dt
       try clear cP cQ cR cS
       try clear eL eM eN eO
       try clear eT eU eV eW
       try clear e9 fa fb fd
       try clear fi fj fk fl
       try clear aj
       try clear ak
       try clear al
       try clear am
       try clear ao
       try clear ap
       try clear aq
       try clear ar
       try clear aM
       try clear bw
       try clear p2
       try clear p3
       try clear p38
       try clear aI
       try clear bu
       try clear cn
       try clear p6
       try clear q3
       try clear q38
       try clear aJ
       try clear bv
       try clear cp
       obtain⟨ah,rfl,HA,HK3,ae,HB⟩:=hrel
       cases gk with
       | zero=>exact absurd HA.out (by simp [engrossref10_MayNode.l2])
       | succ k3 =>
        have H:=HA.out
        clear HA
        simp only [engrossref10_MayNode.l2] at H
        by_cases c48:ah<(af.length:Int)
        rotate_left
        ·rw [if_neg c48] at H
         have fG:decide (ah<(af.length:Int))=false:=decide_eq_false c48
         clear c48
         obtain rfl:=Option.some.inj H
         obtain⟨fK,fL,fM,fN,fO,fP,fQ,fR⟩:=bf4 (w:=wr) ae
         go_wp2
         go_ret
         exact xB HB
        rw [if_pos c48] at H
        have fG:decide (ah<(af.length:Int))=true:=decide_eq_true c48
        clear c48
        by_cases c49:0≤ah
        rotate_left
        ·rw [if_neg c49] at H
         exact absurd H (by simp)
        rw [if_pos c49] at H
        have gS:decide (0≤ah)=true:=decide_eq_true c49
        clear c49
        replace H:=oS H
        obtain⟨fp,fq,H⟩:=H
        replace H:(if fp=true then (if ah>0 then (if 0≤(wrap64 (ah - 1)) then (if (wrap64 (ah - 1))<(af.length:Int) then (if ((Op.bytesLess ((rdOf ByteArray.empty af (wrap64 (ah - 1))).toList) ((rdOf ByteArray.empty af ah).toList))=true) then (engrossref10_MayNode.l2 k3 (wrap64 (ah+1)) false ab af ag) else (some false)) else (none)) else (none)) else (engrossref10_MayNode.l2 k3 (wrap64 (ah+1)) false ab af ag)) else (some false))=some r:=H
        have A50:=aK fq
        clear fq
        by_cases c51:fp=true
        rotate_left
        ·replace c51:=Bool.eq_false_iff.mpr c51
         subst c51
         have H1:(some false)=some r:=by rw [if_neg (show ¬ (false=true) by decide)] at H;exact H
         clear H
         have H:=H1
         clear H1
         obtain rfl:=Option.some.inj H
         obtain⟨fS,fT,fU,fV,fW,fX,fY,fZ⟩:=bf4 (w:=wr) ae
         try go_wp2
         replace ae:=aK (blk_drew ae.out)
         replace HB:=aK (below_drew1 HB.out)
         have bp:0≤(ah:Int):=dA
         have bq:ah<(af.length:Int):=dA
         obtain⟨aw,e394,au⟩:=Kd.at_string bA.out ah bp bq
         have ax:=au
         cases e394
         replace au:=cW HB au
         replace bp:=eq_true bp
         replace bq:=eq_true bq
         refine start_ (n:=25) (S:=fun w'=>w'.cell? ⟨ai,0,none⟩=some (.bool false)∧w'.cell? ⟨ai,1,none⟩=some (.slice br ab.length bl)∧w'.cell? ⟨ai,2,none⟩=some (.slice (some aw) af.length bm)∧w'.cell? ⟨ai,3,none⟩=some (.slice bn ag.length bo)∧w'.cell? (aw.add (ah).toNat)=some (.string (rdOf ByteArray.empty af ah))) (ds:=[]) #[false,false,false,false,false,false,false,false,false,false,false,false,false,false,false,false,false,false,false,false,false,false,false,false,false] (by kernel_rfl) rfl rfl (bn4 ae ((cW HB ax))) (fun hHeld=>?_);refine with_tabW engrossref10_MayNode.tab18 engrossref10_MayNode.bits18 (fun HT_ HW_=>?_)
         generalize wr.drew=w64 at ae HB au hHeld ⊢
         refine pA 0 106 HT_ ?_
         refine pA 2 108 HT_ ?_
         refine tA 1 107 HT_ HW_ hHeld ?_ (hy:=by rintro w' ⟨s0,s1,s2,s3,s4⟩;go_simp;with_reducible rfl)
         refine pA 3 109 HT_ ?_
         refine tA 4 110 HT_ HW_ hHeld ?_ (hy:=by rintro w' ⟨s0,s1,s2,s3,s4⟩;go_simp;with_reducible rfl)
         refine oA 5 (some 111) HT_ (fun K hK=>?_)
         refine goes_ Try.func32 (by kernel_rfl) rfl #[.string (rdOf ByteArray.empty af ah)] (by rfl) rfl rfl (by (try simp only [List.map_toArray,List.map_cons,List.map_nil]);first|done|rfl|(simp only [List.length_drop,List.length_take];rfl)) ?_
         with_reducible refine (engrossref1_MayKey.calls (rdOf ByteArray.empty af ah) false _ A50.out).mono ?_
         rintro e w' ⟨rfl,⟨nd,rfl⟩⟩
         refine⟨_,rfl,?_⟩
         refine hK.out _ _ (bn4 ae ((cW HB ax))) (fun hHeld=>?_)
         clear hK K
         refine norm_ (a':=?_) ?_ ?_
         rotate_left
         ·show Act.put _ (some 111) _=_
          simp only [Act.put,List.setIfInBounds_toArray,List.set_cons_zero,List.set_cons_succ,i64_w,i32_w]
          rfl
         refine pA 6 112 HT_ ?_
         refine pA 7 113 HT_ ?_
         refine pU 8 114 HT_ ?_
         refine pU 9 115 HT_ ?_
         refine pU 10 116 HT_ ?_
         refine pU 11 117 HT_ ?_
         refine pU 12 118 HT_ ?_
         refine pU 13 119 HT_ ?_
         refine pU 14 120 HT_ ?_
         refine pU 15 121 HT_ ?_
         refine pU 16 122 HT_ ?_
         refine pU 17 123 HT_ ?_
         refine pU 18 124 HT_ ?_
         refine pU 19 125 HT_ ?_
         refine pU 20 126 HT_ ?_
         refine pU 21 127 HT_ ?_
         refine pU 22 128 HT_ ?_
         refine pU 23 129 HT_ ?_
         refine pA 24 130 HT_ ?_
         refine done_ (done_of HT_.out (by kernel_rfl)) ?_
         try go_wp2
         go_ret
         exact xB HB
        subst c51
        have H1:(if ah>0 then (if 0≤(wrap64 (ah - 1)) then (if (wrap64 (ah - 1))<(af.length:Int) then (if ((Op.bytesLess ((rdOf ByteArray.empty af (wrap64 (ah - 1))).toList) ((rdOf ByteArray.empty af ah).toList))=true) then (engrossref10_MayNode.l2 k3 (wrap64 (ah+1)) false ab af ag) else (some false)) else (none)) else (none)) else (engrossref10_MayNode.l2 k3 (wrap64 (ah+1)) false ab af ag))=some r:=by rw [if_pos rfl] at H;exact H
        clear H
        have H:=H1
        clear H1
        by_cases c52:ah>0
        rotate_left
        ·rw [if_neg c52] at H
         have fH:decide (0<ah)=false:=decide_eq_false c52
         clear c52
         have H':=aK H
         clear H
         obtain⟨f4,f5,f6,f7,f8,ga,gb,gc⟩:=bf4 (w:=wr) ae
         try go_wp2
         replace ae:=aK (blk_drew ae.out)
         replace HB:=aK (below_drew1 HB.out)
         have bp:0≤(ah:Int):=dA
         have bq:ah<(af.length:Int):=dA
         obtain⟨aw,e394,au⟩:=Kd.at_string bA.out ah bp bq
         have ax:=au
         cases e394
         replace au:=cW HB au
         replace bp:=eq_true bp
         replace bq:=eq_true bq
         refine start_ (n:=25) (S:=fun w'=>w'.cell? ⟨ai,0,none⟩=some (.bool false)∧w'.cell? ⟨ai,1,none⟩=some (.slice br ab.length bl)∧w'.cell? ⟨ai,2,none⟩=some (.slice (some aw) af.length bm)∧w'.cell? ⟨ai,3,none⟩=some (.slice bn ag.length bo)∧w'.cell? (aw.add (ah).toNat)=some (.string (rdOf ByteArray.empty af ah))) (ds:=[]) #[false,false,false,false,false,false,false,false,false,false,false,false,false,false,false,false,false,false,false,false,false,false,false,false,false] (by kernel_rfl) rfl rfl (bn4 ae ((cW HB ax))) (fun hHeld=>?_);refine with_tabW engrossref10_MayNode.tab18 engrossref10_MayNode.bits18 (fun HT_ HW_=>?_)
         generalize wr.drew=w62 at ae HB au hHeld ⊢
         refine pA 0 106 HT_ ?_
         refine pA 2 108 HT_ ?_
         refine tA 1 107 HT_ HW_ hHeld ?_ (hy:=by rintro w' ⟨s0,s1,s2,s3,s4⟩;go_simp;with_reducible rfl)
         refine pA 3 109 HT_ ?_
         refine tA 4 110 HT_ HW_ hHeld ?_ (hy:=by rintro w' ⟨s0,s1,s2,s3,s4⟩;go_simp;with_reducible rfl)
         refine oA 5 (some 111) HT_ (fun K hK=>?_)
         refine goes_ Try.func32 (by kernel_rfl) rfl #[.string (rdOf ByteArray.empty af ah)] (by rfl) rfl rfl (by (try simp only [List.map_toArray,List.map_cons,List.map_nil]);first|done|rfl|(simp only [List.length_drop,List.length_take];rfl)) ?_
         with_reducible refine (engrossref1_MayKey.calls (rdOf ByteArray.empty af ah) true _ A50.out).mono ?_
         rintro e w' ⟨rfl,⟨nd,rfl⟩⟩
         refine⟨_,rfl,?_⟩
         refine hK.out _ _ (bn4 ae ((cW HB ax))) (fun hHeld=>?_)
         clear hK K
         refine norm_ (a':=?_) ?_ ?_
         rotate_left
         ·show Act.put _ (some 111) _=_
          simp only [Act.put,List.setIfInBounds_toArray,List.set_cons_zero,List.set_cons_succ,i64_w,i32_w]
          rfl
         refine pA 6 112 HT_ ?_
         refine pA 7 113 HT_ ?_
         refine pA 8 114 HT_ ?_
         refine pA 9 115 HT_ ?_
         refine pA 10 116 HT_ ?_
         refine pU 11 117 HT_ ?_
         refine pU 12 118 HT_ ?_
         refine pU 13 119 HT_ ?_
         refine pU 14 120 HT_ ?_
         refine pU 15 121 HT_ ?_
         refine pU 16 122 HT_ ?_
         refine pU 17 123 HT_ ?_
         refine pU 18 124 HT_ ?_
         refine pU 19 125 HT_ ?_
         refine pU 20 126 HT_ ?_
         refine pU 21 127 HT_ ?_
         refine pU 22 128 HT_ ?_
         refine pA 23 129 HT_ ?_
         refine pA 24 130 HT_ ?_
         refine done_ (done_of HT_.out (by kernel_rfl)) ?_
         try go_wp2
         go_roundg k3
         case measure=>have:=d4.out;have:=HK2.out;have:=HK3.out;omega
         case rel=>exact⟨(wrap64 (ah+1)),(by first|rfl|(simp;done)|(simp [*];done)),H',⟨by have:=d4.out;have:=HK2.out;have:=HK3.out;omega⟩,bK ae,bV HB⟩
        rw [if_pos c52] at H
        have fH:decide (0<ah)=true:=decide_eq_true c52
        clear c52
        obtain⟨ji53,hji53⟩:∃ j_:Int,(wrap64 (ah - 1))=j_:=⟨_,rfl⟩
        replace H:(if 0≤(ji53) then (if (ji53)<(af.length:Int) then (if ((Op.bytesLess ((rdOf ByteArray.empty af (ji53)).toList) ((rdOf ByteArray.empty af ah).toList))=true) then (engrossref10_MayNode.l2 k3 (wrap64 (ah+1)) false ab af ag) else (some false)) else (none)) else (none))=some r:=by first|(rw [hji53] at H;exact H)|(simp only [hji53] at H ⊢;exact H)
        (try rw [hji53] at A50)
        have hji53w:(IntKind.i64.wrap (ah - 1))=ji53:=(i64_w _).trans hji53
        by_cases c54:0≤(ji53)
        rotate_left
        ·rw [if_neg c54] at H
         exact absurd H (by simp)
        rw [if_pos c54] at H
        have gT:decide (0≤(ji53))=true:=decide_eq_true c54
        clear c54
        by_cases c55:(ji53)<(af.length:Int)
        rotate_left
        ·rw [if_neg c55] at H
         exact absurd H (by simp)
        rw [if_pos c55] at H
        have gU:decide ((ji53)<(af.length:Int))=true:=decide_eq_true c55
        clear c55
        by_cases c56:((Op.bytesLess ((rdOf ByteArray.empty af (ji53)).toList) ((rdOf ByteArray.empty af ah).toList))=true)
        ·rw [if_pos c56] at H
         have fI:(Op.bytesLess ((rdOf ByteArray.empty af (ji53)).toList) ((rdOf ByteArray.empty af ah).toList))=true:=c56
         clear c56
         have H':=aK H
         clear H
         obtain⟨gf,gg,gh,gi,gj,gl,gm,gn⟩:=bf4 (w:=wr) ae
         try go_wp2
         replace ae:=aK (blk_drew ae.out)
         replace HB:=aK (below_drew1 HB.out)
         have bp:0≤(ah:Int):=dA
         have bq:ah<(af.length:Int):=dA
         obtain⟨aw,e394,au⟩:=Kd.at_string bA.out ah bp bq
         have ax:=au
         cases e394
         replace au:=cW HB au
         replace bp:=eq_true bp
         replace bq:=eq_true bq
         have cq:0≤(ah:Int):=dA
         have ct:ah<(af.length:Int):=dA
         obtain⟨er,e396,aN⟩:=Kd.at_string bA.out ah cq ct
         have bF:=aN
         obtain rfl:aw=er:=(by injection e396)
         replace aN:=cW HB aN
         replace cq:=eq_true cq
         replace ct:=eq_true ct
         have cu:0≤((ji53):Int):=dA
         have cv:(ji53)<(af.length:Int):=dA
         obtain⟨es,e397,aQ⟩:=Kd.at_string bA.out (ji53) cu cv
         have bI:=aQ
         obtain rfl:aw=es:=(by injection e397)
         replace aQ:=cW HB aQ
         replace cu:=eq_true cu
         replace cv:=eq_true cv
         refine start_ (n:=25) (S:=fun w'=>w'.cell? ⟨ai,0,none⟩=some (.bool false)∧w'.cell? ⟨ai,1,none⟩=some (.slice br ab.length bl)∧w'.cell? ⟨ai,2,none⟩=some (.slice (some aw) af.length bm)∧w'.cell? ⟨ai,3,none⟩=some (.slice bn ag.length bo)∧w'.cell? (aw.add (ah).toNat)=some (.string (rdOf ByteArray.empty af ah))∧w'.cell? (aw.add (ah).toNat)=some (.string (rdOf ByteArray.empty af ah))∧w'.cell? (aw.add ((ji53)).toNat)=some (.string (rdOf ByteArray.empty af (ji53)))) (ds:=[]) #[false,false,false,false,false,false,false,false,false,false,false,false,false,false,false,false,false,false,false,false,false,false,false,false,false] (by kernel_rfl) rfl rfl (bn4 ae ⟨(cW HB ax),(cW HB bF),(cW HB bI)⟩) (fun hHeld=>?_);refine with_tabW engrossref10_MayNode.tab18 engrossref10_MayNode.bits18 (fun HT_ HW_=>?_)
         generalize wr.drew=w58 at ae HB au aN aQ hHeld ⊢
         refine pA 0 106 HT_ ?_
         refine pA 2 108 HT_ ?_
         refine tA 1 107 HT_ HW_ hHeld ?_ (hy:=by rintro w' ⟨s0,s1,s2,s3,s4,s5,s6⟩;go_simp;with_reducible rfl)
         refine pA 3 109 HT_ ?_
         refine tA 4 110 HT_ HW_ hHeld ?_ (hy:=by rintro w' ⟨s0,s1,s2,s3,s4,s5,s6⟩;go_simp;with_reducible rfl)
         refine oA 5 (some 111) HT_ (fun K hK=>?_)
         refine goes_ Try.func32 (by kernel_rfl) rfl #[.string (rdOf ByteArray.empty af ah)] (by rfl) rfl rfl (by (try simp only [List.map_toArray,List.map_cons,List.map_nil]);first|done|rfl|(simp only [List.length_drop,List.length_take];rfl)) ?_
         with_reducible refine (engrossref1_MayKey.calls (rdOf ByteArray.empty af ah) true _ A50.out).mono ?_
         rintro e w' ⟨rfl,⟨nd,rfl⟩⟩
         refine⟨_,rfl,?_⟩
         refine hK.out _ _ (bn4 ae ⟨(cW HB ax),(cW HB bF),(cW HB bI)⟩) (fun hHeld=>?_)
         clear hK K
         refine norm_ (a':=?_) ?_ ?_
         rotate_left
         ·show Act.put _ (some 111) _=_
          simp only [Act.put,List.setIfInBounds_toArray,List.set_cons_zero,List.set_cons_succ,i64_w,i32_w]
          rfl
         refine pA 6 112 HT_ ?_
         refine pA 7 113 HT_ ?_
         refine pA 8 114 HT_ ?_
         refine pA 9 115 HT_ ?_
         refine pA 10 116 HT_ ?_
         refine pA 11 117 HT_ ?_
         refine pA 13 119 HT_ ?_
         refine pA 16 122 HT_ ?_
         refine pA 18 124 HT_ ?_
         refine pA 19 125 HT_ ?_
         refine tA 12 118 HT_ HW_ hHeld ?_ (hy:=by rintro w' ⟨s0,s1,s2,s3,s4,s5,s6⟩;go_simp;with_reducible rfl)
         refine pA 14 120 HT_ ?_
         refine tA 15 121 HT_ HW_ hHeld ?_ (hy:=by rintro w' ⟨s0,s1,s2,s3,s4,s5,s6⟩;go_simp;with_reducible rfl)
         refine tA 17 123 HT_ HW_ hHeld ?_ (hy:=by rintro w' ⟨s0,s1,s2,s3,s4,s5,s6⟩;go_simp;with_reducible rfl)
         refine pA 20 126 HT_ ?_
         refine tA 21 127 HT_ HW_ hHeld ?_ (hy:=by rintro w' ⟨s0,s1,s2,s3,s4,s5,s6⟩;go_simp;with_reducible rfl)
         refine pA 22 128 HT_ ?_
         refine pA 23 129 HT_ ?_
         refine pA 24 130 HT_ ?_
         refine done_ (done_of HT_.out (by kernel_rfl)) ?_
         try go_wp2
         go_roundg k3
         case measure=>have:=d4.out;have:=HK2.out;have:=HK3.out;omega
         case rel=>exact⟨(wrap64 (ah+1)),(by first|rfl|(simp;done)|(simp [*];done)),H',⟨by have:=d4.out;have:=HK2.out;have:=HK3.out;omega⟩,bK ae,bV HB⟩
        rw [if_neg c56] at H
        have fI:(Op.bytesLess ((rdOf ByteArray.empty af (ji53)).toList) ((rdOf ByteArray.empty af ah).toList))=false:=by simpa using c56
        clear c56
        obtain rfl:=Option.some.inj H
        obtain⟨go,gp,gq,gr,gu,gv,gw,gx⟩:=bf4 (w:=wr) ae
        try go_wp2
        replace ae:=aK (blk_drew ae.out)
        replace HB:=aK (below_drew1 HB.out)
        have bp:0≤(ah:Int):=dA
        have bq:ah<(af.length:Int):=dA
        obtain⟨aw,e394,au⟩:=Kd.at_string bA.out ah bp bq
        have ax:=au
        cases e394
        replace au:=cW HB au
        replace bp:=eq_true bp
        replace bq:=eq_true bq
        have cq:0≤(ah:Int):=dA
        have ct:ah<(af.length:Int):=dA
        obtain⟨er,e396,aN⟩:=Kd.at_string bA.out ah cq ct
        have bF:=aN
        obtain rfl:aw=er:=(by injection e396)
        replace aN:=cW HB aN
        replace cq:=eq_true cq
        replace ct:=eq_true ct
        have cu:0≤((ji53):Int):=dA
        have cv:(ji53)<(af.length:Int):=dA
        obtain⟨es,e397,aQ⟩:=Kd.at_string bA.out (ji53) cu cv
        have bI:=aQ
        obtain rfl:aw=es:=(by injection e397)
        replace aQ:=cW HB aQ
        replace cu:=eq_true cu
        replace cv:=eq_true cv
        refine start_ (n:=25) (S:=fun w'=>w'.cell? ⟨ai,0,none⟩=some (.bool false)∧w'.cell? ⟨ai,1,none⟩=some (.slice br ab.length bl)∧w'.cell? ⟨ai,2,none⟩=some (.slice (some aw) af.length bm)∧w'.cell? ⟨ai,3,none⟩=some (.slice bn ag.length bo)∧w'.cell? (aw.add (ah).toNat)=some (.string (rdOf ByteArray.empty af ah))∧w'.cell? (aw.add (ah).toNat)=some (.string (rdOf ByteArray.empty af ah))∧w'.cell? (aw.add ((ji53)).toNat)=some (.string (rdOf ByteArray.empty af (ji53)))) (ds:=[]) #[false,false,false,false,false,false,false,false,false,false,false,false,false,false,false,false,false,false,false,false,false,false,false,false,false] (by kernel_rfl) rfl rfl (bn4 ae ⟨(cW HB ax),(cW HB bF),(cW HB bI)⟩) (fun hHeld=>?_);refine with_tabW engrossref10_MayNode.tab18 engrossref10_MayNode.bits18 (fun HT_ HW_=>?_)
        generalize wr.drew=w60 at ae HB au aN aQ hHeld ⊢
        refine pA 0 106 HT_ ?_
        refine pA 2 108 HT_ ?_
        refine tA 1 107 HT_ HW_ hHeld ?_ (hy:=by rintro w' ⟨s0,s1,s2,s3,s4,s5,s6⟩;go_simp;with_reducible rfl)
        refine pA 3 109 HT_ ?_
        refine tA 4 110 HT_ HW_ hHeld ?_ (hy:=by rintro w' ⟨s0,s1,s2,s3,s4,s5,s6⟩;go_simp;with_reducible rfl)
        refine oA 5 (some 111) HT_ (fun K hK=>?_)
        refine goes_ Try.func32 (by kernel_rfl) rfl #[.string (rdOf ByteArray.empty af ah)] (by rfl) rfl rfl (by (try simp only [List.map_toArray,List.map_cons,List.map_nil]);first|done|rfl|(simp only [List.length_drop,List.length_take];rfl)) ?_
        with_reducible refine (engrossref1_MayKey.calls (rdOf ByteArray.empty af ah) true _ A50.out).mono ?_
        rintro e w' ⟨rfl,⟨nd,rfl⟩⟩
        refine⟨_,rfl,?_⟩
        refine hK.out _ _ (bn4 ae ⟨(cW HB ax),(cW HB bF),(cW HB bI)⟩) (fun hHeld=>?_)
        clear hK K
        refine norm_ (a':=?_) ?_ ?_
        rotate_left
        ·show Act.put _ (some 111) _=_
         simp only [Act.put,List.setIfInBounds_toArray,List.set_cons_zero,List.set_cons_succ,i64_w,i32_w]
         rfl
        refine pA 6 112 HT_ ?_
        refine pA 7 113 HT_ ?_
        refine pA 8 114 HT_ ?_
        refine pA 9 115 HT_ ?_
        refine pA 10 116 HT_ ?_
        refine pA 11 117 HT_ ?_
        refine pA 13 119 HT_ ?_
        refine pA 16 122 HT_ ?_
        refine pA 18 124 HT_ ?_
        refine pA 19 125 HT_ ?_
        refine tA 12 118 HT_ HW_ hHeld ?_ (hy:=by rintro w' ⟨s0,s1,s2,s3,s4,s5,s6⟩;go_simp;with_reducible rfl)
        refine pA 14 120 HT_ ?_
        refine tA 15 121 HT_ HW_ hHeld ?_ (hy:=by rintro w' ⟨s0,s1,s2,s3,s4,s5,s6⟩;go_simp;with_reducible rfl)
        refine tA 17 123 HT_ HW_ hHeld ?_ (hy:=by rintro w' ⟨s0,s1,s2,s3,s4,s5,s6⟩;go_simp;with_reducible rfl)
        refine pA 20 126 HT_ ?_
        refine tA 21 127 HT_ HW_ hHeld ?_ (hy:=by rintro w' ⟨s0,s1,s2,s3,s4,s5,s6⟩;go_simp;with_reducible rfl)
        refine pA 22 128 HT_ ?_
        refine pA 23 129 HT_ ?_
        refine pA 24 130 HT_ ?_
        refine done_ (done_of HT_.out (by kernel_rfl)) ?_
        try go_wp2
        go_ret
        exact⟨by first|rfl|(simp [errW_none,errW_some] <;> rfl)|(simp only [← hji53];first|rfl|(simp [errW_none,errW_some] <;> rfl))|(simp [*,errW_none,errW_some] <;> rfl),by repeat (first|(with_reducible first|exact HB.out|apply below_alloc|apply pw_below_drewN|apply below_drew1|refine below_set ?_ ei.out)|exact HB.out)⟩
 subst c2
 have H1:(engrossref10_MayNode.l0 k 0 true ab af ag)=some r:=by rw [if_pos rfl] at H;exact H
 clear H
 have H:=H1
 clear H1
 have H':=aK H
 clear H
 go_enter Try.func15,Try.ntmps15
 go_wp2_with (first|((with_reducible refine gate_dst (N:=1) rfl ?_);(try (refine gate_guard (by rfl) ?_;dsimp only));refine box_event ?hg (N:=1) ?hd (cs:=#[.bool true,.slice br ab.length bl,.slice bs af.length bm,.slice bn ag.length bo]) (t:=26) ?hr ?_;(case hd=>rfl);(case hg=>rfl);(case hr=>first|(go_simp;done)|(go_simp;rfl));intro ai hg w3 hbox hb;have ae:=aK (hbox);have fE:=bZ HB hg;have ei:=bZ HB hg;replace HB:=bW HB hb;clear hb hbox hg;obtain⟨ft,fu,fv,fw,fz,fA,fB,fC⟩:=bf4 (w:=w3) ae))
 go_loopg [3] k (fun kq v3 w'=>∃ (aa:Int),v3 = .int .i64 aa∧Aside0 (engrossref10_MayNode.l0 kq aa true ab af ag=some r)∧Aside0 (kq≤k)∧Aside0 (w'.heap[ai]? = some (.cells #[.bool true,(.slice br ab.length bl),(.slice bs af.length bm),(.slice bn ag.length bo)] 26 (0,0)))∧Aside0 (Below w.heap.size w w'))
 case atStart=>exact⟨(0),(by first|rfl|(simp;done)|(simp [*];done)),H',⟨Nat.le_refl _⟩,bK ae,bV HB⟩
 case round =>
  clear H'
  try clear c1
  try clear c2
  try clear p2
  try clear ft fu fv fw fz fA fB fC
  obtain⟨aa,rfl,HA,HK1,ae,HB⟩:=hrel
  cases gk with
  | zero=>exact absurd HA.out (by simp [engrossref10_MayNode.l0])
  | succ k1 =>
   have H:=HA.out
   clear HA
   simp only [engrossref10_MayNode.l0] at H
   by_cases c5:aa<(ab.length:Int)
   rotate_left
   ·rw [if_neg c5] at H
    have ek:decide (aa<(ab.length:Int))=false:=decide_eq_false c5
    clear c5
    by_cases c26:(af.length:Int)=0
    ·rw [if_pos c26] at H
     have ed:((af.length:Int) == 0)=true:=beq_iff_eq.mpr c26
     have eg:((af.length:Int) != 0)=false:=bne_eq_false_iff_eq.mpr c26
     clear c26
     obtain rfl:=Option.some.inj H
     obtain⟨dD,dE,dF,dG,dT,dU,dV,dW⟩:=bf4 (w:=wr) ae
     go_wp2
     go_ret
     exact xB HB
    rw [if_neg c26] at H
    have ed:((af.length:Int) == 0)=false:=beq_eq_false_iff_ne.mpr c26
    have eg:((af.length:Int) != 0)=true:=bne_iff_ne.mpr c26
    have em:¬ (af = []):=fun h_=>c26 (by rw [h_];rfl)
    obtain rfl:=Option.some.inj H
    obtain⟨dH,dI,dJ,dK,dX,dY,dZ,d3⟩:=bf4 (w:=wr) ae
    go_wp2
    go_ret
    exact xB HB
   rw [if_pos c5] at H
   have ek:decide (aa<(ab.length:Int))=true:=decide_eq_true c5
   clear c5
   by_cases c6:0≤aa
   rotate_left
   ·rw [if_neg c6] at H
    exact absurd H (by simp)
   rw [if_pos c6] at H
   have gY:decide (0≤aa)=true:=decide_eq_true c6
   clear c6
   replace H:=oS H
   obtain⟨fD,A70,H⟩:=H
   replace H:(if fD=true then (if aa>0 then (if 0≤(wrap64 (aa - 1)) then (if (wrap64 (aa - 1))<(ab.length:Int) then (if ((Op.bytesLess (((rd_T56 ab (wrap64 (aa - 1))).f0).toList) (((rd_T56 ab aa).f0).toList))=true) then (engrossref10_MayNode.l0 k1 (wrap64 (aa+1)) true ab af ag) else (some false)) else (none)) else (none)) else (engrossref10_MayNode.l0 k1 (wrap64 (aa+1)) true ab af ag)) else (some false))=some r:=H
   have A7:=aK A70
   clear A70
   by_cases c8:fD=true
   rotate_left
   ·replace c8:=Bool.eq_false_iff.mpr c8
    subst c8
    have H1:(some false)=some r:=by rw [if_neg (show ¬ (false=true) by decide)] at H;exact H
    clear H
    have H:=H1
    clear H1
    obtain rfl:=Option.some.inj H
    obtain⟨dy,dz,dB,dC,dP,dQ,dR,dS⟩:=bf4 (w:=wr) ae
    try go_wp2
    replace ae:=aK (blk_drew ae.out)
    replace HB:=aK (below_drew1 HB.out)
    have aI:0≤(aa:Int):=dA
    have aJ:aa<(ab.length:Int):=dA
    obtain⟨ac,e388,aj,ak,al,am,ao,ap,aq,ar⟩:=at_T56 bx.out aa aI aJ
    have ay:=ar
    have az:=aq
    have aA:=ap
    have aC:=ao
    have aD:=am
    have aE:=al
    have aG:=ak
    have aH:=aj
    cases e388
    replace aj:=cW HB aj
    replace ak:=cW HB ak
    replace al:=cW HB al
    replace am:=cW HB am
    replace ao:=cW HB ao
    replace ap:=cW HB ap
    replace aq:=cW HB aq
    replace ar:=cW HB ar
    replace aI:=eq_true aI
    replace aJ:=eq_true aJ
    refine start_ (n:=27) (S:=fun w'=>w'.cell? ⟨ai,0,none⟩=some (.bool true)∧w'.cell? ⟨ai,1,none⟩=some (.slice (some ac) ab.length bl)∧w'.cell? ⟨ai,2,none⟩=some (.slice bs af.length bm)∧w'.cell? ⟨ai,3,none⟩=some (.slice bn ag.length bo)∧w'.cell? (ac.add ((aa).toNat * 8))=some (.string ((rd_T56 ab aa).f0))∧w'.cell? ⟨(ac.add ((aa).toNat * 8)).block,(ac.add ((aa).toNat * 8)).off+1,none⟩=some (.int .i64 ((rd_T56 ab aa).f1.f0))∧w'.cell? ⟨(ac.add ((aa).toNat * 8)).block,(ac.add ((aa).toNat * 8)).off+2,none⟩=some (.float .f64 ((rd_T56 ab aa).f1.f1))∧w'.cell? ⟨(ac.add ((aa).toNat * 8)).block,(ac.add ((aa).toNat * 8)).off+3,none⟩=some (.string ((rd_T56 ab aa).f1.f2))∧w'.cell? ⟨(ac.add ((aa).toNat * 8)).block,(ac.add ((aa).toNat * 8)).off+4,none⟩=some (.int .i64 ((rd_T56 ab aa).f2))∧w'.cell? ⟨(ac.add ((aa).toNat * 8)).block,(ac.add ((aa).toNat * 8)).off+5,none⟩=some (.int .i64 ((rd_T56 ab aa).f3.f0))∧w'.cell? ⟨(ac.add ((aa).toNat * 8)).block,(ac.add ((aa).toNat * 8)).off+6,none⟩=some (.float .f64 ((rd_T56 ab aa).f3.f1))∧w'.cell? ⟨(ac.add ((aa).toNat * 8)).block,(ac.add ((aa).toNat * 8)).off+7,none⟩=some (.string ((rd_T56 ab aa).f3.f2))) (ds:=[]) #[false,false,false,false,false,false,false,false,false,false,false,false,false,false,false,false,false,false,false,false,false,false,false,false,false,false,false] (by kernel_rfl) rfl rfl (bn4 ae ⟨(cW HB aH),(cW HB aG),(cW HB aE),(cW HB aD),(cW HB aC),(cW HB aA),(cW HB az),(cW HB ay)⟩) (fun hHeld=>?_);refine with_tabW engrossref10_MayNode.tab5 engrossref10_MayNode.bits5 (fun HT_ HW_=>?_)
    generalize wr.drew=w24 at ae HB aj ak al am ao ap aq ar hHeld ⊢
    refine pA 0 15 HT_ ?_
    refine pA 2 17 HT_ ?_
    refine tA 1 16 HT_ HW_ hHeld ?_ (hy:=by rintro w' ⟨s0,s1,s2,s3,s4,s5,s6,s7,s8,s9,s10,s11⟩;go_simp;with_reducible rfl)
    refine pA 3 18 HT_ ?_
    refine tA 4 19 HT_ HW_ hHeld ?_ (hy:=by rintro w' ⟨s0,s1,s2,s3,s4,s5,s6,s7,s8,s9,s10,s11⟩;go_simp;with_reducible rfl)
    refine oA 5 (some 20) HT_ (fun K hK=>?_)
    refine goes_ Try.func31 (by kernel_rfl) rfl #[.agg #[.string ((rd_T56 ab aa).f0),.int .i64 ((rd_T56 ab aa).f1.f0),.float .f64 ((rd_T56 ab aa).f1.f1),.string ((rd_T56 ab aa).f1.f2),.int .i64 ((rd_T56 ab aa).f2),.int .i64 ((rd_T56 ab aa).f3.f0),.float .f64 ((rd_T56 ab aa).f3.f1),.string ((rd_T56 ab aa).f3.f2)]] (by rfl) rfl rfl (by (try simp only [List.map_toArray,List.map_cons,List.map_nil]);first|done|rfl|(simp only [List.length_drop,List.length_take];rfl)) ?_
    with_reducible refine (engrossref10_May.calls ((rd_T56 ab aa).f0) ((rd_T56 ab aa).f1.f0) ((rd_T56 ab aa).f1.f1) ((rd_T56 ab aa).f1.f2) ((rd_T56 ab aa).f2) ((rd_T56 ab aa).f3.f0) ((rd_T56 ab aa).f3.f1) ((rd_T56 ab aa).f3.f2) false _ A7.out).mono ?_
    rintro e w25 ⟨rfl,hb⟩
    refine⟨_,rfl,?_⟩
    replace ae:=bB ae hb
    replace HB:=bW HB hb
    (try clear hb)
    (try clear hb2)
    (try clear hk)
    (try clear hi)
    refine hK.out _ _ (bn4 ae ⟨(cW HB aH),(cW HB aG),(cW HB aE),(cW HB aD),(cW HB aC),(cW HB aA),(cW HB az),(cW HB ay)⟩) (fun hHeld=>?_)
    clear hK K
    refine norm_ (a':=?_) ?_ ?_
    rotate_left
    ·show Act.put _ (some 20) _=_
     simp only [Act.put,List.setIfInBounds_toArray,List.set_cons_zero,List.set_cons_succ,i64_w,i32_w]
     rfl
    refine pA 6 21 HT_ ?_
    refine pA 7 22 HT_ ?_
    refine pU 8 23 HT_ ?_
    refine pU 9 24 HT_ ?_
    refine pU 10 25 HT_ ?_
    refine pU 11 26 HT_ ?_
    refine pU 12 27 HT_ ?_
    refine pU 13 28 HT_ ?_
    refine pU 14 29 HT_ ?_
    refine pU 15 30 HT_ ?_
    refine pU 16 31 HT_ ?_
    refine pU 17 32 HT_ ?_
    refine pU 18 33 HT_ ?_
    refine pU 19 34 HT_ ?_
    refine pU 20 35 HT_ ?_
    refine pU 21 36 HT_ ?_
    refine pU 22 37 HT_ ?_
    refine pU 23 38 HT_ ?_
    refine pU 24 39 HT_ ?_
    refine pU 25 40 HT_ ?_
    refine pA 26 41 HT_ ?_
    refine done_ (done_of HT_.out (by kernel_rfl)) ?_
    try go_wp2
    go_ret
    exact xB HB
   subst c8
   have H1:(if aa>0 then (if 0≤(wrap64 (aa - 1)) then (if (wrap64 (aa - 1))<(ab.length:Int) then (if ((Op.bytesLess (((rd_T56 ab (wrap64 (aa - 1))).f0).toList) (((rd_T56 ab aa).f0).toList))=true) then (engrossref10_MayNode.l0 k1 (wrap64 (aa+1)) true ab af ag) else (some false)) else (none)) else (none)) else (engrossref10_MayNode.l0 k1 (wrap64 (aa+1)) true ab af ag))=some r:=by rw [if_pos rfl] at H;exact H
   clear H
   have H:=H1
   clear H1
   by_cases c9:aa>0
   rotate_left
   ·rw [if_neg c9] at H
    have el:decide (0<aa)=false:=decide_eq_false c9
    clear c9
    have H':=aK H
    clear H
    obtain⟨du,dv,dw,dx,dL,dM,dN,dO⟩:=bf4 (w:=wr) ae
    try go_wp2
    replace ae:=aK (blk_drew ae.out)
    replace HB:=aK (below_drew1 HB.out)
    have aI:0≤(aa:Int):=dA
    have aJ:aa<(ab.length:Int):=dA
    obtain⟨ac,e388,aj,ak,al,am,ao,ap,aq,ar⟩:=at_T56 bx.out aa aI aJ
    have ay:=ar
    have az:=aq
    have aA:=ap
    have aC:=ao
    have aD:=am
    have aE:=al
    have aG:=ak
    have aH:=aj
    cases e388
    replace aj:=cW HB aj
    replace ak:=cW HB ak
    replace al:=cW HB al
    replace am:=cW HB am
    replace ao:=cW HB ao
    replace ap:=cW HB ap
    replace aq:=cW HB aq
    replace ar:=cW HB ar
    replace aI:=eq_true aI
    replace aJ:=eq_true aJ
    refine start_ (n:=27) (S:=fun w'=>w'.cell? ⟨ai,0,none⟩=some (.bool true)∧w'.cell? ⟨ai,1,none⟩=some (.slice (some ac) ab.length bl)∧w'.cell? ⟨ai,2,none⟩=some (.slice bs af.length bm)∧w'.cell? ⟨ai,3,none⟩=some (.slice bn ag.length bo)∧w'.cell? (ac.add ((aa).toNat * 8))=some (.string ((rd_T56 ab aa).f0))∧w'.cell? ⟨(ac.add ((aa).toNat * 8)).block,(ac.add ((aa).toNat * 8)).off+1,none⟩=some (.int .i64 ((rd_T56 ab aa).f1.f0))∧w'.cell? ⟨(ac.add ((aa).toNat * 8)).block,(ac.add ((aa).toNat * 8)).off+2,none⟩=some (.float .f64 ((rd_T56 ab aa).f1.f1))∧w'.cell? ⟨(ac.add ((aa).toNat * 8)).block,(ac.add ((aa).toNat * 8)).off+3,none⟩=some (.string ((rd_T56 ab aa).f1.f2))∧w'.cell? ⟨(ac.add ((aa).toNat * 8)).block,(ac.add ((aa).toNat * 8)).off+4,none⟩=some (.int .i64 ((rd_T56 ab aa).f2))∧w'.cell? ⟨(ac.add ((aa).toNat * 8)).block,(ac.add ((aa).toNat * 8)).off+5,none⟩=some (.int .i64 ((rd_T56 ab aa).f3.f0))∧w'.cell? ⟨(ac.add ((aa).toNat * 8)).block,(ac.add ((aa).toNat * 8)).off+6,none⟩=some (.float .f64 ((rd_T56 ab aa).f3.f1))∧w'.cell? ⟨(ac.add ((aa).toNat * 8)).block,(ac.add ((aa).toNat * 8)).off+7,none⟩=some (.string ((rd_T56 ab aa).f3.f2))) (ds:=[]) #[false,false,false,false,false,false,false,false,false,false,false,false,false,false,false,false,false,false,false,false,false,false,false,false,false,false,false] (by kernel_rfl) rfl rfl (bn4 ae ⟨(cW HB aH),(cW HB aG),(cW HB aE),(cW HB aD),(cW HB aC),(cW HB aA),(cW HB az),(cW HB ay)⟩) (fun hHeld=>?_);refine with_tabW engrossref10_MayNode.tab5 engrossref10_MayNode.bits5 (fun HT_ HW_=>?_)
    generalize wr.drew=w21 at ae HB aj ak al am ao ap aq ar hHeld ⊢
    refine pA 0 15 HT_ ?_
    refine pA 2 17 HT_ ?_
    refine tA 1 16 HT_ HW_ hHeld ?_ (hy:=by rintro w' ⟨s0,s1,s2,s3,s4,s5,s6,s7,s8,s9,s10,s11⟩;go_simp;with_reducible rfl)
    refine pA 3 18 HT_ ?_
    refine tA 4 19 HT_ HW_ hHeld ?_ (hy:=by rintro w' ⟨s0,s1,s2,s3,s4,s5,s6,s7,s8,s9,s10,s11⟩;go_simp;with_reducible rfl)
    refine oA 5 (some 20) HT_ (fun K hK=>?_)
    refine goes_ Try.func31 (by kernel_rfl) rfl #[.agg #[.string ((rd_T56 ab aa).f0),.int .i64 ((rd_T56 ab aa).f1.f0),.float .f64 ((rd_T56 ab aa).f1.f1),.string ((rd_T56 ab aa).f1.f2),.int .i64 ((rd_T56 ab aa).f2),.int .i64 ((rd_T56 ab aa).f3.f0),.float .f64 ((rd_T56 ab aa).f3.f1),.string ((rd_T56 ab aa).f3.f2)]] (by rfl) rfl rfl (by (try simp only [List.map_toArray,List.map_cons,List.map_nil]);first|done|rfl|(simp only [List.length_drop,List.length_take];rfl)) ?_
    with_reducible refine (engrossref10_May.calls ((rd_T56 ab aa).f0) ((rd_T56 ab aa).f1.f0) ((rd_T56 ab aa).f1.f1) ((rd_T56 ab aa).f1.f2) ((rd_T56 ab aa).f2) ((rd_T56 ab aa).f3.f0) ((rd_T56 ab aa).f3.f1) ((rd_T56 ab aa).f3.f2) true _ A7.out).mono ?_
    rintro e w22 ⟨rfl,hb⟩
    refine⟨_,rfl,?_⟩
    replace ae:=bB ae hb
    replace HB:=bW HB hb
    (try clear hb)
    (try clear hb2)
    (try clear hk)
    (try clear hi)
    refine hK.out _ _ (bn4 ae ⟨(cW HB aH),(cW HB aG),(cW HB aE),(cW HB aD),(cW HB aC),(cW HB aA),(cW HB az),(cW HB ay)⟩) (fun hHeld=>?_)
    clear hK K
    refine norm_ (a':=?_) ?_ ?_
    rotate_left
    ·show Act.put _ (some 20) _=_
     simp only [Act.put,List.setIfInBounds_toArray,List.set_cons_zero,List.set_cons_succ,i64_w,i32_w]
     rfl
    refine pA 6 21 HT_ ?_
    refine pA 7 22 HT_ ?_
    refine pA 8 23 HT_ ?_
    refine pA 9 24 HT_ ?_
    refine pA 10 25 HT_ ?_
    refine pU 11 26 HT_ ?_
    refine pU 12 27 HT_ ?_
    refine pU 13 28 HT_ ?_
    refine pU 14 29 HT_ ?_
    refine pU 15 30 HT_ ?_
    refine pU 16 31 HT_ ?_
    refine pU 17 32 HT_ ?_
    refine pU 18 33 HT_ ?_
    refine pU 19 34 HT_ ?_
    refine pU 20 35 HT_ ?_
    refine pU 21 36 HT_ ?_
    refine pU 22 37 HT_ ?_
    refine pU 23 38 HT_ ?_
    refine pU 24 39 HT_ ?_
    refine pA 25 40 HT_ ?_
    refine pA 26 41 HT_ ?_
    refine done_ (done_of HT_.out (by kernel_rfl)) ?_
    try go_wp2
    go_roundg k1
    case measure=>have:=HK1.out;omega
    case rel=>exact⟨(wrap64 (aa+1)),(by first|rfl|(simp;done)|(simp [*];done)),H',⟨by have:=HK1.out;omega⟩,bK ae,bV HB⟩
   rw [if_pos c9] at H
   have el:decide (0<aa)=true:=decide_eq_true c9
   clear c9
   obtain⟨ji10,hji10⟩:∃ j_:Int,(wrap64 (aa - 1))=j_:=⟨_,rfl⟩
   replace H:(if 0≤(ji10) then (if (ji10)<(ab.length:Int) then (if ((Op.bytesLess (((rd_T56 ab (ji10)).f0).toList) (((rd_T56 ab aa).f0).toList))=true) then (engrossref10_MayNode.l0 k1 (wrap64 (aa+1)) true ab af ag) else (some false)) else (none)) else (none))=some r:=by first|(rw [hji10] at H;exact H)|(simp only [hji10] at H ⊢;exact H)
   (try rw [hji10] at A7)
   have hji10w:(IntKind.i64.wrap (aa - 1))=ji10:=(i64_w _).trans hji10
   by_cases c11:0≤(ji10)
   rotate_left
   ·rw [if_neg c11] at H
    exact absurd H (by simp)
   rw [if_pos c11] at H
   have gV:decide (0≤(ji10))=true:=decide_eq_true c11
   clear c11
   by_cases c12:(ji10)<(ab.length:Int)
   rotate_left
   ·rw [if_neg c12] at H
    exact absurd H (by simp)
   rw [if_pos c12] at H
   have gW:decide ((ji10)<(ab.length:Int))=true:=decide_eq_true c12
   clear c12
   by_cases c13:((Op.bytesLess (((rd_T56 ab (ji10)).f0).toList) (((rd_T56 ab aa).f0).toList))=true)
   ·rw [if_pos c13] at H
    have fJ:(Op.bytesLess (((rd_T56 ab (ji10)).f0).toList) (((rd_T56 ab aa).f0).toList))=true:=c13
    clear c13
    have H':=aK H
    clear H
    obtain⟨gy,gz,gA,gB,gC,gD,gE,gF⟩:=bf4 (w:=wr) ae
    try go_wp2
    replace ae:=aK (blk_drew ae.out)
    replace HB:=aK (below_drew1 HB.out)
    have aI:0≤(aa:Int):=dA
    have aJ:aa<(ab.length:Int):=dA
    obtain⟨ac,e388,aj,ak,al,am,ao,ap,aq,ar⟩:=at_T56 bx.out aa aI aJ
    have ay:=ar
    have az:=aq
    have aA:=ap
    have aC:=ao
    have aD:=am
    have aE:=al
    have aG:=ak
    have aH:=aj
    cases e388
    replace aj:=cW HB aj
    replace ak:=cW HB ak
    replace al:=cW HB al
    replace am:=cW HB am
    replace ao:=cW HB ao
    replace ap:=cW HB ap
    replace aq:=cW HB aq
    replace ar:=cW HB ar
    replace aI:=eq_true aI
    replace aJ:=eq_true aJ
    have cw:0≤(aa:Int):=dA
    have cx:aa<(ab.length:Int):=dA
    obtain⟨et,e390,aT,aU,aV,aW,aX,aY,aZ,ba⟩:=at_T56 bx.out aa cw cx
    have bJ:=ba
    have bM:=aZ
    have bN:=aY
    have bO:=aX
    have bU:=aW
    have bX:=aV
    have bY:=aU
    have b8:=aT
    obtain rfl:ac=et:=(by injection e390)
    replace aT:=cW HB aT
    replace aU:=cW HB aU
    replace aV:=cW HB aV
    replace aW:=cW HB aW
    replace aX:=cW HB aX
    replace aY:=cW HB aY
    replace aZ:=cW HB aZ
    replace ba:=cW HB ba
    replace cw:=eq_true cw
    replace cx:=eq_true cx
    have cz:0≤((ji10):Int):=dA
    have cA:(ji10)<(ab.length:Int):=dA
    obtain⟨eu,e391,bb,bc,bf,bg,bh,bi,bj,bk⟩:=at_T56 bx.out (ji10) cz cA
    have b9:=bk
    have ca:=bj
    have cb:=bi
    have cd:=bh
    have cf:=bg
    have cg:=bf
    have ch:=bc
    have cj:=bb
    obtain rfl:ac=eu:=(by injection e391)
    replace bb:=cW HB bb
    replace bc:=cW HB bc
    replace bf:=cW HB bf
    replace bg:=cW HB bg
    replace bh:=cW HB bh
    replace bi:=cW HB bi
    replace bj:=cW HB bj
    replace bk:=cW HB bk
    replace cz:=eq_true cz
    replace cA:=eq_true cA
    refine start_ (n:=27) (S:=fun w'=>w'.cell? ⟨ai,0,none⟩=some (.bool true)∧w'.cell? ⟨ai,1,none⟩=some (.slice (some ac) ab.length bl)∧w'.cell? ⟨ai,2,none⟩=some (.slice bs af.length bm)∧w'.cell? ⟨ai,3,none⟩=some (.slice bn ag.length bo)∧w'.cell? (ac.add ((aa).toNat * 8))=some (.string ((rd_T56 ab aa).f0))∧w'.cell? ⟨(ac.add ((aa).toNat * 8)).block,(ac.add ((aa).toNat * 8)).off+1,none⟩=some (.int .i64 ((rd_T56 ab aa).f1.f0))∧w'.cell? ⟨(ac.add ((aa).toNat * 8)).block,(ac.add ((aa).toNat * 8)).off+2,none⟩=some (.float .f64 ((rd_T56 ab aa).f1.f1))∧w'.cell? ⟨(ac.add ((aa).toNat * 8)).block,(ac.add ((aa).toNat * 8)).off+3,none⟩=some (.string ((rd_T56 ab aa).f1.f2))∧w'.cell? ⟨(ac.add ((aa).toNat * 8)).block,(ac.add ((aa).toNat * 8)).off+4,none⟩=some (.int .i64 ((rd_T56 ab aa).f2))∧w'.cell? ⟨(ac.add ((aa).toNat * 8)).block,(ac.add ((aa).toNat * 8)).off+5,none⟩=some (.int .i64 ((rd_T56 ab aa).f3.f0))∧w'.cell? ⟨(ac.add ((aa).toNat * 8)).block,(ac.add ((aa).toNat * 8)).off+6,none⟩=some (.float .f64 ((rd_T56 ab aa).f3.f1))∧w'.cell? ⟨(ac.add ((aa).toNat * 8)).block,(ac.add ((aa).toNat * 8)).off+7,none⟩=some (.string ((rd_T56 ab aa).f3.f2))∧w'.cell? (ac.add ((aa).toNat * 8))=some (.string ((rd_T56 ab aa).f0))∧w'.cell? ⟨(ac.add ((aa).toNat * 8)).block,(ac.add ((aa).toNat * 8)).off+1,none⟩=some (.int .i64 ((rd_T56 ab aa).f1.f0))∧w'.cell? ⟨(ac.add ((aa).toNat * 8)).block,(ac.add ((aa).toNat * 8)).off+2,none⟩=some (.float .f64 ((rd_T56 ab aa).f1.f1))∧w'.cell? ⟨(ac.add ((aa).toNat * 8)).block,(ac.add ((aa).toNat * 8)).off+3,none⟩=some (.string ((rd_T56 ab aa).f1.f2))∧w'.cell? ⟨(ac.add ((aa).toNat * 8)).block,(ac.add ((aa).toNat * 8)).off+4,none⟩=some (.int .i64 ((rd_T56 ab aa).f2))∧w'.cell? ⟨(ac.add ((aa).toNat * 8)).block,(ac.add ((aa).toNat * 8)).off+5,none⟩=some (.int .i64 ((rd_T56 ab aa).f3.f0))∧w'.cell? ⟨(ac.add ((aa).toNat * 8)).block,(ac.add ((aa).toNat * 8)).off+6,none⟩=some (.float .f64 ((rd_T56 ab aa).f3.f1))∧w'.cell? ⟨(ac.add ((aa).toNat * 8)).block,(ac.add ((aa).toNat * 8)).off+7,none⟩=some (.string ((rd_T56 ab aa).f3.f2))∧w'.cell? (ac.add (((ji10)).toNat * 8))=some (.string ((rd_T56 ab (ji10)).f0))∧w'.cell? ⟨(ac.add (((ji10)).toNat * 8)).block,(ac.add (((ji10)).toNat * 8)).off+1,none⟩=some (.int .i64 ((rd_T56 ab (ji10)).f1.f0))∧w'.cell? ⟨(ac.add (((ji10)).toNat * 8)).block,(ac.add (((ji10)).toNat * 8)).off+2,none⟩=some (.float .f64 ((rd_T56 ab (ji10)).f1.f1))∧w'.cell? ⟨(ac.add (((ji10)).toNat * 8)).block,(ac.add (((ji10)).toNat * 8)).off+3,none⟩=some (.string ((rd_T56 ab (ji10)).f1.f2))∧w'.cell? ⟨(ac.add (((ji10)).toNat * 8)).block,(ac.add (((ji10)).toNat * 8)).off+4,none⟩=some (.int .i64 ((rd_T56 ab (ji10)).f2))∧w'.cell? ⟨(ac.add (((ji10)).toNat * 8)).block,(ac.add (((ji10)).toNat * 8)).off+5,none⟩=some (.int .i64 ((rd_T56 ab (ji10)).f3.f0))∧w'.cell? ⟨(ac.add (((ji10)).toNat * 8)).block,(ac.add (((ji10)).toNat * 8)).off+6,none⟩=some (.float .f64 ((rd_T56 ab (ji10)).f3.f1))∧w'.cell? ⟨(ac.add (((ji10)).toNat * 8)).block,(ac.add (((ji10)).toNat * 8)).off+7,none⟩=some (.string ((rd_T56 ab (ji10)).f3.f2))) (ds:=[]) #[false,false,false,false,false,false,false,false,false,false,false,false,false,false,false,false,false,false,false,false,false,false,false,false,false,false,false] (by kernel_rfl) rfl rfl (bn4 ae ⟨(cW HB aH),(cW HB aG),(cW HB aE),(cW HB aD),(cW HB aC),(cW HB aA),(cW HB az),(cW HB ay),(cW HB b8),(cW HB bY),(cW HB bX),(cW HB bU),(cW HB bO),(cW HB bN),(cW HB bM),(cW HB bJ),(cW HB cj),(cW HB ch),(cW HB cg),(cW HB cf),(cW HB cd),(cW HB cb),(cW HB ca),(cW HB b9)⟩) (fun hHeld=>?_);refine with_tabW engrossref10_MayNode.tab5 engrossref10_MayNode.bits5 (fun HT_ HW_=>?_)
    generalize wr.drew=w15 at ae HB aj ak al am ao ap aq ar aT aU aV aW aX aY aZ ba bb bc bf bg bh bi bj bk hHeld ⊢
    refine pA 0 15 HT_ ?_
    refine pA 2 17 HT_ ?_
    refine tA 1 16 HT_ HW_ hHeld ?_ (hy:=by rintro w' ⟨s0,s1,s2,s3,s4,s5,s6,s7,s8,s9,s10,s11,s12,s13,s14,s15,s16,s17,s18,s19,s20,s21,s22,s23,s24,s25,s26,s27⟩;go_simp;with_reducible rfl)
    refine pA 3 18 HT_ ?_
    refine tA 4 19 HT_ HW_ hHeld ?_ (hy:=by rintro w' ⟨s0,s1,s2,s3,s4,s5,s6,s7,s8,s9,s10,s11,s12,s13,s14,s15,s16,s17,s18,s19,s20,s21,s22,s23,s24,s25,s26,s27⟩;go_simp;with_reducible rfl)
    refine oA 5 (some 20) HT_ (fun K hK=>?_)
    refine goes_ Try.func31 (by kernel_rfl) rfl #[.agg #[.string ((rd_T56 ab aa).f0),.int .i64 ((rd_T56 ab aa).f1.f0),.float .f64 ((rd_T56 ab aa).f1.f1),.string ((rd_T56 ab aa).f1.f2),.int .i64 ((rd_T56 ab aa).f2),.int .i64 ((rd_T56 ab aa).f3.f0),.float .f64 ((rd_T56 ab aa).f3.f1),.string ((rd_T56 ab aa).f3.f2)]] (by rfl) rfl rfl (by (try simp only [List.map_toArray,List.map_cons,List.map_nil]);first|done|rfl|(simp only [List.length_drop,List.length_take];rfl)) ?_
    with_reducible refine (engrossref10_May.calls ((rd_T56 ab aa).f0) ((rd_T56 ab aa).f1.f0) ((rd_T56 ab aa).f1.f1) ((rd_T56 ab aa).f1.f2) ((rd_T56 ab aa).f2) ((rd_T56 ab aa).f3.f0) ((rd_T56 ab aa).f3.f1) ((rd_T56 ab aa).f3.f2) true _ A7.out).mono ?_
    rintro e w16 ⟨rfl,hb⟩
    refine⟨_,rfl,?_⟩
    replace ae:=bB ae hb
    replace HB:=bW HB hb
    (try clear hb)
    (try clear hb2)
    (try clear hk)
    (try clear hi)
    refine hK.out _ _ (bn4 ae ⟨(cW HB aH),(cW HB aG),(cW HB aE),(cW HB aD),(cW HB aC),(cW HB aA),(cW HB az),(cW HB ay),(cW HB b8),(cW HB bY),(cW HB bX),(cW HB bU),(cW HB bO),(cW HB bN),(cW HB bM),(cW HB bJ),(cW HB cj),(cW HB ch),(cW HB cg),(cW HB cf),(cW HB cd),(cW HB cb),(cW HB ca),(cW HB b9)⟩) (fun hHeld=>?_)
    clear hK K
    refine norm_ (a':=?_) ?_ ?_
    rotate_left
    ·show Act.put _ (some 20) _=_
     simp only [Act.put,List.setIfInBounds_toArray,List.set_cons_zero,List.set_cons_succ,i64_w,i32_w]
     rfl
    refine pA 6 21 HT_ ?_
    refine pA 7 22 HT_ ?_
    refine pA 8 23 HT_ ?_
    refine pA 9 24 HT_ ?_
    refine pA 10 25 HT_ ?_
    refine pA 11 26 HT_ ?_
    refine pA 13 28 HT_ ?_
    refine pA 17 32 HT_ ?_
    refine pA 19 34 HT_ ?_
    refine pA 20 35 HT_ ?_
    refine tA 12 27 HT_ HW_ hHeld ?_ (hy:=by rintro w' ⟨s0,s1,s2,s3,s4,s5,s6,s7,s8,s9,s10,s11,s12,s13,s14,s15,s16,s17,s18,s19,s20,s21,s22,s23,s24,s25,s26,s27⟩;go_simp;with_reducible rfl)
    refine pA 14 29 HT_ ?_
    refine pA 15 30 HT_ ?_
    refine tA 16 31 HT_ HW_ hHeld ?_ (hy:=by rintro w' ⟨s0,s1,s2,s3,s4,s5,s6,s7,s8,s9,s10,s11,s12,s13,s14,s15,s16,s17,s18,s19,s20,s21,s22,s23,s24,s25,s26,s27⟩;go_simp;with_reducible rfl)
    refine tA 18 33 HT_ HW_ hHeld ?_ (hy:=by rintro w' ⟨s0,s1,s2,s3,s4,s5,s6,s7,s8,s9,s10,s11,s12,s13,s14,s15,s16,s17,s18,s19,s20,s21,s22,s23,s24,s25,s26,s27⟩;go_simp;with_reducible rfl)
    refine pA 21 36 HT_ ?_
    refine pA 22 37 HT_ ?_
    refine tA 23 38 HT_ HW_ hHeld ?_ (hy:=by rintro w' ⟨s0,s1,s2,s3,s4,s5,s6,s7,s8,s9,s10,s11,s12,s13,s14,s15,s16,s17,s18,s19,s20,s21,s22,s23,s24,s25,s26,s27⟩;go_simp;with_reducible rfl)
    refine pA 24 39 HT_ ?_
    refine pA 25 40 HT_ ?_
    refine pA 26 41 HT_ ?_
    refine done_ (done_of HT_.out (by kernel_rfl)) ?_
    try go_wp2
    go_roundg k1
    case measure=>have:=HK1.out;omega
    case rel=>exact⟨(wrap64 (aa+1)),(by first|rfl|(simp;done)|(simp [*];done)),H',⟨by have:=HK1.out;omega⟩,bK ae,bV HB⟩
   rw [if_neg c13] at H
   have fJ:(Op.bytesLess (((rd_T56 ab (ji10)).f0).toList) (((rd_T56 ab aa).f0).toList))=false:=by simpa using c13
   clear c13
   obtain rfl:=Option.some.inj H
   obtain⟨gG,gH,gI,gJ,gK,gM,gN,gO⟩:=bf4 (w:=wr) ae
   try go_wp2
   replace ae:=aK (blk_drew ae.out)
   replace HB:=aK (below_drew1 HB.out)
   have aI:0≤(aa:Int):=dA
   have aJ:aa<(ab.length:Int):=dA
   obtain⟨ac,e388,aj,ak,al,am,ao,ap,aq,ar⟩:=at_T56 bx.out aa aI aJ
   have ay:=ar
   have az:=aq
   have aA:=ap
   have aC:=ao
   have aD:=am
   have aE:=al
   have aG:=ak
   have aH:=aj
   cases e388
   replace aj:=cW HB aj
   replace ak:=cW HB ak
   replace al:=cW HB al
   replace am:=cW HB am
   replace ao:=cW HB ao
   replace ap:=cW HB ap
   replace aq:=cW HB aq
   replace ar:=cW HB ar
   replace aI:=eq_true aI
   replace aJ:=eq_true aJ
   have cw:0≤(aa:Int):=dA
   have cx:aa<(ab.length:Int):=dA
   obtain⟨et,e390,aT,aU,aV,aW,aX,aY,aZ,ba⟩:=at_T56 bx.out aa cw cx
   have bJ:=ba
   have bM:=aZ
   have bN:=aY
   have bO:=aX
   have bU:=aW
   have bX:=aV
   have bY:=aU
   have b8:=aT
   obtain rfl:ac=et:=(by injection e390)
   replace aT:=cW HB aT
   replace aU:=cW HB aU
   replace aV:=cW HB aV
   replace aW:=cW HB aW
   replace aX:=cW HB aX
   replace aY:=cW HB aY
   replace aZ:=cW HB aZ
   replace ba:=cW HB ba
   replace cw:=eq_true cw
   replace cx:=eq_true cx
   have cz:0≤((ji10):Int):=dA
   have cA:(ji10)<(ab.length:Int):=dA
   obtain⟨eu,e391,bb,bc,bf,bg,bh,bi,bj,bk⟩:=at_T56 bx.out (ji10) cz cA
   have b9:=bk
   have ca:=bj
   have cb:=bi
   have cd:=bh
   have cf:=bg
   have cg:=bf
   have ch:=bc
   have cj:=bb
   obtain rfl:ac=eu:=(by injection e391)
   replace bb:=cW HB bb
   replace bc:=cW HB bc
   replace bf:=cW HB bf
   replace bg:=cW HB bg
   replace bh:=cW HB bh
   replace bi:=cW HB bi
   replace bj:=cW HB bj
   replace bk:=cW HB bk
   replace cz:=eq_true cz
   replace cA:=eq_true cA
   refine start_ (n:=27) (S:=fun w'=>w'.cell? ⟨ai,0,none⟩=some (.bool true)∧w'.cell? ⟨ai,1,none⟩=some (.slice (some ac) ab.length bl)∧w'.cell? ⟨ai,2,none⟩=some (.slice bs af.length bm)∧w'.cell? ⟨ai,3,none⟩=some (.slice bn ag.length bo)∧w'.cell? (ac.add ((aa).toNat * 8))=some (.string ((rd_T56 ab aa).f0))∧w'.cell? ⟨(ac.add ((aa).toNat * 8)).block,(ac.add ((aa).toNat * 8)).off+1,none⟩=some (.int .i64 ((rd_T56 ab aa).f1.f0))∧w'.cell? ⟨(ac.add ((aa).toNat * 8)).block,(ac.add ((aa).toNat * 8)).off+2,none⟩=some (.float .f64 ((rd_T56 ab aa).f1.f1))∧w'.cell? ⟨(ac.add ((aa).toNat * 8)).block,(ac.add ((aa).toNat * 8)).off+3,none⟩=some (.string ((rd_T56 ab aa).f1.f2))∧w'.cell? ⟨(ac.add ((aa).toNat * 8)).block,(ac.add ((aa).toNat * 8)).off+4,none⟩=some (.int .i64 ((rd_T56 ab aa).f2))∧w'.cell? ⟨(ac.add ((aa).toNat * 8)).block,(ac.add ((aa).toNat * 8)).off+5,none⟩=some (.int .i64 ((rd_T56 ab aa).f3.f0))∧w'.cell? ⟨(ac.add ((aa).toNat * 8)).block,(ac.add ((aa).toNat * 8)).off+6,none⟩=some (.float .f64 ((rd_T56 ab aa).f3.f1))∧w'.cell? ⟨(ac.add ((aa).toNat * 8)).block,(ac.add ((aa).toNat * 8)).off+7,none⟩=some (.string ((rd_T56 ab aa).f3.f2))∧w'.cell? (ac.add ((aa).toNat * 8))=some (.string ((rd_T56 ab aa).f0))∧w'.cell? ⟨(ac.add ((aa).toNat * 8)).block,(ac.add ((aa).toNat * 8)).off+1,none⟩=some (.int .i64 ((rd_T56 ab aa).f1.f0))∧w'.cell? ⟨(ac.add ((aa).toNat * 8)).block,(ac.add ((aa).toNat * 8)).off+2,none⟩=some (.float .f64 ((rd_T56 ab aa).f1.f1))∧w'.cell? ⟨(ac.add ((aa).toNat * 8)).block,(ac.add ((aa).toNat * 8)).off+3,none⟩=some (.string ((rd_T56 ab aa).f1.f2))∧w'.cell? ⟨(ac.add ((aa).toNat * 8)).block,(ac.add ((aa).toNat * 8)).off+4,none⟩=some (.int .i64 ((rd_T56 ab aa).f2))∧w'.cell? ⟨(ac.add ((aa).toNat * 8)).block,(ac.add ((aa).toNat * 8)).off+5,none⟩=some (.int .i64 ((rd_T56 ab aa).f3.f0))∧w'.cell? ⟨(ac.add ((aa).toNat * 8)).block,(ac.add ((aa).toNat * 8)).off+6,none⟩=some (.float .f64 ((rd_T56 ab aa).f3.f1))∧w'.cell? ⟨(ac.add ((aa).toNat * 8)).block,(ac.add ((aa).toNat * 8)).off+7,none⟩=some (.string ((rd_T56 ab aa).f3.f2))∧w'.cell? (ac.add (((ji10)).toNat * 8))=some (.string ((rd_T56 ab (ji10)).f0))∧w'.cell? ⟨(ac.add (((ji10)).toNat * 8)).block,(ac.add (((ji10)).toNat * 8)).off+1,none⟩=some (.int .i64 ((rd_T56 ab (ji10)).f1.f0))∧w'.cell? ⟨(ac.add (((ji10)).toNat * 8)).block,(ac.add (((ji10)).toNat * 8)).off+2,none⟩=some (.float .f64 ((rd_T56 ab (ji10)).f1.f1))∧w'.cell? ⟨(ac.add (((ji10)).toNat * 8)).block,(ac.add (((ji10)).toNat * 8)).off+3,none⟩=some (.string ((rd_T56 ab (ji10)).f1.f2))∧w'.cell? ⟨(ac.add (((ji10)).toNat * 8)).block,(ac.add (((ji10)).toNat * 8)).off+4,none⟩=some (.int .i64 ((rd_T56 ab (ji10)).f2))∧w'.cell? ⟨(ac.add (((ji10)).toNat * 8)).block,(ac.add (((ji10)).toNat * 8)).off+5,none⟩=some (.int .i64 ((rd_T56 ab (ji10)).f3.f0))∧w'.cell? ⟨(ac.add (((ji10)).toNat * 8)).block,(ac.add (((ji10)).toNat * 8)).off+6,none⟩=some (.float .f64 ((rd_T56 ab (ji10)).f3.f1))∧w'.cell? ⟨(ac.add (((ji10)).toNat * 8)).block,(ac.add (((ji10)).toNat * 8)).off+7,none⟩=some (.string ((rd_T56 ab (ji10)).f3.f2))) (ds:=[]) #[false,false,false,false,false,false,false,false,false,false,false,false,false,false,false,false,false,false,false,false,false,false,false,false,false,false,false] (by kernel_rfl) rfl rfl (bn4 ae ⟨(cW HB aH),(cW HB aG),(cW HB aE),(cW HB aD),(cW HB aC),(cW HB aA),(cW HB az),(cW HB ay),(cW HB b8),(cW HB bY),(cW HB bX),(cW HB bU),(cW HB bO),(cW HB bN),(cW HB bM),(cW HB bJ),(cW HB cj),(cW HB ch),(cW HB cg),(cW HB cf),(cW HB cd),(cW HB cb),(cW HB ca),(cW HB b9)⟩) (fun hHeld=>?_);refine with_tabW engrossref10_MayNode.tab5 engrossref10_MayNode.bits5 (fun HT_ HW_=>?_)
   generalize wr.drew=w18 at ae HB aj ak al am ao ap aq ar aT aU aV aW aX aY aZ ba bb bc bf bg bh bi bj bk hHeld ⊢
   refine pA 0 15 HT_ ?_
   refine pA 2 17 HT_ ?_
   refine tA 1 16 HT_ HW_ hHeld ?_ (hy:=by rintro w' ⟨s0,s1,s2,s3,s4,s5,s6,s7,s8,s9,s10,s11,s12,s13,s14,s15,s16,s17,s18,s19,s20,s21,s22,s23,s24,s25,s26,s27⟩;go_simp;with_reducible rfl)
   refine pA 3 18 HT_ ?_
   refine tA 4 19 HT_ HW_ hHeld ?_ (hy:=by rintro w' ⟨s0,s1,s2,s3,s4,s5,s6,s7,s8,s9,s10,s11,s12,s13,s14,s15,s16,s17,s18,s19,s20,s21,s22,s23,s24,s25,s26,s27⟩;go_simp;with_reducible rfl)
   refine oA 5 (some 20) HT_ (fun K hK=>?_)
   refine goes_ Try.func31 (by kernel_rfl) rfl #[.agg #[.string ((rd_T56 ab aa).f0),.int .i64 ((rd_T56 ab aa).f1.f0),.float .f64 ((rd_T56 ab aa).f1.f1),.string ((rd_T56 ab aa).f1.f2),.int .i64 ((rd_T56 ab aa).f2),.int .i64 ((rd_T56 ab aa).f3.f0),.float .f64 ((rd_T56 ab aa).f3.f1),.string ((rd_T56 ab aa).f3.f2)]] (by rfl) rfl rfl (by (try simp only [List.map_toArray,List.map_cons,List.map_nil]);first|done|rfl|(simp only [List.length_drop,List.length_take];rfl)) ?_
   with_reducible refine (engrossref10_May.calls ((rd_T56 ab aa).f0) ((rd_T56 ab aa).f1.f0) ((rd_T56 ab aa).f1.f1) ((rd_T56 ab aa).f1.f2) ((rd_T56 ab aa).f2) ((rd_T56 ab aa).f3.f0) ((rd_T56 ab aa).f3.f1) ((rd_T56 ab aa).f3.f2) true _ A7.out).mono ?_
   rintro e w19 ⟨rfl,hb⟩
   refine⟨_,rfl,?_⟩
   replace ae:=bB ae hb
   replace HB:=bW HB hb
   (try clear hb)
   (try clear hb2)
   (try clear hk)
   (try clear hi)
   refine hK.out _ _ (bn4 ae ⟨(cW HB aH),(cW HB aG),(cW HB aE),(cW HB aD),(cW HB aC),(cW HB aA),(cW HB az),(cW HB ay),(cW HB b8),(cW HB bY),(cW HB bX),(cW HB bU),(cW HB bO),(cW HB bN),(cW HB bM),(cW HB bJ),(cW HB cj),(cW HB ch),(cW HB cg),(cW HB cf),(cW HB cd),(cW HB cb),(cW HB ca),(cW HB b9)⟩) (fun hHeld=>?_)
   clear hK K
   refine norm_ (a':=?_) ?_ ?_
   rotate_left
   ·show Act.put _ (some 20) _=_
    simp only [Act.put,List.setIfInBounds_toArray,List.set_cons_zero,List.set_cons_succ,i64_w,i32_w]
    rfl
   refine pA 6 21 HT_ ?_
   refine pA 7 22 HT_ ?_
   refine pA 8 23 HT_ ?_
   refine pA 9 24 HT_ ?_
   refine pA 10 25 HT_ ?_
   refine pA 11 26 HT_ ?_
   refine pA 13 28 HT_ ?_
   refine pA 17 32 HT_ ?_
   refine pA 19 34 HT_ ?_
   refine pA 20 35 HT_ ?_
   refine tA 12 27 HT_ HW_ hHeld ?_ (hy:=by rintro w' ⟨s0,s1,s2,s3,s4,s5,s6,s7,s8,s9,s10,s11,s12,s13,s14,s15,s16,s17,s18,s19,s20,s21,s22,s23,s24,s25,s26,s27⟩;go_simp;with_reducible rfl)
   refine pA 14 29 HT_ ?_
   refine pA 15 30 HT_ ?_
   refine tA 16 31 HT_ HW_ hHeld ?_ (hy:=by rintro w' ⟨s0,s1,s2,s3,s4,s5,s6,s7,s8,s9,s10,s11,s12,s13,s14,s15,s16,s17,s18,s19,s20,s21,s22,s23,s24,s25,s26,s27⟩;go_simp;with_reducible rfl)
   refine tA 18 33 HT_ HW_ hHeld ?_ (hy:=by rintro w' ⟨s0,s1,s2,s3,s4,s5,s6,s7,s8,s9,s10,s11,s12,s13,s14,s15,s16,s17,s18,s19,s20,s21,s22,s23,s24,s25,s26,s27⟩;go_simp;with_reducible rfl)
   refine pA 21 36 HT_ ?_
   refine pA 22 37 HT_ ?_
   refine tA 23 38 HT_ HW_ hHeld ?_ (hy:=by rintro w' ⟨s0,s1,s2,s3,s4,s5,s6,s7,s8,s9,s10,s11,s12,s13,s14,s15,s16,s17,s18,s19,s20,s21,s22,s23,s24,s25,s26,s27⟩;go_simp;with_reducible rfl)
   refine pA 24 39 HT_ ?_
   refine pA 25 40 HT_ ?_
   refine pA 26 41 HT_ ?_
   refine done_ (done_of HT_.out (by kernel_rfl)) ?_
   try go_wp2
   go_ret
   exact⟨by first|rfl|(simp [errW_none,errW_some] <;> rfl)|(simp only [← hji10];first|rfl|(simp [errW_none,errW_some] <;> rfl))|(simp [*,errW_none,errW_some] <;> rfl),by repeat (first|(with_reducible first|exact HB.out|apply below_alloc|apply pw_below_drewN|apply below_drew1|refine below_set ?_ ei.out)|exact HB.out)⟩
end Go.Proofs.Ytmmjpieafbjggaa.P
end
section
namespace Go.Proofs.Ytmmjpieafbjggaa.P
open Go.RowKit Go.Proofs.YtmmjpieafbjggaaW.PrintWords Go.Proofs.YtmmjpieafbjggaaW.PrintLast Go.Proofs.YtmmjpieafbjggaaW.PrintMore
attribute [local go_sem] max2_int min2_int max_two min_two max_three min_three max_four min_four   -- for this text's walks alone
attribute [local go_sem] x_str_gtr x_str_leq x_str_geq ext_bits ext_frombits ext_neg x_store_float Instr.field asAgg
set_option linter.unusedVariables false
set_option linter.unusedSimpArgs false
def engrosslaw10_Of.f (a0_0:ByteArray) (a0_1:Int) (a0_2:Nat) (a0_3:ByteArray) (a0_4:Int) (a0_5:Int) (a0_6:Nat) (a0_7:ByteArray):Option (ByteArray × Int × Nat × ByteArray × Int × Int × Nat × ByteArray):=some (a0_0,a0_1,a0_2,a0_3,a0_4,a0_5,a0_6,a0_7)
set_option maxHeartbeats 8000000 in
set_option maxRecDepth 100000 in
theorem engrosslaw10_Of.calls (ab:ByteArray) (ac:Int) (ae:Nat) (af:ByteArray) (ag:Int) (ah:Int) (ai:Nat) (aj:ByteArray) (r1:ByteArray) (r2:Int) (r3:Nat) (r4:ByteArray) (r5:Int) (r6:Int) (r7:Nat) (r8:ByteArray) (w:World) (h:engrosslaw10_Of.f ab ac ae af ag ah ai aj=some (r1,r2,r3,r4,r5,r6,r7,r8)) :
  Calls Try.prog 35 #[.agg #[.string ab,.int .i64 ac,.float .f64 ae,.string af,.int .i64 ag,.int .i64 ah,.float .f64 ai,.string aj]] w fun e w'=>e = .returned (.agg #[.string r1,.int .i64 r2,.float .f64 r3,.string r4,.int .i64 r5,.int .i64 r6,.float .f64 r7,.string r8])∧Below w.heap.size w w':=by
 have hu56:=Try.underlying56
 have hu62:=Try.underlying62
 have hu54:=Try.underlying54
 have HB:=aK (Below.refl w.heap.size w)
 have H:(some (ab,ac,ae,af,ag,ah,ai,aj))=some (r1,r2,r3,r4,r5,r6,r7,r8):=h
 clear h
 simp only [Option.some.injEq,Prod.mk.injEq] at H
 obtain⟨rfl,rfl,rfl,rfl,rfl,rfl,rfl,rfl⟩:=H
 go_enter Try.func35,Try.ntmps35
 go_wp2_with (first|((with_reducible refine gate_dst (N:=1) rfl ?_);refine box_event ?hg (N:=1) ?hd (cs:=#[.string ab,.int .i64 ac,.float .f64 ae,.string af,.int .i64 ag,.int .i64 ah,.float .f64 ai,.string aj]) (t:=56) ?hr ?_;(case hd=>rfl);(case hg=>rfl);(case hr=>first|(go_simp;done)|(go_simp;rfl));intro bh hg w2 hbox hb;have aa:=aK (hbox);have bi:=bZ HB hg;have bj:=bZ HB hg;replace HB:=bW HB hb;clear hb hbox hg)|((with_reducible refine gate_dst (N:=2) rfl ?_);refine box_event ?hg (N:=2) ?hd (cs:=#[.string (⟨#[]⟩:ByteArray),.int .i64 0,.float .f64 0,.string (⟨#[]⟩:ByteArray),.int .i64 0,.int .i64 0,.float .f64 0,.string (⟨#[]⟩:ByteArray)]) (t:=62) ?hr ?_;(case hd=>rfl);(case hg=>rfl);(case hr=>first|(go_simp;done)|(go_simp;rfl));intro ao hg w3 hbox hb;have am:=aK (hbox);have bk:=bZ HB hg;have bl:=bZ HB hg;have ak:=bL aa hg;have al:=bG aa hg;replace aa:=bB aa hb;replace HB:=bW HB hb;clear hb hbox hg;have hnb4:=ak.out;have hnc4:=al.out;obtain⟨ap,aq,ar,au,av,aw,ax,ay,az,aA,aC,aD,aE,aG,aH,aI⟩:=bf8 (w:=w3) aa;obtain⟨aJ,aM,aN,aQ,aT,aU,aV,aW,aX,aY,aZ,ba,bb,bc,bf,bg⟩:=bf8 (w:=w3) am))
 refine bodyPost_ret (results_cell_row rfl _ _ ao 62 #[.string ab,.int .i64 ac,.float .f64 ae,.string af,.int .i64 ag,.int .i64 ah,.float .f64 ai,.string aj] (0,0) _ rfl (bR am) Try.underlying62 rfl (by kernel_rfl)) rfl ?_
 exact xB HB
end Go.Proofs.Ytmmjpieafbjggaa.P
end
section
namespace Go.Proofs.Ytmmjpieafbjggaa.P
open Go.RowKit Go.Proofs.YtmmjpieafbjggaaW.PrintWords Go.Proofs.YtmmjpieafbjggaaW.PrintLast Go.Proofs.YtmmjpieafbjggaaW.PrintMore
attribute [local go_sem] max2_int min2_int max_two min_two max_three min_three max_four min_four   -- for this text's walks alone
attribute [local go_sem] x_str_gtr x_str_leq x_str_geq ext_bits ext_frombits ext_neg x_store_float Instr.field asAgg
set_option linter.unusedVariables false
set_option linter.unusedSimpArgs false
def engrosslaw11_Of.l0:Nat→Int→Bool→List (S56)→List ByteArray→List Int→Bool→List (S62)→List ByteArray→List Int→Option (Bool × (List (S62)) × List ByteArray × List Int)
 | 0,_,_,_,_,_,_,_,_,_=>none
 | k+1,x4,x498000,x498001,x498002,x498003,x500000,x500001,x500002,x500003=>if x4<(x498001.length:Int) then (if 0≤x4 then ((engrosslaw10_Of.f ((rd_T56 x498001 x4).f0) ((rd_T56 x498001 x4).f1.f0) ((rd_T56 x498001 x4).f1.f1) ((rd_T56 x498001 x4).f1.f2) ((rd_T56 x498001 x4).f2) ((rd_T56 x498001 x4).f3.f0) ((rd_T56 x498001 x4).f3.f1) ((rd_T56 x498001 x4).f3.f2)).bind fun bt501=>(if x500001.length<1599289640401 then (engrosslaw11_Of.l0 k (wrap64 (x4+1)) x498000 x498001 x498002 x498003 x500000 (x500001++[(⟨bt501.1,(⟨bt501.2.1,bt501.2.2.1,bt501.2.2.2.1⟩:S54),bt501.2.2.2.2.1,(⟨bt501.2.2.2.2.2.1,bt501.2.2.2.2.2.2.1,bt501.2.2.2.2.2.2.2⟩:S54)⟩:S62)]) x500002 x500003) else (none))) else (none)) else (some (x500000,x500001,x500002,x500003))
def engrosslaw11_Of.f (k:Nat) (a0_0:Bool) (l0_1:List (S56)) (l0_2:List ByteArray) (l0_3:List Int):Option (Bool × (List (S62)) × List ByteArray × List Int):=engrosslaw11_Of.l0 k 0 a0_0 l0_1 l0_2 l0_3 a0_0 ([]:List (S62)) l0_2 l0_3
def engrosslaw11_Of.T5:Bool × List (List Nat × List Nat):=(true,[([],[]),([0],[0]),([],[]),([2],[2]),([],[]),([3,4],[3,4]),([5],[5]),([6],[6]),([7],[7]),([1,8,7],[1,8]),([0,1,2,3,4,5,6,7,8,9],[]),([10,9,9,0,1,2,3,4,5,6,7,8,9],[9,10])])
def engrosslaw11_Of.B5:List Nat:=[0,1,0,4,0,28,60,124,252,511,1023,2047]
theorem engrosslaw11_Of.tab5:rtab .any (opsOf Try.f17 5)=engrosslaw11_Of.T5:=by kernel_rfl
theorem engrosslaw11_Of.bits5:waitsOk engrosslaw11_Of.T5.2 engrosslaw11_Of.B5=true:=by kernel_rfl
set_option maxHeartbeats 8000000 in
set_option maxRecDepth 100000 in
theorem engrosslaw11_Of.calls (k:Nat) (al:Bool) (bw:Option Addr) (bv:Nat) (ac:List (S56)) (P0_2_:Nat→Prop) (au:Option Addr) (av:Nat) (af:List ByteArray) (P0_3_:Nat→Prop) (aA:Option Addr) (aC:Nat) (ah:List Int) (r1:Bool) (r2:List (S62)) (r3:List ByteArray) (r4:List Int) (w:World) (bI:Kd.C k56 w bw ac.length ac) (bJ:ac.length≤bv) (ct:Kd.V Kd.string 9 w w.heap.size (fun k_=>P0_2_ k_) (.slice au af.length av) af) (cu:Kd.V (Kd.int .i64) 3 w w.heap.size (fun k_=>P0_3_ k_) (.slice aA ah.length aC) ah) (h:engrosslaw11_Of.f k al ac af ah=some (r1,r2,r3,r4)) :
  Calls Try.prog 17 #[.agg #[.bool al,.slice bw ac.length bv,.slice au af.length av,.slice aA ah.length aC]] w fun e w'=>∃ v1_ v2_ v3_:Value,e = .returned (.agg #[.bool r1,v1_,v2_,v3_])∧Kd.R k62 62 w' w.heap.size (fun k_=>(w.heap.size≤k_)) v1_ r2∧Kd.V Kd.string 9 w' w.heap.size (fun k_=>((P0_2_ k_∨P0_3_ k_)∨w.heap.size≤k_)∧some k_≠(v1_:Value).ownBlock) v2_ r3∧Kd.V (Kd.int .i64) 3 w' w.heap.size (fun k_=>((P0_2_ k_∨P0_3_ k_)∨w.heap.size≤k_)∧some k_≠(v1_:Value).ownBlock) v3_ r4∧Below w.heap.size w w':=by
 have hu26:=Try.underlying26
 have hu36:=Try.underlying36
 have hu56:=Try.underlying56
 have cv:=aK bI
 have dn:=aK bJ
 clear bI bJ
 have aE:=aK (show Kd.V Kd.string 9 w w.heap.size (fun k_=>((P0_2_ k_∨P0_3_ k_)∨w.heap.size≤k_)) (.slice au af.length av) af from Kd.V_mono ct (fun k_ hk=>.inl (.inl hk)))
 have aG:=aK (show Kd.V (Kd.int .i64) 3 w w.heap.size (fun k_=>((P0_2_ k_∨P0_3_ k_)∨w.heap.size≤k_)) (.slice aA ah.length aC) ah from Kd.V_mono cu (fun k_ hk=>.inl (.inr hk)))
 have HB:=aK (Below.refl w.heap.size w)
 have H:(engrosslaw11_Of.l0 k 0 al ac af ah al ([]:List (S62)) af ah)=some (r1,r2,r3,r4):=h
 clear h
 have H':=aK H
 clear H
 go_enter Try.func17,Try.ntmps17
 go_wp2_with (first|((with_reducible refine gate_dst (N:=1) rfl ?_);refine box_event ?hg (N:=1) ?hd (cs:=#[.bool al,.slice bw ac.length bv,.slice au af.length av,.slice aA ah.length aC]) (t:=26) ?hr ?_;(case hd=>rfl);(case hg=>rfl);(case hr=>first|(go_simp;done)|(go_simp;rfl));intro aD hg w2 hbox hb;have ae:=aK (hbox);have dp:=bZ HB hg;have cw:=bZ HB hg;replace aE:=aK (Kd.V_below (Kd.V_elderB (by (with_reducible repeat (first|apply Kd.V_alloc|apply Kd.V_drewN|apply Kd.V_drew));exact aE.out) aD (Nat.le_of_eq hg.symm)) hb);replace aG:=aK (Kd.V_below (Kd.V_elderB (by (with_reducible repeat (first|apply Kd.V_alloc|apply Kd.V_drewN|apply Kd.V_drew));exact aG.out) aD (Nat.le_of_eq hg.symm)) hb);replace HB:=bW HB hb;clear hb hbox hg)|((with_reducible refine gate_dst (N:=2) rfl ?_);refine box_event ?hg (N:=2) ?hd (cs:=#[.bool false,.slice none 0 0,.slice none 0 0,.slice none 0 0]) (t:=36) ?hr ?_;(case hd=>rfl);(case hg=>rfl);(case hr=>first|(go_simp;done)|(go_simp;rfl));intro ag hg w3 hbox hb;have am:=aK (hbox);have dq:=bZ HB hg;have cx:=bZ HB hg;have aW:=bL ae hg;have aX:=bG ae hg;replace aE:=aK (Kd.V_below (Kd.V_elderB (by (with_reducible repeat (first|apply Kd.V_alloc|apply Kd.V_drewN|apply Kd.V_drew));exact aE.out) ag (Nat.le_of_eq hg.symm)) hb);replace aG:=aK (Kd.V_below (Kd.V_elderB (by (with_reducible repeat (first|apply Kd.V_alloc|apply Kd.V_drewN|apply Kd.V_drew));exact aG.out) ag (Nat.le_of_eq hg.symm)) hb);replace ae:=bB ae hb;replace HB:=bW HB hb;clear hb hbox hg;have hnb4:=aW.out;have hnc4:=aX.out;obtain⟨bN,bO,bU,bX,bY,b8,b9,ca⟩:=bf4 (w:=w3) ae)|((with_reducible refine gate_dst (N:=3) rfl ?_);refine box_event ?hg (N:=3) ?hd (cs:=#[.bool false,.slice none 0 0,.slice none 0 0,.slice none 0 0]) (t:=36) ?hr ?_;(case hd=>rfl);(case hg=>rfl);(case hr=>first|(go_simp;done)|(go_simp;rfl));intro aa hg w6 hbox hb;have ai:=aK (hbox);have dr:=bZ HB hg;have cz:=bZ HB hg;have ao:=bL ae hg;have aH:=bG ae hg;have ax:=bL am hg;have aY:=bG am hg;replace aE:=aK (Kd.V_below (Kd.V_elderB (by (with_reducible repeat (first|apply Kd.V_alloc|apply Kd.V_drewN|apply Kd.V_drew));exact aE.out) aa (Nat.le_of_eq hg.symm)) hb);replace aG:=aK (Kd.V_below (Kd.V_elderB (by (with_reducible repeat (first|apply Kd.V_alloc|apply Kd.V_drewN|apply Kd.V_drew));exact aG.out) aa (Nat.le_of_eq hg.symm)) hb);replace ae:=bB ae hb;replace am:=bB am hb;replace HB:=bW HB hb;clear hb hbox hg;have hnb7:=aH.out;have hnc7:=ao.out;have hnb8:=aY.out;have hnc8:=ax.out;obtain⟨cb,cd,cf,cg,ch,cj,cm,cn⟩:=bf4 (w:=w6) ai))
 go_loopg [4] k (fun kq v4 w'=>∃ (ab:Int) (aj:List (S62)) (aw:Value),v4 = .int .i64 ab∧Aside0 (engrosslaw11_Of.l0 kq ab al ac af ah al aj af ah=some (r1,r2,r3,r4))∧Aside0 (kq≤k)∧Aside0 (Kd.V Kd.string 9 w' w.heap.size (fun k_=>((P0_2_ k_∨P0_3_ k_)∨w.heap.size≤k_)∧some k_≠(aw:Value).ownBlock∧k_≠aD∧k_≠ag∧k_≠aa) (.slice au af.length av) af)∧Aside0 (Kd.V (Kd.int .i64) 3 w' w.heap.size (fun k_=>((P0_2_ k_∨P0_3_ k_)∨w.heap.size≤k_)∧some k_≠(aw:Value).ownBlock∧k_≠aD∧k_≠ag∧k_≠aa) (.slice aA ah.length aC) ah)∧Aside0 (Kd.R k62 62 w' w.heap.size (fun k_=>(w.heap.size≤k_)) aw aj)∧Aside0 (Kd.V Kd.string 9 w' w.heap.size (fun k_=>((P0_2_ k_∨P0_3_ k_)∨w.heap.size≤k_)∧some k_≠(aw:Value).ownBlock∧k_≠aD∧k_≠ag∧k_≠aa) (.slice au af.length av) af)∧Aside0 (Kd.V (Kd.int .i64) 3 w' w.heap.size (fun k_=>((P0_2_ k_∨P0_3_ k_)∨w.heap.size≤k_)∧some k_≠(aw:Value).ownBlock∧k_≠aD∧k_≠ag∧k_≠aa) (.slice aA ah.length aC) ah)∧Aside0 (w'.heap[aD]? = some (.cells #[.bool al,(.slice bw ac.length bv),(.slice au af.length av),(.slice aA ah.length aC)] 26 (0,0)))∧Aside0 (w'.heap[ag]? = some (.cells #[.bool false,(.slice none 0 0),(.slice none 0 0),(.slice none 0 0)] 36 (0,0)))∧Aside0 (w'.heap[aa]? = some (.cells #[.bool al,aw,(.slice au af.length av),(.slice aA ah.length aC)] 36 (0,0)))∧Aside0 (Below w.heap.size w w'))
 case atStart=>exact⟨(0),(([]:List (S62))),(.slice none 0 0),(by first|rfl|(simp;done)|(simp [*];done)),H',⟨Nat.le_refl _⟩,⟨by (with_reducible repeat (first|apply Kd.V_alloc|apply Kd.V_drewN|apply Kd.V_drew));exact Kd.V_mono (Kd.V_far (p:=⟨aa,3,none⟩) (Kd.V_far (p:=⟨aa,2,none⟩) (Kd.V_far (p:=⟨aa,1,none⟩) (Kd.V_far (p:=⟨aa,0,none⟩) (Kd.V_mono aE.out (fun k_ hk=>(⟨hk,hk.2⟩:_∧k_≠aa))) (fun _ hk=>hk.2) (.bool al)) (fun _ hk=>hk.2) (.slice none 0 0)) (fun _ hk=>hk.2) (.slice au af.length av)) (fun _ hk=>hk.2) (.slice aA ah.length aC)) (fun _ hk=>⟨hk.1.1.1.1,⟨(by simp [Value.ownBlock]),⟨hk.1.1.1.2,⟨hk.1.1.2,hk.1.2⟩⟩⟩⟩)⟩,⟨by (with_reducible repeat (first|apply Kd.V_alloc|apply Kd.V_drewN|apply Kd.V_drew));exact Kd.V_mono (Kd.V_far (p:=⟨aa,3,none⟩) (Kd.V_far (p:=⟨aa,2,none⟩) (Kd.V_far (p:=⟨aa,1,none⟩) (Kd.V_far (p:=⟨aa,0,none⟩) (Kd.V_mono aG.out (fun k_ hk=>(⟨hk,hk.2⟩:_∧k_≠aa))) (fun _ hk=>hk.2) (.bool al)) (fun _ hk=>hk.2) (.slice none 0 0)) (fun _ hk=>hk.2) (.slice au af.length av)) (fun _ hk=>hk.2) (.slice aA ah.length aC)) (fun _ hk=>⟨hk.1.1.1.1,⟨(by simp [Value.ownBlock]),⟨hk.1.1.1.2,⟨hk.1.1.2,hk.1.2⟩⟩⟩⟩)⟩,⟨by first|exact Kd.R_nil _ _ _ _ _|exact Kd.N_nil _ _ _ _ _|exact Kd.V_nil _ _ _ _ _|exact Kd.Q_nil _ _ _ _ _|exact Kd.S_nil _ _ _ _ _⟩,⟨by (with_reducible repeat (first|apply Kd.V_alloc|apply Kd.V_drewN|apply Kd.V_drew));exact Kd.V_mono (Kd.V_far (p:=⟨aa,3,none⟩) (Kd.V_far (p:=⟨aa,2,none⟩) (Kd.V_far (p:=⟨aa,1,none⟩) (Kd.V_far (p:=⟨aa,0,none⟩) (Kd.V_mono aE.out (fun k_ hk=>(⟨hk,hk.2⟩:_∧k_≠aa))) (fun _ hk=>hk.2) (.bool al)) (fun _ hk=>hk.2) (.slice none 0 0)) (fun _ hk=>hk.2) (.slice au af.length av)) (fun _ hk=>hk.2) (.slice aA ah.length aC)) (fun _ hk=>⟨hk.1.1.1.1,⟨(by simp [Value.ownBlock]),⟨hk.1.1.1.2,⟨hk.1.1.2,hk.1.2⟩⟩⟩⟩)⟩,⟨by (with_reducible repeat (first|apply Kd.V_alloc|apply Kd.V_drewN|apply Kd.V_drew));exact Kd.V_mono (Kd.V_far (p:=⟨aa,3,none⟩) (Kd.V_far (p:=⟨aa,2,none⟩) (Kd.V_far (p:=⟨aa,1,none⟩) (Kd.V_far (p:=⟨aa,0,none⟩) (Kd.V_mono aG.out (fun k_ hk=>(⟨hk,hk.2⟩:_∧k_≠aa))) (fun _ hk=>hk.2) (.bool al)) (fun _ hk=>hk.2) (.slice none 0 0)) (fun _ hk=>hk.2) (.slice au af.length av)) (fun _ hk=>hk.2) (.slice aA ah.length aC)) (fun _ hk=>⟨hk.1.1.1.1,⟨(by simp [Value.ownBlock]),⟨hk.1.1.1.2,⟨hk.1.1.2,hk.1.2⟩⟩⟩⟩)⟩,⟨by (with_reducible repeat (first|refine blk_drewN ?_ _|refine blk_drew ?_|refine blk_alloc ?_ _));refine blk_far ?_ ao.out _;(with_reducible repeat (first|refine blk_drewN ?_ _|refine blk_drew ?_|refine blk_alloc ?_ _));refine blk_far ?_ ao.out _;(with_reducible repeat (first|refine blk_drewN ?_ _|refine blk_drew ?_|refine blk_alloc ?_ _));refine blk_far ?_ ao.out _;(with_reducible repeat (first|refine blk_drewN ?_ _|refine blk_drew ?_|refine blk_alloc ?_ _));refine blk_far ?_ ao.out _;(with_reducible repeat (first|refine blk_drewN ?_ _|refine blk_drew ?_|refine blk_alloc ?_ _));exact ae.out⟩,⟨by (with_reducible repeat (first|refine blk_drewN ?_ _|refine blk_drew ?_|refine blk_alloc ?_ _));refine blk_far ?_ ax.out _;(with_reducible repeat (first|refine blk_drewN ?_ _|refine blk_drew ?_|refine blk_alloc ?_ _));refine blk_far ?_ ax.out _;(with_reducible repeat (first|refine blk_drewN ?_ _|refine blk_drew ?_|refine blk_alloc ?_ _));refine blk_far ?_ ax.out _;(with_reducible repeat (first|refine blk_drewN ?_ _|refine blk_drew ?_|refine blk_alloc ?_ _));refine blk_far ?_ ax.out _;(with_reducible repeat (first|refine blk_drewN ?_ _|refine blk_drew ?_|refine blk_alloc ?_ _));exact am.out⟩,⟨by (with_reducible repeat (first|refine blk_drewN ?_ _|refine blk_drew ?_|refine blk_alloc ?_ _));refine blk_put (cs:=#[.bool al,.slice none 0 0,.slice au af.length av,.slice none 0 0]) ?_ 3 _ rfl;(with_reducible repeat (first|refine blk_drewN ?_ _|refine blk_drew ?_|refine blk_alloc ?_ _));refine blk_put (cs:=#[.bool al,.slice none 0 0,.slice none 0 0,.slice none 0 0]) ?_ 2 _ rfl;(with_reducible repeat (first|refine blk_drewN ?_ _|refine blk_drew ?_|refine blk_alloc ?_ _));refine blk_put (cs:=#[.bool al,.slice none 0 0,.slice none 0 0,.slice none 0 0]) ?_ 1 _ rfl;(with_reducible repeat (first|refine blk_drewN ?_ _|refine blk_drew ?_|refine blk_alloc ?_ _));refine blk_put (cs:=#[.bool false,.slice none 0 0,.slice none 0 0,.slice none 0 0]) ?_ 0 _ rfl;(with_reducible repeat (first|refine blk_drewN ?_ _|refine blk_drew ?_|refine blk_alloc ?_ _));exact ai.out⟩,bV HB⟩
 case round =>
  clear H'
  try clear c1
  try clear p2
  try clear c4
  try clear c7
  try clear c8
  try clear bN bO bU bX
  try clear cb cd cf cg
  try clear bY b8 b9 ca
  try clear ch cj cm cn
  obtain⟨ab,aj,aw,rfl,HA,HK1,ay,az,ak,ap,aq,ae,am,ai,HB⟩:=hrel
  cases gk with
  | zero=>exact absurd HA.out (by simp [engrosslaw11_Of.l0])
  | succ k1 =>
   have H:=HA.out
   clear HA
   simp only [engrosslaw11_Of.l0] at H
   by_cases c10:ab<(ac.length:Int)
   rotate_left
   ·rw [if_neg c10] at H
    have cA:decide (ab<(ac.length:Int))=false:=decide_eq_false c10
    clear c10
    simp only [Option.some.injEq,Prod.mk.injEq] at H
    obtain⟨rfl,rfl,rfl,rfl⟩:=H
    have hnb22:=aW.out
    have hnc22:=aX.out
    have hnb23:=ao.out
    have hnc23:=aH.out
    obtain⟨cC,cD,cE,cF,cG,cH,cI,cJ⟩:=bf4 (w:=wr) ae
    have hnb25:=aY.out
    have hnc25:=ax.out
    obtain⟨cK,cL,cM,cN,cO,cP,cQ,cR⟩:=bf4 (w:=wr) ai
    obtain⟨cS,cT,cU,cV,cX,cY,cZ,da⟩:=bf4 (w:=wr) am
    obtain⟨bx,bA,cB⟩:=Kd.R_slice ak.out
    subst cB
    go_wp2
    refine bodyPost_ret (results_cell_row rfl _ _ ag 36 #[.bool al,.slice bx aj.length bA,.slice au af.length av,.slice aA ah.length aC] (0,0) _ rfl (bR am) Try.underlying36 rfl (by kernel_rfl)) rfl ?_
    exact⟨_,_,_,by first|rfl|(simp [errW_none,errW_some] <;> rfl)|(simp [*,errW_none,errW_some] <;> rfl),by (with_reducible repeat (first|apply Kd.R_alloc|apply Kd.R_drewN|apply Kd.R_drew));exact Kd.R_mono (Kd.R_far (p:=⟨ag,3,none⟩) (Kd.R_far (p:=⟨ag,2,none⟩) (Kd.R_far (p:=⟨ag,1,none⟩) (Kd.R_far (p:=⟨ag,0,none⟩) (Kd.R_types ak.out am.out (by decide)) (fun _ hk=>hk.2) (.bool al)) (fun _ hk=>hk.2) (.slice bx aj.length bA)) (fun _ hk=>hk.2) (.slice au af.length av)) (fun _ hk=>hk.2) (.slice aA ah.length aC)) (fun _ hk=>hk.1),by (with_reducible repeat (first|apply Kd.V_alloc|apply Kd.V_drewN|apply Kd.V_drew));exact Kd.V_mono (Kd.V_far (p:=⟨ag,3,none⟩) (Kd.V_far (p:=⟨ag,2,none⟩) (Kd.V_far (p:=⟨ag,1,none⟩) (Kd.V_far (p:=⟨ag,0,none⟩) (Kd.V_mono ap.out (fun k_ hk=>(⟨hk,hk.2.2.2.1⟩:_∧k_≠ag))) (fun _ hk=>hk.2) (.bool al)) (fun _ hk=>hk.2) (.slice bx aj.length bA)) (fun _ hk=>hk.2) (.slice au af.length av)) (fun _ hk=>hk.2) (.slice aA ah.length aC)) (fun _ hk=>⟨hk.1.1,hk.1.2.1⟩),by (with_reducible repeat (first|apply Kd.V_alloc|apply Kd.V_drewN|apply Kd.V_drew));exact Kd.V_mono (Kd.V_far (p:=⟨ag,3,none⟩) (Kd.V_far (p:=⟨ag,2,none⟩) (Kd.V_far (p:=⟨ag,1,none⟩) (Kd.V_far (p:=⟨ag,0,none⟩) (Kd.V_mono aq.out (fun k_ hk=>(⟨hk,hk.2.2.2.1⟩:_∧k_≠ag))) (fun _ hk=>hk.2) (.bool al)) (fun _ hk=>hk.2) (.slice bx aj.length bA)) (fun _ hk=>hk.2) (.slice au af.length av)) (fun _ hk=>hk.2) (.slice aA ah.length aC)) (fun _ hk=>⟨hk.1.1,hk.1.2.1⟩),by repeat (first|(with_reducible first|exact HB.out|apply below_alloc|apply pw_below_drewN|apply below_drew1|refine below_set ?_ cw.out|refine below_set ?_ cx.out|refine below_set ?_ cz.out)|exact HB.out)⟩
   rw [if_pos c10] at H
   have cA:decide (ab<(ac.length:Int))=true:=decide_eq_true c10
   clear c10
   by_cases c11:0≤ab
   rotate_left
   ·rw [if_neg c11] at H
    exact absurd H (by simp)
   rw [if_pos c11] at H
   have dt:decide (0≤ab)=true:=decide_eq_true c11
   clear c11
   replace H:=oS H
   obtain⟨⟨bk,bl,bm,bn,bo,bp,bq,br⟩,cp,H⟩:=H
   replace H:(if aj.length<1599289640401 then (engrosslaw11_Of.l0 k1 (wrap64 (ab+1)) al ac af ah al (aj++[(⟨bk,(⟨bl,bm,bn⟩:S54),bo,(⟨bp,bq,br⟩:S54)⟩:S62)]) af ah) else (none))=some (r1,r2,r3,r4):=H
   have A12:=aK cp
   clear cp
   by_cases c13:aj.length<1599289640401
   rotate_left
   ·rw [if_neg c13] at H
    exact absurd H (by simp)
   rw [if_pos c13] at H
   have LMc13:=aK c13
   clear c13
   obtain⟨aZ,hy509⟩:∃ y_:List (S62),y_=(aj++[(⟨bk,(⟨bl,bm,bn⟩:S54),bo,(⟨bp,bq,br⟩:S54)⟩:S62)]):=⟨_,rfl⟩
   replace H:(engrosslaw11_Of.l0 k1 (wrap64 (ab+1)) al ac af ah al aZ af ah)=some (r1,r2,r3,r4):=by first|(rw [hy509];with_reducible exact H)|(have H2_:=(Option.bind_some _ _).symm.trans H;rw [hy509];with_reducible exact H2_)|(have H2_:=(Option.bind_some _ _).symm.trans H;with_reducible exact H2_)|with_reducible exact H|(rw [hy509];exact H)|exact H
   have Ny509:=aK hy509
   clear hy509
   have H':=aK H
   clear H
   have hnb14:=aW.out
   have hnc14:=aX.out
   have hnb15:=ao.out
   have hnc15:=aH.out
   obtain⟨db,dc,dd,de,df,dg,dh,di⟩:=bf4 (w:=wr) ae
   try go_wp2
   replace ay:=aK (Kd.V_drew ay.out)
   replace az:=aK (Kd.V_drew az.out)
   replace ak:=aK (Kd.R_drew ak.out)
   replace ap:=aK (Kd.V_drew ap.out)
   replace aq:=aK (Kd.V_drew aq.out)
   replace ae:=aK (blk_drew ae.out)
   replace am:=aK (blk_drew am.out)
   replace ai:=aK (blk_drew ai.out)
   replace HB:=aK (below_drew1 HB.out)
   have bD:0≤(ab:Int):=dA
   have bF:ab<(ac.length:Int):=dA
   obtain⟨ar,e500,ba,bb,bc,bf,bg,bh,bi,bj⟩:=at_T56 cv.out ab bD bF
   have aI:=bj
   have aJ:=bi
   have aM:=bh
   have aN:=bg
   have aQ:=bf
   have aT:=bc
   have aU:=bb
   have aV:=ba
   cases e500
   replace ba:=cW HB ba
   replace bb:=cW HB bb
   replace bc:=cW HB bc
   replace bf:=cW HB bf
   replace bg:=cW HB bg
   replace bh:=cW HB bh
   replace bi:=cW HB bi
   replace bj:=cW HB bj
   replace bD:=eq_true bD
   replace bF:=eq_true bF
   refine start_ (n:=12) (S:=fun w'=>w'.cell? ⟨aa,0,none⟩=some (.bool al)∧w'.cell? ⟨aa,1,none⟩=some (aw)∧w'.cell? ⟨aa,2,none⟩=some (.slice au af.length av)∧w'.cell? ⟨aa,3,none⟩=some (.slice aA ah.length aC)∧w'.cell? ⟨aD,0,none⟩=some (.bool al)∧w'.cell? ⟨aD,1,none⟩=some (.slice (some ar) ac.length bv)∧w'.cell? ⟨aD,2,none⟩=some (.slice au af.length av)∧w'.cell? ⟨aD,3,none⟩=some (.slice aA ah.length aC)∧w'.cell? (ar.add ((ab).toNat * 8))=some (.string ((rd_T56 ac ab).f0))∧w'.cell? ⟨(ar.add ((ab).toNat * 8)).block,(ar.add ((ab).toNat * 8)).off+1,none⟩=some (.int .i64 ((rd_T56 ac ab).f1.f0))∧w'.cell? ⟨(ar.add ((ab).toNat * 8)).block,(ar.add ((ab).toNat * 8)).off+2,none⟩=some (.float .f64 ((rd_T56 ac ab).f1.f1))∧w'.cell? ⟨(ar.add ((ab).toNat * 8)).block,(ar.add ((ab).toNat * 8)).off+3,none⟩=some (.string ((rd_T56 ac ab).f1.f2))∧w'.cell? ⟨(ar.add ((ab).toNat * 8)).block,(ar.add ((ab).toNat * 8)).off+4,none⟩=some (.int .i64 ((rd_T56 ac ab).f2))∧w'.cell? ⟨(ar.add ((ab).toNat * 8)).block,(ar.add ((ab).toNat * 8)).off+5,none⟩=some (.int .i64 ((rd_T56 ac ab).f3.f0))∧w'.cell? ⟨(ar.add ((ab).toNat * 8)).block,(ar.add ((ab).toNat * 8)).off+6,none⟩=some (.float .f64 ((rd_T56 ac ab).f3.f1))∧w'.cell? ⟨(ar.add ((ab).toNat * 8)).block,(ar.add ((ab).toNat * 8)).off+7,none⟩=some (.string ((rd_T56 ac ab).f3.f2))) (ds:=[11]) #[false,false,false,false,false,false,false,false,false,false,false,false] (by kernel_rfl) rfl rfl (bn4 ai (bn4 ae ⟨(cW HB aV),(cW HB aU),(cW HB aT),(cW HB aQ),(cW HB aN),(cW HB aM),(cW HB aJ),(cW HB aI)⟩)) (fun hHeld=>?_);refine with_tabW engrosslaw11_Of.tab5 engrosslaw11_Of.bits5 (fun HT_ HW_=>?_)
   generalize wr.drew=w17 at ay az ak ap aq ae am ai HB ba bb bc bf bg bh bi bj hHeld ⊢
   refine pA 0 19 HT_ ?_
   refine pA 2 21 HT_ ?_
   refine pA 4 23 HT_ ?_
   refine tA 1 20 HT_ HW_ hHeld ?_ (hy:=by rintro w' ⟨s0,s1,s2,s3,s4,s5,s6,s7,s8,s9,s10,s11,s12,s13,s14,s15⟩;go_simp;with_reducible rfl)
   refine tA 3 22 HT_ HW_ hHeld ?_ (hy:=by rintro w' ⟨s0,s1,s2,s3,s4,s5,s6,s7,s8,s9,s10,s11,s12,s13,s14,s15⟩;go_simp;with_reducible rfl)
   refine pA 5 24 HT_ ?_
   refine tA 6 25 HT_ HW_ hHeld ?_ (hy:=by rintro w' ⟨s0,s1,s2,s3,s4,s5,s6,s7,s8,s9,s10,s11,s12,s13,s14,s15⟩;go_simp;with_reducible rfl)
   refine oA 7 (some 26) HT_ (fun K hK=>?_)
   refine goes_ Try.func35 (by kernel_rfl) rfl #[.agg #[.string ((rd_T56 ac ab).f0),.int .i64 ((rd_T56 ac ab).f1.f0),.float .f64 ((rd_T56 ac ab).f1.f1),.string ((rd_T56 ac ab).f1.f2),.int .i64 ((rd_T56 ac ab).f2),.int .i64 ((rd_T56 ac ab).f3.f0),.float .f64 ((rd_T56 ac ab).f3.f1),.string ((rd_T56 ac ab).f3.f2)]] (by rfl) rfl rfl (by (try simp only [List.map_toArray,List.map_cons,List.map_nil]);first|done|rfl|(simp only [List.length_drop,List.length_take];rfl)) ?_
   with_reducible refine (engrosslaw10_Of.calls ((rd_T56 ac ab).f0) ((rd_T56 ac ab).f1.f0) ((rd_T56 ac ab).f1.f1) ((rd_T56 ac ab).f1.f2) ((rd_T56 ac ab).f2) ((rd_T56 ac ab).f3.f0) ((rd_T56 ac ab).f3.f1) ((rd_T56 ac ab).f3.f2) bk bl bm bn bo bp bq br _ A12.out).mono ?_
   rintro e w18 ⟨rfl,hb⟩
   refine⟨_,rfl,?_⟩
   replace ay:=vB ay hb
   replace az:=vB az hb
   replace ak:=rB ak hb
   replace ap:=vB ap hb
   replace aq:=vB aq hb
   replace ae:=bB ae hb
   replace am:=bB am hb
   replace ai:=bB ai hb
   replace HB:=bW HB hb
   (try clear hb)
   (try clear hb2)
   (try clear hk)
   (try clear hi)
   refine hK.out _ _ (bn4 ai (bn4 ae ⟨(cW HB aV),(cW HB aU),(cW HB aT),(cW HB aQ),(cW HB aN),(cW HB aM),(cW HB aJ),(cW HB aI)⟩)) (fun hHeld=>?_)
   clear hK K
   refine norm_ (a':=?_) ?_ ?_
   rotate_left
   ·show Act.put _ (some 26) _=_
    simp only [Act.put,List.setIfInBounds_toArray,List.set_cons_zero,List.set_cons_succ,i64_w,i32_w]
    rfl
   refine oA 8 (some 27) HT_ (fun K hK=>?_)
   refine value_ (w1:=?_) (v:=?_) (by rfl) rfl ?_ ?_
   rotate_left 2
   ·go_simp
    constructor
    ·rfl
    ·rfl
   refine hK.out _ _ ⟨(blk_cell (blk_alloc ai.out _) 0).trans rfl,(blk_cell (blk_alloc ai.out _) 1).trans rfl,(blk_cell (blk_alloc ai.out _) 2).trans rfl,(blk_cell (blk_alloc ai.out _) 3).trans rfl,(blk_cell (blk_alloc ae.out _) 0).trans rfl,(blk_cell (blk_alloc ae.out _) 1).trans rfl,(blk_cell (blk_alloc ae.out _) 2).trans rfl,(blk_cell (blk_alloc ae.out _) 3).trans rfl,(World.cell?_alloc_lt _ _ _ (World.block_lt_of_cell? _ _ ((cW HB aV)))).trans ((cW HB aV)),(World.cell?_alloc_lt _ _ _ (World.block_lt_of_cell? _ _ ((cW HB aU)))).trans ((cW HB aU)),(World.cell?_alloc_lt _ _ _ (World.block_lt_of_cell? _ _ ((cW HB aT)))).trans ((cW HB aT)),(World.cell?_alloc_lt _ _ _ (World.block_lt_of_cell? _ _ ((cW HB aQ)))).trans ((cW HB aQ)),(World.cell?_alloc_lt _ _ _ (World.block_lt_of_cell? _ _ ((cW HB aN)))).trans ((cW HB aN)),(World.cell?_alloc_lt _ _ _ (World.block_lt_of_cell? _ _ ((cW HB aM)))).trans ((cW HB aM)),(World.cell?_alloc_lt _ _ _ (World.block_lt_of_cell? _ _ ((cW HB aJ)))).trans ((cW HB aJ)),(World.cell?_alloc_lt _ _ _ (World.block_lt_of_cell? _ _ ((cW HB aI)))).trans ((cW HB aI))⟩ (fun hHeld=>?_)
   clear hK K
   refine norm_ (a':=?_) ?_ ?_
   rotate_left
   ·show Act.put _ (some 27) _=_
    simp only [Act.put,List.setIfInBounds_toArray,List.set_cons_zero,List.set_cons_succ,i64_w,i32_w]
    rfl
   refine oA 9 (some 28) HT_ (fun K hK=>?_)
   refine Kd.R_append_step k62 (w0:=w) w.heap.size (by rfl) (.tmp 20) (.tmp 27) 34 62 (.agg #[(.string ⟨#[]⟩),(.int .i64 0),(.float .f64 0),(.string ⟨#[]⟩),(.int .i64 0),(.int .i64 0),(.float .f64 0),(.string ⟨#[]⟩)]) 88 rfl Try.underlying34 info62 rfl (by decide) (by omega) aw aj (⟨bk,(⟨bl,bm,bn⟩:S54),bo,(⟨bp,bq,br⟩:S54)⟩:S62) [.string bk,.int .i64 bl,.float .f64 bm,.string bn,.int .i64 bo,.int .i64 bp,.float .f64 bq,.string br] (fun k_=>(w.heap.size≤k_)) (fun _=>False) rfl rfl ?aP (fun _ hk=>hk.elim) ?aF ?aO ?aB ?aS ?aL ?_
   (case aP=>exact k62_mkM _ _ _ (⟨bk,(⟨bl,bm,bn⟩:S54),bo,(⟨bp,bq,br⟩:S54)⟩:S62))
   (case aB=>exact (bC HB))
   (case aF=>exact (fun k_ hk=>(Nat.le_trans (below_size (bC HB)) hk)))
   (case aO=>exact (by (with_reducible repeat (first|apply Kd.R_alloc|apply Kd.R_drewN|apply Kd.R_drew));exact ak.out))
   (case aS=>exact (below_size (bC HB)))
   (case aL=>have:=LMc13.out;omega)
   intro dv w19 ho hb hg hat
   rw [← Ny509.out] at ho
   have bM:=aK (ho)
   replace ay:=aK (Kd.V_afterv (ok:=(fun k_=>((P0_2_ k_∨P0_3_ k_)∨w.heap.size≤k_)∧k_≠aD∧k_≠ag∧k_≠aa)) (by (with_reducible repeat (first|apply Kd.V_alloc|apply Kd.V_drewN|apply Kd.V_drew));exact Kd.V_mono ay.out (fun _ hk=>⟨⟨hk.1,⟨hk.2.2.1,⟨hk.2.2.2.1,hk.2.2.2.2⟩⟩⟩,hk.2.1⟩)) hg hat)
   replace az:=aK (Kd.V_afterv (ok:=(fun k_=>((P0_2_ k_∨P0_3_ k_)∨w.heap.size≤k_)∧k_≠aD∧k_≠ag∧k_≠aa)) (by (with_reducible repeat (first|apply Kd.V_alloc|apply Kd.V_drewN|apply Kd.V_drew));exact Kd.V_mono az.out (fun _ hk=>⟨⟨hk.1,⟨hk.2.2.1,⟨hk.2.2.2.1,hk.2.2.2.2⟩⟩⟩,hk.2.1⟩)) hg hat)
   replace ap:=aK (Kd.V_afterv (ok:=(fun k_=>((P0_2_ k_∨P0_3_ k_)∨w.heap.size≤k_)∧k_≠aD∧k_≠ag∧k_≠aa)) (by (with_reducible repeat (first|apply Kd.V_alloc|apply Kd.V_drewN|apply Kd.V_drew));exact Kd.V_mono ap.out (fun _ hk=>⟨⟨hk.1,⟨hk.2.2.1,⟨hk.2.2.2.1,hk.2.2.2.2⟩⟩⟩,hk.2.1⟩)) hg hat)
   replace aq:=aK (Kd.V_afterv (ok:=(fun k_=>((P0_2_ k_∨P0_3_ k_)∨w.heap.size≤k_)∧k_≠aD∧k_≠ag∧k_≠aa)) (by (with_reducible repeat (first|apply Kd.V_alloc|apply Kd.V_drewN|apply Kd.V_drew));exact Kd.V_mono aq.out (fun _ hk=>⟨⟨hk.1,⟨hk.2.2.1,⟨hk.2.2.2.1,hk.2.2.2.2⟩⟩⟩,hk.2.1⟩)) hg hat)
   replace ae:=aK (blk_grown (bQ ae) hg (Kd.R_ne ak.out ae.out (by decide)))
   replace am:=aK (blk_grown (bQ am) hg (Kd.R_ne ak.out am.out (by decide)))
   replace ai:=aK (blk_grown (bQ ai) hg (Kd.R_ne ak.out ai.out (by decide)))
   replace HB:=aK (hb)
   clear ak
   clear ho hb hg hat
   obtain⟨bs,bu,cq⟩:=Kd.R_slice bM.out
   (first|subst cq|(injection cq with f1_ f2_ f3_;have f4_:=f1_.symm;have f5_:=f3_.symm;clear f1_ f2_ f3_;subst f4_;subst f5_))
   refine hK.out _ _ (bn4 ai (bn4 ae ⟨(cW HB aV),(cW HB aU),(cW HB aT),(cW HB aQ),(cW HB aN),(cW HB aM),(cW HB aJ),(cW HB aI)⟩)) (fun hHeld=>?_)
   clear hK K
   refine norm_ (a':=?_) ?_ ?_
   rotate_left
   ·show Act.put _ (some 28) _=_
    simp only [Act.put,List.setIfInBounds_toArray,List.set_cons_zero,List.set_cons_succ,i64_w,i32_w]
    rfl
   refine pA 10 29 HT_ ?_
   refine last_ (i:=11) (N:=none) #[true,true,true,true,true,true,true,true,true,true,true,true] rfl rfl (one_of HT_.out (by kernel_rfl)) (by decide) (fun K hK=>?_)
   have dw:w19.cell? ⟨aa,1,none⟩=some (aw):=(blk_cell ai.out 1).trans rfl
   have du:=blk_frozen ai.out 1
   have dj:=ao.out
   have dk:=ax.out
   have dl:=aH.out
   have dm:=aY.out
   with_reducible refine skip_ (w1:=?_) (by with_unfolding_all rfl) (by with_unfolding_all rfl) ?_ ?_
   rotate_left
   ·go_simp
    rfl
   refine hK.out _ _ ?_
   clear hK K
   refine done_ (done_of HT_.out (by kernel_rfl)) ?_
   try go_wp2
   go_roundg k1
   case measure=>have:=HK1.out;omega
   case rel=>exact⟨(wrap64 (ab+1)),(aZ),(.slice bs aZ.length bu),(by first|rfl|(simp;done)|(simp [*];done)),H',⟨by have:=HK1.out;omega⟩,⟨by (with_reducible repeat (first|apply Kd.V_alloc|apply Kd.V_drewN|apply Kd.V_drew));exact Kd.V_mono (Kd.V_far (p:=⟨aa,1,none⟩) (Kd.V_mono ay.out (fun k_ hk=>(⟨hk,hk.1.2.2.2⟩:_∧k_≠aa))) (fun _ hk=>hk.2) (.slice bs aZ.length bu)) (fun _ hk=>⟨hk.1.1.1,⟨hk.1.2,⟨hk.1.1.2.1,⟨hk.1.1.2.2.1,hk.1.1.2.2.2⟩⟩⟩⟩)⟩,⟨by (with_reducible repeat (first|apply Kd.V_alloc|apply Kd.V_drewN|apply Kd.V_drew));exact Kd.V_mono (Kd.V_far (p:=⟨aa,1,none⟩) (Kd.V_mono az.out (fun k_ hk=>(⟨hk,hk.1.2.2.2⟩:_∧k_≠aa))) (fun _ hk=>hk.2) (.slice bs aZ.length bu)) (fun _ hk=>⟨hk.1.1.1,⟨hk.1.2,⟨hk.1.1.2.1,⟨hk.1.1.2.2.1,hk.1.1.2.2.2⟩⟩⟩⟩)⟩,⟨by (with_reducible repeat (first|apply Kd.R_alloc|apply Kd.R_drewN|apply Kd.R_drew));exact Kd.R_mono (Kd.R_far (p:=⟨aa,1,none⟩) (Kd.R_types bM.out ai.out (by decide)) (fun _ hk=>hk.2) (.slice bs aZ.length bu)) (fun _ hk=>hk.1)⟩,⟨by (with_reducible repeat (first|apply Kd.V_alloc|apply Kd.V_drewN|apply Kd.V_drew));exact Kd.V_mono (Kd.V_far (p:=⟨aa,1,none⟩) (Kd.V_mono ap.out (fun k_ hk=>(⟨hk,hk.1.2.2.2⟩:_∧k_≠aa))) (fun _ hk=>hk.2) (.slice bs aZ.length bu)) (fun _ hk=>⟨hk.1.1.1,⟨hk.1.2,⟨hk.1.1.2.1,⟨hk.1.1.2.2.1,hk.1.1.2.2.2⟩⟩⟩⟩)⟩,⟨by (with_reducible repeat (first|apply Kd.V_alloc|apply Kd.V_drewN|apply Kd.V_drew));exact Kd.V_mono (Kd.V_far (p:=⟨aa,1,none⟩) (Kd.V_mono aq.out (fun k_ hk=>(⟨hk,hk.1.2.2.2⟩:_∧k_≠aa))) (fun _ hk=>hk.2) (.slice bs aZ.length bu)) (fun _ hk=>⟨hk.1.1.1,⟨hk.1.2,⟨hk.1.1.2.1,⟨hk.1.1.2.2.1,hk.1.1.2.2.2⟩⟩⟩⟩)⟩,⟨by (with_reducible repeat (first|refine blk_drewN ?_ _|refine blk_drew ?_|refine blk_alloc ?_ _));refine blk_far ?_ ao.out _;(with_reducible repeat (first|refine blk_drewN ?_ _|refine blk_drew ?_|refine blk_alloc ?_ _));exact ae.out⟩,⟨by (with_reducible repeat (first|refine blk_drewN ?_ _|refine blk_drew ?_|refine blk_alloc ?_ _));refine blk_far ?_ ax.out _;(with_reducible repeat (first|refine blk_drewN ?_ _|refine blk_drew ?_|refine blk_alloc ?_ _));exact am.out⟩,⟨by (with_reducible repeat (first|refine blk_drewN ?_ _|refine blk_drew ?_|refine blk_alloc ?_ _));refine blk_put (cs:=#[.bool al,aw,.slice au af.length av,.slice aA ah.length aC]) ?_ 1 _ rfl;(with_reducible repeat (first|refine blk_drewN ?_ _|refine blk_drew ?_|refine blk_alloc ?_ _));exact ai.out⟩,bV HB⟩
end Go.Proofs.Ytmmjpieafbjggaa.P
end
section
set_option linter.unusedVariables false
namespace Go.Proofs.YtmmjpieafbjggaaW.PrintLast
open Go.Proofs.YtmmjpieafbjggaaW.PrintLast
section
variable {P:Program} {ops:Array Oper} {Q:Exit→Act→World→Prop} {md:Region.Mode} {S:World→Prop} {ds:List Nat}
/-- What two orders end in, told once. -/
theorem joinQ_ {fuel:Nat} {l:Array Bool} {a:Act} {w:World} {A:Act} {W:World} (hQ:Q .normal A W) (h:Q .normal A W→wpAnyLast P md ops Q S ds fuel l a w):wpAnyLast P md ops Q S ds fuel l a w:=h hQ
/-- One operation alone may come up, and it yields in every world that meets T: nothing of S is asked for. -/
theorem heldT_ {i:Nat} {N:Option Tmp} {oi:Oper} {v:Value} {fuel:Nat} {l:Array Bool} {a:Act} {w:World} (T:World→Prop) (l':Array Bool) (hi:ops[i]? = some oi) (hN:oi.dst=N) (hc:readyB md ops l l' i=true)
    (hy:YieldsIf P ops T oi v a) (hT:T w) {a':Act} (ha:a.put N v=a') (h:wpAnyLast P md ops Q S ds fuel l' a' w):wpAnyLast P md ops Q S ds (fuel+1) l a w:=by
  subst ha
  subst hN
  simp only [readyB,Bool.and_eq_true,beq_iff_eq] at hc
  obtain⟨h1,h2⟩:=hc
  subst h2
  refine wpAnyLast_all h1 (by simp) (fun k hk=>?_)
  rw [List.mem_singleton.1 hk]
  exact hy.wpOp hi hT ⟨fun _ h=>h,h⟩
/-- A load, that yields in every world that meets T, and a last store may come up in either order. -/
theorem loadOrLast_ {i j:Nat} {Ni Nj:Option Tmp} {oi oj:Oper} {v:Value} {fuel:Nat} {l:Array Bool} {a:Act} {w:World} (T:World→Prop) (li lj:Array Bool) (hi:ops[i]? = some oi) (hj:ops[j]? = some oj) (hNi:oi.dst=Ni) (hNj:oj.dst=Nj)
    (hc:(Region.ready md ops l == [i,j] && l.setIfInBounds i true == li && l.setIfInBounds j true == lj)=true) (hd:j∈ds)
    (hy:YieldsIf P ops T oi v a) (hT:T w) {a':Act} (ha:a.put Ni v=a') (h1:wpAnyLast P md ops Q S ds fuel li a' w)
    (h2:∀ K:Act→World→Prop,Shut (∀ a' w',wpAnyLast P md ops Q S ds fuel lj a' w'→K a' w')→if Region.wanted oj (yielded ops a.tmps)=true then Oper.wp P oj a w K Q else K (a.put Nj undef) w) :
    wpAnyLast P md ops Q S ds (fuel+1) l a w:=by
  subst ha
  subst hNi
  subst hNj
  simp only [Bool.and_eq_true,beq_iff_eq] at hc
  obtain⟨⟨h3,h4⟩,h5⟩:=hc
  subst h4
  subst h5
  refine wpAnyLast_all h3 (by simp) (fun k hk=>?_)
  rcases List.mem_cons.1 hk with rfl|hk
  · exact hy.wpOp hi hT ⟨fun _ h=>h,h1⟩
  · exact AllReadyL.cons_last hj hd (fun K hK=>h2 K hK) AllReadyL.nil k hk
end
end Go.Proofs.YtmmjpieafbjggaaW.PrintLast
end
section
set_option linter.unusedVariables false
namespace Go.Proofs.YtmmjpieafbjggaaW.PrintWords
section
open Go.RowKit Go.Proofs.YtmmjpieafbjggaaW.PrintWords Go.Proofs.YtmmjpieafbjggaaW.PrintLast Go.Proofs.YtmmjpieafbjggaaW.PrintMore
theorem seg_get {α:Type} (a seg:List α) (o:Nat) (h:o+seg.length≤a.length) (q:Nat) :
    (a.take o++seg++a.drop (o+seg.length))[q]? = if q<o then a[q]? else if q<o+seg.length then seg[q - o]? else a[q]?:=by
  have hl:(a.take o).length=o:=by rw [List.length_take];omega
  rw [List.append_assoc]
  by_cases h1:q<o
  · rw [if_pos h1,List.getElem?_append_left (by omega),List.getElem?_take,if_pos h1]
  · rw [if_neg h1,List.getElem?_append_right (by omega),hl]
    by_cases h2:q<o+seg.length
    · rw [if_pos h2,List.getElem?_append_left (by omega)]
    · rw [if_neg h2,List.getElem?_append_right (by omega),List.getElem?_drop]
      congr 1
      omega
end
end Go.Proofs.YtmmjpieafbjggaaW.PrintWords
namespace Go.Proofs.YtmmjpieafbjggaaW.PrintWords.Kd
section
open Go.RowKit Go.Proofs.YtmmjpieafbjggaaW.PrintWords Go.Proofs.YtmmjpieafbjggaaW.PrintLast Go.Proofs.YtmmjpieafbjggaaW.PrintMore
variable {α:Type} {d:Kd α} {e base g n cap:Nat} {ok okp:Nat→Prop} {W:World} {xs:List α}
/-- Element i of a row of one's own: its cells. -/
theorem R_elem (h:d.R e W base ok (.slice (some ⟨g,0,none⟩) n cap) xs) (z:α) (i:Int) (h0:0≤i) (h1:i<n) :
    ∃ c,c.length=d.sz∧d.M W base (fun k=>ok k∧k≠g) (xs.getD i.toNat z) c∧(∀ j u,c[j]? = some u→W.cell? ⟨g,i.toNat * d.sz+j,none⟩=some u)∧∀ j,W.frozen? ⟨g,i.toNat * d.sz+j,none⟩=false:=by
  obtain⟨hn,hnc,hC⟩:=R_reads' h
  obtain⟨_,inner,ho,hr⟩:=h
  have hil:i.toNat<xs.length:=by omega
  have hseg:i.toNat * d.sz+d.sz≤inner.length:=by rw [hr.1,← Nat.succ_mul];exact Nat.mul_le_mul_right _ hil
  have hM:=hr.2 i.toNat _ (List.getElem?_eq_getElem hil)
  refine⟨(inner.drop (i.toNat * d.sz)).take d.sz,by rw [List.length_take,List.length_drop];omega,?_,fun j u hu=>?_,fun j=>?_⟩
  · rw [List.getD_eq_getElem?_getD,List.getElem?_eq_getElem hil]
    exact d.M_mono (fun k hk=>⟨hk.1,fun he=>hk.2 (by rw [he];simp [Value.ownBlock])⟩) hM
  · rw [List.getElem?_take] at hu
    split at hu
    · rw [List.getElem?_drop] at hu
      have:=ho.cells (g:=g) (by simp [Value.ownBlock]) _ u hu
      rwa [add_plain] at this
    · cases hu
  · obtain⟨cells,hc⟩:=own_typed ho g (by simp [Value.ownBlock])
    exact blk_frozen hc _
end
end Go.Proofs.YtmmjpieafbjggaaW.PrintWords.Kd
namespace Go.Proofs.YtmmjpieafbjggaaW.PrintWords.Kd
section
open Go.RowKit Go.Proofs.YtmmjpieafbjggaaW.PrintWords Go.Proofs.YtmmjpieafbjggaaW.PrintLast Go.Proofs.YtmmjpieafbjggaaW.PrintMore
variable {α:Type} {d:Kd α} {e base g n cap:Nat} {ok okp:Nat→Prop} {W:World} {xs:List α}
/-- A run of cells of element i is written: element i is x' then. c: the element's cells before (R_elem). -/
theorem R_seg (h:d.R e W base ok (.slice (some ⟨g,0,none⟩) n cap) xs) (i:Int) (h0:0≤i) (h1:i<n) {c seg:List Value} {j:Nat} (hcl:c.length=d.sz) (hcc:∀ j u,c[j]? = some u→W.cell? ⟨g,i.toNat * d.sz+j,none⟩=some u)
    (hj:j+seg.length≤d.sz) {x':α} (hM:d.M W base okp x' (c.take j++seg++c.drop (j+seg.length))) (hokp:∀ k,okp k→ok k∧k≠g) :
    d.R e (W.setCells g (i.toNat * d.sz+j) seg) base ok (.slice (some ⟨g,0,none⟩) n cap) (xs.set i.toNat x')∧W.grownBy (W.setCells g (i.toNat * d.sz+j) seg) (some g):=by
  obtain⟨hn,hnc,_⟩:=R_reads' h
  obtain⟨hok,inner,ho,hr⟩:=h
  have hil:i.toNat<xs.length:=by omega
  have hseg:i.toNat * d.sz+d.sz≤inner.length:=by rw [hr.1,← Nat.succ_mul];exact Nat.mul_le_mul_right _ hil
  have hin:inner.length=n * d.sz:=by rw [hr.1,hn]
  obtain⟨ho1,ho2⟩:=ho
  rcases ho2 with ⟨hv,_⟩ | ⟨g',cap',cur,hv,hb,hh,hnc',hcm,hcs,ht⟩
  · cases hv
  injection hv with ha _ hc
  injection ha with ha
  injection ha with hg
  subst hg;subst hc
  have hfit:i.toNat * d.sz+j+seg.length≤cur.size:=by
    have:n * d.sz≤cap * d.sz:=Nat.mul_le_mul_right _ hnc
    omega
  obtain⟨cur',h3,h4,h5⟩:=setCells_row seg (i.toNat * d.sz+j) W cur hh hfit
  obtain⟨s1,s2,s3,s4⟩:=setCells_same g seg (i.toNat * d.sz+j) W
  have hfar:∀ k,k≠g→(W.setCells g (i.toNat * d.sz+j) seg).heap[k]? = W.heap[k]?:=fun k hk=>setCells_far seg _ k hk
  -- the element's cells before are what was read
  have hcin:∀ q,q<d.sz→c[q]? = inner[i.toNat * d.sz+q]?:=by
    intro q hq
    have hq':q<c.length:=by omega
    have h6:=hcc q _ (List.getElem?_eq_getElem hq')
    rw [cell_of_row W g _ cur e (0,0) hh] at h6
    rw [List.getElem?_eq_getElem hq',← h6,← ht,List.getElem?_take,if_pos (by rw [← hn];omega),Array.getElem?_toList]
  refine⟨⟨hok,inner.take (i.toNat * d.sz+j)++seg++inner.drop (i.toNat * d.sz+j+seg.length),⟨?_,.inr ⟨g,cap,cur',by rw [List.length_set,hn],hb,h3,by rw [List.length_set,← hn];exact hnc,hcm,by rw [h4,hcs],?_⟩⟩,?_⟩,
    ⟨s1,s2,s3,by rw [s4];exact Nat.le_refl _,fun k _ hk=>hfar k (fun he=>hk (by rw [he]))⟩⟩
  · rw [List.length_set]
    simp only [List.length_append,List.length_take,List.length_drop]
    rw [hr.1] at hseg ⊢
    omega
  · rw [List.length_set,← hn]
    apply List.ext_getElem?
    intro q
    rw [List.getElem?_take,h5]
    rw [seg_get cur.toList seg (i.toNat * d.sz+j) (by rw [Array.length_toList];omega) q,seg_get inner seg (i.toNat * d.sz+j) (by omega) q]
    have hcur:∀ q,q<n * d.sz→cur.toList[q]? = inner[q]?:=by
      intro q hq
      rw [← ht,List.getElem?_take,if_pos (by rw [← hn];exact hq)]
    by_cases hq:q<n * d.sz
    · rw [if_pos hq,hcur q hq]
    · rw [if_neg hq,if_neg (by omega),if_neg (by omega),List.getElem?_eq_none (by omega)]
  · refine⟨?_,fun m p hm=>?_⟩
    · rw [List.length_set]
      simp only [List.length_append,List.length_take,List.length_drop]
      rw [hr.1] at hseg ⊢
      omega
    · have hml:m<xs.length:=by
        have:=(List.getElem?_eq_some_iff.1 hm).1
        rwa [List.length_set] at this
      have hmfit:m * d.sz+d.sz≤inner.length:=by rw [hr.1,← Nat.succ_mul];exact Nat.mul_le_mul_right _ hml
      have hgo:some g=(Value.slice (some ⟨g,0,none⟩) n cap).ownBlock:=by simp [Value.ownBlock]
      by_cases hmi:m=i.toNat
      · subst hmi
        rw [List.getElem?_set_self (by omega)] at hm
        injection hm with hm
        subst hm
        have hcells:((inner.take (i.toNat * d.sz+j)++seg++inner.drop (i.toNat * d.sz+j+seg.length)).drop (i.toNat * d.sz)).take d.sz=c.take j++seg++c.drop (j+seg.length):=by
          apply List.ext_getElem?
          intro q
          rw [List.getElem?_take,List.getElem?_drop,seg_get inner seg _ (by omega),seg_get c seg j (by omega) q]
          by_cases hq:q<d.sz
          · rw [if_pos hq,hcin q hq]
            by_cases hq1:q<j
            · rw [if_pos (by omega),if_pos hq1]
            · rw [if_neg (by omega),if_neg hq1]
              by_cases hq2:q<j+seg.length
              · rw [if_pos (by omega),if_pos hq2]
                congr 1
                omega
              · rw [if_neg (by omega),if_neg hq2]
          · rw [if_neg hq,if_neg (by omega),if_neg (by omega),List.getElem?_eq_none (by omega)]
        rw [hcells]
        refine d.M_mono (fun k hk=>?_) (d.M_move (w1:=W.setCells g (i.toNat * d.sz+j) seg) (fun k hk=>hfar k (hokp k hk).2) hM)
        exact⟨(hokp k hk).1,fun he=>(hokp k hk).2 (by rw [← hgo] at he;injection he)⟩
      · rw [List.getElem?_set_ne (by omega)] at hm
        have hold:=hr.2 m p hm
        have hcells:((inner.take (i.toNat * d.sz+j)++seg++inner.drop (i.toNat * d.sz+j+seg.length)).drop (m * d.sz)).take d.sz=(inner.drop (m * d.sz)).take d.sz:=by
          apply List.ext_getElem?
          intro q
          rw [List.getElem?_take,List.getElem?_take,List.getElem?_drop,List.getElem?_drop,seg_get inner seg _ (by omega)]
          by_cases hq:q<d.sz
          · rw [if_pos hq,if_pos hq]
            rcases Nat.lt_or_gt_of_ne hmi with hlt|hgt
            · have:m * d.sz+d.sz≤i.toNat * d.sz:=by rw [← Nat.succ_mul];exact Nat.mul_le_mul_right _ hlt
              rw [if_pos (by omega)]
            · have:i.toNat * d.sz+d.sz≤m * d.sz:=by rw [← Nat.succ_mul];exact Nat.mul_le_mul_right _ hgt
              rw [if_neg (by omega),if_neg (by omega)]
          · rw [if_neg hq,if_neg hq]
        rw [hcells]
        refine d.M_move (fun k hk=>hfar k (fun he=>hk.2 (by rw [he];exact hgo))) hold
end
end Go.Proofs.YtmmjpieafbjggaaW.PrintWords.Kd
namespace Go.Proofs.YtmmjpieafbjggaaW.PrintWords.Kd
section
open Go.RowKit Go.Proofs.YtmmjpieafbjggaaW.PrintWords Go.Proofs.YtmmjpieafbjggaaW.PrintLast Go.Proofs.YtmmjpieafbjggaaW.PrintMore
variable {α:Type} {enc:α→Value} {h1:∀ x,(enc x).oneCell'=true} {e base g n cap:Nat} {ok:Nat→Prop} {W:World} {xs:List α}
theorem R_putn (h:(scalar enc h1).R e W base ok (.slice (some ⟨g,0,none⟩) n cap) xs) (i:Int) (x:α):(scalar enc h1).R e (W.setCell ⟨g,i.toNat,none⟩ (enc x)) base ok (.slice (some ⟨g,0,none⟩) n cap) (xs.set i.toNat x):=by
  obtain⟨rfl,_⟩:=R_reads' h
  exact (R_put h i x).1
end
end Go.Proofs.YtmmjpieafbjggaaW.PrintWords.Kd
end
section
namespace Go.Proofs.Ytmmjpieafbjggaa.P
open Go.RowKit Go.Proofs.YtmmjpieafbjggaaW.PrintWords Go.Proofs.YtmmjpieafbjggaaW.PrintLast Go.Proofs.YtmmjpieafbjggaaW.PrintMore
attribute [local go_sem] max2_int min2_int max_two min_two max_three min_three max_four min_four   -- for this text's walks alone
attribute [local go_sem] x_str_gtr x_str_leq x_str_geq ext_bits ext_frombits ext_neg x_store_float Instr.field asAgg
set_option linter.unusedVariables false
set_option linter.unusedSimpArgs false
mutual
def engrosslaw11_NodeOrder.j0:Nat→Int→Int→Bool→Bool→List (S56)→List ByteArray→List Int→Option (Bool)
 | 0,_,_,_,_,_,_,_=>none
 | k+1,x1,x2,x31,x416000,x416001,x416002,x416003=>if x31=true then (some true) else ((engrosslaw11_Cut.f k x416000 x416001 x416002 x416003).bind fun bt428=>(if x416000=true then (engrosslaw11_NodeOrder.j1 k x1 x2 true (decide ((x416001.length:Int)>1)) x416000 x416001 x416002 x416003 bt428.1 bt428.2.1 bt428.2.2.1 bt428.2.2.2) else (engrosslaw11_NodeOrder.j1 k x1 x2 true false x416000 x416001 x416002 x416003 bt428.1 bt428.2.1 bt428.2.2.1 bt428.2.2.2)))
def engrosslaw11_NodeOrder.j1:Nat→Int→Int→Bool→Bool→Bool→List (S56)→List ByteArray→List Int→Bool→List (S56)→List ByteArray→List Int→Option (Bool)
 | 0,_,_,_,_,_,_,_,_,_,_,_,_=>none
 | k+1,x1,x2,x9,x41,x416000,x416001,x416002,x416003,x439000,x439001,x439002,x439003=>if x41=true then (if (x416001.length:Int)=0 then (none) else (if 0≤(Int.tmod x2 (x416001.length:Int)) then (if (Int.tmod x2 (x416001.length:Int))<(x439001.length:Int) then (if 0≤(Int.tmod x1 (x416001.length:Int)) then (if (Int.tmod x1 (x416001.length:Int))<(x439001.length:Int) then (engrosslaw11_NodeOrder.j2 k ((Int.tmod x1 (x416001.length:Int)) == (Int.tmod x2 (x416001.length:Int))) x439000 ((x439001.set ((Int.tmod x1 (x416001.length:Int)):Int).toNat (⟨(rd_T56 x439001 (Int.tmod x2 (x416001.length:Int))).f0,(⟨(rd_T56 x439001 (Int.tmod x2 (x416001.length:Int))).f1.f0,(rd_T56 x439001 (Int.tmod x2 (x416001.length:Int))).f1.f1,(rd_T56 x439001 (Int.tmod x2 (x416001.length:Int))).f1.f2⟩:S54),(rd_T56 x439001 (Int.tmod x2 (x416001.length:Int))).f2,(⟨(rd_T56 x439001 (Int.tmod x2 (x416001.length:Int))).f3.f0,(rd_T56 x439001 (Int.tmod x2 (x416001.length:Int))).f3.f1,(rd_T56 x439001 (Int.tmod x2 (x416001.length:Int))).f3.f2⟩:S54)⟩:S56)).set ((Int.tmod x2 (x416001.length:Int)):Int).toNat (⟨(rd_T56 x439001 (Int.tmod x1 (x416001.length:Int))).f0,(⟨(rd_T56 x439001 (Int.tmod x1 (x416001.length:Int))).f1.f0,(rd_T56 x439001 (Int.tmod x1 (x416001.length:Int))).f1.f1,(rd_T56 x439001 (Int.tmod x1 (x416001.length:Int))).f1.f2⟩:S54),(rd_T56 x439001 (Int.tmod x1 (x416001.length:Int))).f2,(⟨(rd_T56 x439001 (Int.tmod x1 (x416001.length:Int))).f3.f0,(rd_T56 x439001 (Int.tmod x1 (x416001.length:Int))).f3.f1,(rd_T56 x439001 (Int.tmod x1 (x416001.length:Int))).f3.f2⟩:S54)⟩:S56)) x439002 x439003) else (none)) else (none)) else (none)) else (none))) else (if (x416002.length:Int)>1 then (if (x416002.length:Int)=0 then (none) else (if 0≤(Int.tmod x2 (x416002.length:Int)) then (if (Int.tmod x2 (x416002.length:Int))<(x439002.length:Int) then (if 0≤(Int.tmod x1 (x416002.length:Int)) then (if (Int.tmod x1 (x416002.length:Int))<(x439002.length:Int) then (engrosslaw11_NodeOrder.j2 k ((Int.tmod x1 (x416002.length:Int)) == (Int.tmod x2 (x416002.length:Int))) x439000 x439001 ((x439002.set ((Int.tmod x1 (x416002.length:Int)):Int).toNat (rdOf ByteArray.empty x439002 (Int.tmod x2 (x416002.length:Int)))).set ((Int.tmod x2 (x416002.length:Int)):Int).toNat (rdOf ByteArray.empty x439002 (Int.tmod x1 (x416002.length:Int)))) x439003) else (none)) else (none)) else (none)) else (none))) else (engrosslaw11_NodeOrder.j2 k x9 x439000 x439001 x439002 x439003))
def engrosslaw11_NodeOrder.j2:Nat→Bool→Bool→List (S56)→List ByteArray→List Int→Option (Bool)
 | 0,_,_,_,_,_=>none
 | k+1,x9,x439000,x439001,x439002,x439003=>(engrosslaw11_Of.f k x439000 x439001 x439002 x439003).bind fun bt447=>((node_Encode.f k bt447.1 bt447.2.1 bt447.2.2.1 bt447.2.2.2).bind fun bt457=>((engrosslaw11_Of.f k x439000 x439001 x439002 x439003).bind fun bt461=>((node_May.f k bt461.1 bt461.2.1 bt461.2.2.1 bt461.2.2.2).bind fun t471=>(if (t471 == x9)=true then (if x9=true then (some true) else (some (bt457.2 == 1))) else (none)))))
end
def engrosslaw11_NodeOrder.f (k:Nat) (a0_0:Bool) (l0_1:List (S56)) (l0_2:List ByteArray) (l0_3:List Int) (a1:Int) (a2:Int):Option (Bool):=(engrosslaw11_begun.f k).bind fun t416=>(if t416=true then ((engrosslaw11_Cut.f k a0_0 l0_1 l0_2 l0_3).bind fun bt417=>((engrossref10_MayNode.f k bt417.1 bt417.2.1 bt417.2.2.1 bt417.2.2.2).bind fun t427=>(if t427=true then (if a1<0 then (engrosslaw11_NodeOrder.j0 k a1 a2 true bt417.1 bt417.2.1 bt417.2.2.1 bt417.2.2.2) else (engrosslaw11_NodeOrder.j0 k a1 a2 (decide (a2<0)) bt417.1 bt417.2.1 bt417.2.2.1 bt417.2.2.2)) else (engrosslaw11_NodeOrder.j0 k a1 a2 true bt417.1 bt417.2.1 bt417.2.2.1 bt417.2.2.2)))) else (none))
def engrosslaw11_NodeOrder.T10:Bool × List (List Nat × List Nat):=(true,[([],[]),([],[]),([1],[1]),([2],[2]),([0,3],[0,3]),([],[]),([],[]),([6],[6]),([7],[7]),([5,8],[5,8]),([4,0,1,2,3,4],[4]),([9,10,0,1,2,3,4,5,6,7,8,9,10],[9])])
def engrosslaw11_NodeOrder.B10:List Nat:=[0,0,2,6,15,0,0,64,192,480,31,2047]
theorem engrosslaw11_NodeOrder.tab10:rtab .any (opsOf Try.f9 10)=engrosslaw11_NodeOrder.T10:=by kernel_rfl
theorem engrosslaw11_NodeOrder.bits10:waitsOk engrosslaw11_NodeOrder.T10.2 engrosslaw11_NodeOrder.B10=true:=by kernel_rfl
def engrosslaw11_NodeOrder.T11:Bool × List (List Nat × List Nat):=(true,[([],[]),([0],[0]),([],[]),([],[]),([3],[3]),([],[]),([],[]),([6],[6]),([],[]),([7,8],[7,8]),([9],[9]),([],[]),([11],[11]),([],[]),([12,13],[12,13]),([14],[14]),([1,2,0,1,2,6,7,8,9,10,15],[1,2]),([16,10,0,1,2,6,7,8,9,10,15],[10,16]),([4,5,0,1,2,3,4,5,6,7,8,9,10,11,12,13,14,15,16,17],[4,5]),([18,15,17,0,1,2,3,4,5,6,7,8,9,10,11,12,13,14,15,16,17],[15,18])])
def engrosslaw11_NodeOrder.B11:List Nat:=[0,1,0,0,8,0,0,64,0,448,960,0,2048,0,14336,30720,65479,131015,262143,524287]
theorem engrosslaw11_NodeOrder.tab11:rtab .any (opsOf Try.f9 11)=engrosslaw11_NodeOrder.T11:=by kernel_rfl
theorem engrosslaw11_NodeOrder.bits11:waitsOk engrosslaw11_NodeOrder.T11.2 engrosslaw11_NodeOrder.B11=true:=by kernel_rfl
def engrosslaw11_NodeOrder.T14:Bool × List (List Nat × List Nat):=(true,[([],[]),([],[]),([1],[1]),([2],[2]),([0,3],[0,3]),([],[]),([],[]),([6],[6]),([7],[7]),([5,8],[5,8]),([4,0,1,2,3,4],[4]),([9,10,0,1,2,3,4,5,6,7,8,9,10],[9])])
def engrosslaw11_NodeOrder.B14:List Nat:=[0,0,2,6,15,0,0,64,192,480,31,2047]
theorem engrosslaw11_NodeOrder.tab14:rtab .any (opsOf Try.f9 14)=engrosslaw11_NodeOrder.T14:=by kernel_rfl
theorem engrosslaw11_NodeOrder.bits14:waitsOk engrosslaw11_NodeOrder.T14.2 engrosslaw11_NodeOrder.B14=true:=by kernel_rfl
def engrosslaw11_NodeOrder.T15:Bool × List (List Nat × List Nat):=(true,[([],[]),([0],[0]),([],[]),([],[]),([3],[3]),([],[]),([],[]),([6],[6]),([],[]),([7,8],[7,8]),([9],[9]),([],[]),([11],[11]),([],[]),([12,13],[12,13]),([14],[14]),([1,2,0,1,2,6,7,8,9,10,15],[1,2]),([16,10,0,1,2,6,7,8,9,10,15],[10,16]),([4,5,0,1,2,3,4,5,6,7,8,9,10,11,12,13,14,15,16,17],[4,5]),([18,15,17,0,1,2,3,4,5,6,7,8,9,10,11,12,13,14,15,16,17],[15,18])])
def engrosslaw11_NodeOrder.B15:List Nat:=[0,1,0,0,8,0,0,64,0,448,960,0,2048,0,14336,30720,65479,131015,262143,524287]
theorem engrosslaw11_NodeOrder.tab15:rtab .any (opsOf Try.f9 15)=engrosslaw11_NodeOrder.T15:=by kernel_rfl
theorem engrosslaw11_NodeOrder.bits15:waitsOk engrosslaw11_NodeOrder.T15.2 engrosslaw11_NodeOrder.B15=true:=by kernel_rfl
set_option maxHeartbeats 8000000 in
set_option maxRecDepth 100000 in
theorem engrosslaw11_NodeOrder.calls (k:Nat) (bY:Bool) (dO:Option Addr) (dP:Nat) (bo:List (S56)) (dQ:Option Addr) (dR:Nat) (bp:List ByteArray) (dS:Option Addr) (dT:Nat) (bq:List Int) (a1:Int) (a2:Int) (r:Bool) (w:World) (em:Kd.C k56 w dO bo.length bo) (ep:bo.length≤dP) (er:Kd.C Kd.string w dQ bp.length bp) (es:bp.length≤dR) (et:Kd.C (Kd.int .i64) w dS bq.length bq) (eu:bq.length≤dT) (h:engrosslaw11_NodeOrder.f k bY bo bp bq a1 a2=some r) :
  Calls Try.prog 9 #[.agg #[.bool bY,.slice dO bo.length dP,.slice dQ bp.length dR,.slice dS bq.length dT],.int .i64 a1,.int .i64 a2] w fun e w'=>e = .returned (.bool r)∧Below w.heap.size w w':=by
 have hu26:=Try.underlying26
 have hu56:=Try.underlying56
 have fW:=aK em
 have fX:=aK ep
 clear em ep
 have fY:=aK er
 have fZ:=aK es
 clear er es
 have f4:=aK et
 have f5:=aK eu
 clear et eu
 have HB:=aK (Below.refl w.heap.size w)
 have H:((engrosslaw11_begun.f k).bind fun dU=>(if dU=true then ((engrosslaw11_Cut.f k bY bo bp bq).bind fun ap=>((engrossref10_MayNode.f k ap.1 ap.2.1 ap.2.2.1 ap.2.2.2).bind fun bu=>(if bu=true then (if a1<0 then (engrosslaw11_NodeOrder.j0 k a1 a2 true ap.1 ap.2.1 ap.2.2.1 ap.2.2.2) else (engrosslaw11_NodeOrder.j0 k a1 a2 (decide (a2<0)) ap.1 ap.2.1 ap.2.2.1 ap.2.2.2)) else (engrosslaw11_NodeOrder.j0 k a1 a2 true ap.1 ap.2.1 ap.2.2.1 ap.2.2.2)))) else (none)))=some r:=h
 clear h
 replace H:=oS H
 obtain⟨dU,A40,H⟩:=H
 replace H:(if dU=true then ((engrosslaw11_Cut.f k bY bo bp bq).bind fun ap=>((engrossref10_MayNode.f k ap.1 ap.2.1 ap.2.2.1 ap.2.2.2).bind fun bu=>(if bu=true then (if a1<0 then (engrosslaw11_NodeOrder.j0 k a1 a2 true ap.1 ap.2.1 ap.2.2.1 ap.2.2.2) else (engrosslaw11_NodeOrder.j0 k a1 a2 (decide (a2<0)) ap.1 ap.2.1 ap.2.2.1 ap.2.2.2)) else (engrosslaw11_NodeOrder.j0 k a1 a2 true ap.1 ap.2.1 ap.2.2.1 ap.2.2.2)))) else (none))=some r:=H
 have A4:=aK A40
 clear A40
 by_cases c5:dU=true
 rotate_left
 ·replace c5:=Bool.eq_false_iff.mpr c5
  subst c5
  have H1:(none)=some r:=by rw [if_neg (show ¬ (false=true) by decide)] at H;exact H
  clear H
  have H:=H1
  clear H1
  exact absurd H (by simp)
 subst c5
 have H1:((engrosslaw11_Cut.f k bY bo bp bq).bind fun ap=>((engrossref10_MayNode.f k ap.1 ap.2.1 ap.2.2.1 ap.2.2.2).bind fun bu=>(if bu=true then (if a1<0 then (engrosslaw11_NodeOrder.j0 k a1 a2 true ap.1 ap.2.1 ap.2.2.1 ap.2.2.2) else (engrosslaw11_NodeOrder.j0 k a1 a2 (decide (a2<0)) ap.1 ap.2.1 ap.2.2.1 ap.2.2.2)) else (engrosslaw11_NodeOrder.j0 k a1 a2 true ap.1 ap.2.1 ap.2.2.1 ap.2.2.2))))=some r:=by rw [if_pos rfl] at H;exact H
 clear H
 have H:=H1
 clear H1
 replace H:=oS H
 obtain⟨⟨az,ak,am,aq⟩,A60,H⟩:=H
 replace H:((engrossref10_MayNode.f k az ak am aq).bind fun bu=>(if bu=true then (if a1<0 then (engrosslaw11_NodeOrder.j0 k a1 a2 true az ak am aq) else (engrosslaw11_NodeOrder.j0 k a1 a2 (decide (a2<0)) az ak am aq)) else (engrosslaw11_NodeOrder.j0 k a1 a2 true az ak am aq)))=some r:=H
 have A6:=aK A60
 clear A60
 have HC7:=aK H
 clear H
 go_enter Try.func9,Try.ntmps9
 go_upto_region 5 with (first|((with_reducible refine gate_dst (N:=3) rfl ?_);(try (refine gate_guard (by rfl) ?_;dsimp only));refine box_event ?hg (N:=3) ?hd (cs:=#[.bool bY,.slice dO bo.length dP,.slice dQ bp.length dR,.slice dS bq.length dT]) (t:=26) ?hr ?_;(case hd=>rfl);(case hg=>rfl);(case hr=>first|(go_simp;done)|(go_simp;rfl));intro av hg w8 hbox hb;have ae:=aK (hbox);have iH:=bZ HB hg;have iI:=bZ HB hg;replace HB:=bW HB hb;clear hb hbox hg)|((with_reducible refine gate_callee (f:=11) rfl ?_);refine gL (some 16) Try.func11 #[] ?_;(with_reducible refine (engrosslaw11_begun.calls k  true _ A4.out).mono ?_);rintro e w9 ⟨rfl,hb⟩;refine⟨_,rfl,?_⟩;replace ae:=bB ae hb;replace HB:=bW HB hb;(try clear hb);(try clear hb2);(try clear hk);(try clear hi);obtain⟨cX,cY,cZ,da,db,dc,dd,de⟩:=bf4 (w:=w9) ae)|((with_reducible refine gate_callee (f:=12) rfl ?_);refine gL (some 20) Try.func12 #[.agg #[.bool bY,.slice dO bo.length dP,.slice dQ bp.length dR,.slice dS bq.length dT]] ?_;(with_reducible refine (engrosslaw11_Cut.calls k bY _ _ bo _ _ bp _ _ bq az ak am aq _ ?side1 ?side2 ?side3 ?side4 ?side5 ?side6 A6.out).mono ?_);(case side1=>repeat (first|exact (Kd.C_below fW.out HB.out)|(with_reducible refine Kd.C_alloc ?_ _)|(with_reducible refine Kd.C_drewN ?_ _)|(with_reducible refine Kd.C_drew ?_)));(case side2=>exact fX.out);(case side3=>repeat (first|exact (Kd.C_below fY.out HB.out)|(with_reducible refine Kd.C_alloc ?_ _)|(with_reducible refine Kd.C_drewN ?_ _)|(with_reducible refine Kd.C_drew ?_)));(case side4=>exact fZ.out);(case side5=>repeat (first|exact (Kd.C_below f4.out HB.out)|(with_reducible refine Kd.C_alloc ?_ _)|(with_reducible refine Kd.C_drewN ?_ _)|(with_reducible refine Kd.C_drew ?_)));(case side6=>exact f5.out);rintro e w11 ⟨iU,iV,iW,rfl,ho0,ho1,ho2,hb⟩;refine⟨_,rfl,?_⟩;have aJ:=aK (Kd.R_lower ho0 (below_size (bC HB)));have aM:=aK (Kd.R_lower ho1 (below_size (bC HB)));have aN:=aK (Kd.R_lower ho2 (below_size (bC HB)));replace ae:=bB ae hb;replace HB:=bW HB hb;(try clear hb);(try clear hb2);(try clear hk);(try clear hi);(try clear ho0);(try clear ho1);(try clear ho2);obtain⟨df,dg,dh,di,dj,dk,dl,dm⟩:=bf4 (w:=w11) ae;obtain⟨aQ,aT,gF⟩:=Kd.R_slice aJ.out;subst gF;obtain⟨aU,aV,gG⟩:=Kd.R_slice aM.out;subst gG;obtain⟨aA,aC,gH⟩:=Kd.R_slice aN.out;subst gH)|((with_reducible refine gate_store (t:=26) (p:=3) rfl ?_);refine store_event (t:=26) (p:=3) (v:=?vo_w16) (w1:=((((w11.setCell ⟨av,0,none⟩ (.bool az)).setCell ⟨av,1,none⟩ (.slice aQ ak.length aT)).setCell ⟨av,2,none⟩ (.slice aU am.length aV)).setCell ⟨av,3,none⟩ (.slice aA aq.length aC))) ?hg ?ho ?hn ?hr ?_;(case ho=>rfl);(case hg=>rfl);(case hn=>rfl);(case hr=>first|(go_simp;done)|(go_simp;rfl));intro w16 hw;replace aJ:Aside0 (Kd.R k56 56 w16 w.heap.size (fun _=>True) (.slice aQ ak.length aT) ak):=⟨(by rw [hw];exact (by (with_reducible repeat (first|apply Kd.R_alloc|apply Kd.R_drewN|apply Kd.R_drew));exact Kd.R_mono (Kd.R_far (p:=⟨av,3,none⟩) (Kd.R_far (p:=⟨av,2,none⟩) (Kd.R_far (p:=⟨av,1,none⟩) (Kd.R_far (p:=⟨av,0,none⟩) (Kd.R_types aJ.out ae.out (by decide)) (fun _ hk=>hk.2) (.bool az)) (fun _ hk=>hk.2) (.slice aQ ak.length aT)) (fun _ hk=>hk.2) (.slice aU am.length aV)) (fun _ hk=>hk.2) (.slice aA aq.length aC)) (fun _ hk=>trivial)))⟩;replace aM:Aside0 (Kd.R Kd.string 9 w16 w.heap.size (fun _=>True) (.slice aU am.length aV) am):=⟨(by rw [hw];exact (by (with_reducible repeat (first|apply Kd.R_alloc|apply Kd.R_drewN|apply Kd.R_drew));exact Kd.R_mono (Kd.R_far (p:=⟨av,3,none⟩) (Kd.R_far (p:=⟨av,2,none⟩) (Kd.R_far (p:=⟨av,1,none⟩) (Kd.R_far (p:=⟨av,0,none⟩) (Kd.R_types aM.out ae.out (by decide)) (fun _ hk=>hk.2) (.bool az)) (fun _ hk=>hk.2) (.slice aQ ak.length aT)) (fun _ hk=>hk.2) (.slice aU am.length aV)) (fun _ hk=>hk.2) (.slice aA aq.length aC)) (fun _ hk=>trivial)))⟩;replace aN:Aside0 (Kd.R (Kd.int .i64) 3 w16 w.heap.size (fun _=>True) (.slice aA aq.length aC) aq):=⟨(by rw [hw];exact (by (with_reducible repeat (first|apply Kd.R_alloc|apply Kd.R_drewN|apply Kd.R_drew));exact Kd.R_mono (Kd.R_far (p:=⟨av,3,none⟩) (Kd.R_far (p:=⟨av,2,none⟩) (Kd.R_far (p:=⟨av,1,none⟩) (Kd.R_far (p:=⟨av,0,none⟩) (Kd.R_types aN.out ae.out (by decide)) (fun _ hk=>hk.2) (.bool az)) (fun _ hk=>hk.2) (.slice aQ ak.length aT)) (fun _ hk=>hk.2) (.slice aU am.length aV)) (fun _ hk=>hk.2) (.slice aA aq.length aC)) (fun _ hk=>trivial)))⟩;replace ae:Aside0 (w16.heap[av]? = some (.cells #[.bool az,.slice aQ ak.length aT,.slice aU am.length aV,.slice aA aq.length aC] 26 (0,0))):=bP ae hw;replace HB:=bH HB hw;clear hw))
 (try simp only [Act.put,List.setIfInBounds_toArray,List.set_cons_zero,List.set_cons_succ])
 go_cut [31] (fun v31 wc=>∃ (kq:Nat) (cQ:Bool),v31 = .bool cQ∧Aside0 (engrosslaw11_NodeOrder.j0 kq a1 a2 cQ az ak am aq=some r)∧Aside0 (kq≤k)∧Aside0 (Kd.R k56 56 wc w.heap.size (fun _=>True) (.slice aQ ak.length aT) ak)∧Aside0 (Kd.R Kd.string 9 wc w.heap.size (fun _=>True) (.slice aU am.length aV) am)∧Aside0 (Kd.R (Kd.int .i64) 3 wc w.heap.size (fun _=>True) (.slice aA aq.length aC) aq)∧Aside0 (wc.heap[av]? = some (.cells #[.bool az,(.slice aQ ak.length aT),(.slice aU am.length aV),(.slice aA aq.length aC)] 26 (0,0)))∧Aside0 (Below w.heap.size w wc))
 case first =>
  have H:=HC7.out
  clear HC7
  replace H:=oS H
  obtain⟨bu,fA,H⟩:=H
  replace H:(if bu=true then (if a1<0 then (engrosslaw11_NodeOrder.j0 k a1 a2 true az ak am aq) else (engrosslaw11_NodeOrder.j0 k a1 a2 (decide (a2<0)) az ak am aq)) else (engrosslaw11_NodeOrder.j0 k a1 a2 true az ak am aq))=some r:=H
  have A17:=aK fA
  clear fA
  by_cases c18:bu=true
  rotate_left
  ·replace c18:=Bool.eq_false_iff.mpr c18
   subst c18
   have H1:(engrosslaw11_NodeOrder.j0 k a1 a2 true az ak am aq)=some r:=by rw [if_neg (show ¬ (false=true) by decide)] at H;exact H
   clear H
   have H:=H1
   clear H1
   have H':=aK H
   clear H
   obtain⟨dn,dp,dq,dr,dt,du,dv,dw⟩:=bf4 (w:=w16) ae
   go_wp2_with (first|((with_reducible refine gate_callee (f:=15) rfl ?_);refine gL (some 22) Try.func15 #[.agg #[.bool az,.slice aQ ak.length aT,.slice aU am.length aV,.slice aA aq.length aC]] ?_;(with_reducible refine (engrossref10_MayNode.calls k az _ _ ak _ _ am _ _ aq false _ ?side1 ?side2 ?side3 ?side4 ?side5 ?side6 A17.out).mono ?_);(case side1=>exact sC (Kd.R_reads' aJ.out).2.2);(case side2=>exact (Kd.R_reads' aJ.out).2.1);(case side3=>exact sC (Kd.R_reads' aM.out).2.2);(case side4=>exact (Kd.R_reads' aM.out).2.1);(case side5=>exact sC (Kd.R_reads' aN.out).2.2);(case side6=>exact (Kd.R_reads' aN.out).2.1);rintro e w25 ⟨rfl,hb⟩;refine⟨_,rfl,?_⟩;replace aJ:=rB aJ hb;replace aM:=rB aM hb;replace aN:=rB aN hb;replace ae:=bB ae hb;replace HB:=bW HB hb;(try clear hb);(try clear hb2);(try clear hk);(try clear hi)))
   go_meet
   case rel=>exact⟨_,(true),(by first|rfl|(simp;done)|(simp [*];done)),H',⟨by first|omega|exact Nat.le_refl _⟩,⟨by (with_reducible repeat (first|apply Kd.R_alloc|apply Kd.R_drewN|apply Kd.R_drew));exact aJ.out⟩,⟨by (with_reducible repeat (first|apply Kd.R_alloc|apply Kd.R_drewN|apply Kd.R_drew));exact aM.out⟩,⟨by (with_reducible repeat (first|apply Kd.R_alloc|apply Kd.R_drewN|apply Kd.R_drew));exact aN.out⟩,bK ae,bV HB⟩
  subst c18
  have H1:(if a1<0 then (engrosslaw11_NodeOrder.j0 k a1 a2 true az ak am aq) else (engrosslaw11_NodeOrder.j0 k a1 a2 (decide (a2<0)) az ak am aq))=some r:=by rw [if_pos rfl] at H;exact H
  clear H
  have H:=H1
  clear H1
  by_cases c19:a1<0
  ·rw [if_pos c19] at H
   have bN:decide (a1<0)=true:=decide_eq_true c19
   clear c19
   (first|rw [bN]|(simp only [i64_w,i32_w];rw [bN])|skip)
   have H':=aK H
   clear H
   obtain⟨dx,dy,dz,dB,dC,dD,dE,dF⟩:=bf4 (w:=w16) ae
   go_wp2_with (first|((with_reducible refine gate_callee (f:=15) rfl ?_);refine gL (some 22) Try.func15 #[.agg #[.bool az,.slice aQ ak.length aT,.slice aU am.length aV,.slice aA aq.length aC]] ?_;(with_reducible refine (engrossref10_MayNode.calls k az _ _ ak _ _ am _ _ aq true _ ?side1 ?side2 ?side3 ?side4 ?side5 ?side6 A17.out).mono ?_);(case side1=>exact sC (Kd.R_reads' aJ.out).2.2);(case side2=>exact (Kd.R_reads' aJ.out).2.1);(case side3=>exact sC (Kd.R_reads' aM.out).2.2);(case side4=>exact (Kd.R_reads' aM.out).2.1);(case side5=>exact sC (Kd.R_reads' aN.out).2.2);(case side6=>exact (Kd.R_reads' aN.out).2.1);rintro e w21 ⟨rfl,hb⟩;refine⟨_,rfl,?_⟩;replace aJ:=rB aJ hb;replace aM:=rB aM hb;replace aN:=rB aN hb;replace ae:=bB ae hb;replace HB:=bW HB hb;(try clear hb);(try clear hb2);(try clear hk);(try clear hi)))
   go_meet
   case rel=>exact⟨_,(true),(by first|rfl|(simp;done)|(simp [*];done)),H',⟨by first|omega|exact Nat.le_refl _⟩,⟨by (with_reducible repeat (first|apply Kd.R_alloc|apply Kd.R_drewN|apply Kd.R_drew));exact aJ.out⟩,⟨by (with_reducible repeat (first|apply Kd.R_alloc|apply Kd.R_drewN|apply Kd.R_drew));exact aM.out⟩,⟨by (with_reducible repeat (first|apply Kd.R_alloc|apply Kd.R_drewN|apply Kd.R_drew));exact aN.out⟩,bK ae,bV HB⟩
  rw [if_neg c19] at H
  have bN:decide (a1<0)=false:=decide_eq_false c19
  clear c19
  (first|rw [bN]|(simp only [i64_w,i32_w];rw [bN])|skip)
  have H':=aK H
  clear H
  obtain⟨dG,dH,dI,dJ,dK,dL,dM,dN⟩:=bf4 (w:=w16) ae
  go_wp2_with (first|((with_reducible refine gate_callee (f:=15) rfl ?_);refine gL (some 22) Try.func15 #[.agg #[.bool az,.slice aQ ak.length aT,.slice aU am.length aV,.slice aA aq.length aC]] ?_;(with_reducible refine (engrossref10_MayNode.calls k az _ _ ak _ _ am _ _ aq true _ ?side1 ?side2 ?side3 ?side4 ?side5 ?side6 A17.out).mono ?_);(case side1=>exact sC (Kd.R_reads' aJ.out).2.2);(case side2=>exact (Kd.R_reads' aJ.out).2.1);(case side3=>exact sC (Kd.R_reads' aM.out).2.2);(case side4=>exact (Kd.R_reads' aM.out).2.1);(case side5=>exact sC (Kd.R_reads' aN.out).2.2);(case side6=>exact (Kd.R_reads' aN.out).2.1);rintro e w23 ⟨rfl,hb⟩;refine⟨_,rfl,?_⟩;replace aJ:=rB aJ hb;replace aM:=rB aM hb;replace aN:=rB aN hb;replace ae:=bB ae hb;replace HB:=bW HB hb;(try clear hb);(try clear hb2);(try clear hk);(try clear hi)))
  go_meet
  case rel=>exact⟨_,(decide (a2<0)),(by first|rfl|(simp;done)|(simp [*];done)),H',⟨by first|omega|exact Nat.le_refl _⟩,⟨by (with_reducible repeat (first|apply Kd.R_alloc|apply Kd.R_drewN|apply Kd.R_drew));exact aJ.out⟩,⟨by (with_reducible repeat (first|apply Kd.R_alloc|apply Kd.R_drewN|apply Kd.R_drew));exact aM.out⟩,⟨by (with_reducible repeat (first|apply Kd.R_alloc|apply Kd.R_drewN|apply Kd.R_drew));exact aN.out⟩,bK ae,bV HB⟩
 case rest =>
  clear HC7
  try clear c1
  try clear p2
  try clear c5
  try clear c9
  try clear c11
  try clear c12
  try clear c15
  try clear c18
  try clear c19
  try clear bN
  try clear cX cY cZ da
  try clear df dg dh di
  try clear dx dy dz dB
  try clear dG dH dI dJ
  try clear dn dp dq dr
  try clear db dc dd de
  try clear dj dk dl dm
  try clear dC dD dE dF
  try clear dK dL dM dN
  try clear dt du dv dw
  obtain⟨kq,cQ,rfl,HA,HJ6,ac,ah,ai,ae,HB⟩:=hcut
  cases kq with
  | zero=>exact absurd HA.out (by simp [engrosslaw11_NodeOrder.j0])
  | succ kj6 =>
   have H:=HA.out
   clear HA
   simp only [engrosslaw11_NodeOrder.j0] at H
   by_cases c26:cQ=true
   ·subst c26
    have H1:(some true)=some r:=by rw [if_pos rfl] at H;exact H
    clear H
    have H:=H1
    clear H1
    obtain rfl:=Option.some.inj H
    go_wp2
    go_ret
    exact xB HB
   replace c26:=Bool.eq_false_iff.mpr c26
   subst c26
   have H1:((engrosslaw11_Cut.f kj6 az ak am aq).bind fun bs=>(if az=true then (engrosslaw11_NodeOrder.j1 kj6 a1 a2 true (decide ((ak.length:Int)>1)) az ak am aq bs.1 bs.2.1 bs.2.2.1 bs.2.2.2) else (engrosslaw11_NodeOrder.j1 kj6 a1 a2 true false az ak am aq bs.1 bs.2.1 bs.2.2.1 bs.2.2.2)))=some r:=by rw [if_neg (show ¬ (false=true) by decide)] at H;exact H
   clear H
   have H:=H1
   clear H1
   replace H:=oS H
   obtain⟨⟨aw,aa,ao,ar⟩,fB,H⟩:=H
   replace H:(if az=true then (engrosslaw11_NodeOrder.j1 kj6 a1 a2 true (decide ((ak.length:Int)>1)) az ak am aq aw aa ao ar) else (engrosslaw11_NodeOrder.j1 kj6 a1 a2 true false az ak am aq aw aa ao ar))=some r:=H
   have A27:=aK fB
   clear fB
   have d8:=aK H
   clear H
   obtain⟨ez,eA,eB,eC,eD,eE,eF,eG⟩:=bf4 (w:=wc) ae
   go_upto_region 9 with (first|((with_reducible refine gate_callee (f:=12) rfl ?_);refine gL (some 33) Try.func12 #[.agg #[.bool az,.slice aQ ak.length aT,.slice aU am.length aV,.slice aA aq.length aC]] ?_;(with_reducible refine (engrosslaw11_Cut.calls kj6 az _ _ ak _ _ am _ _ aq aw aa ao ar _ ?side1 ?side2 ?side3 ?side4 ?side5 ?side6 A27.out).mono ?_);(case side1=>exact sC (Kd.R_reads' ac.out).2.2);(case side2=>exact (Kd.R_reads' ac.out).2.1);(case side3=>exact sC (Kd.R_reads' ah.out).2.2);(case side4=>exact (Kd.R_reads' ah.out).2.1);(case side5=>exact sC (Kd.R_reads' ai.out).2.2);(case side6=>exact (Kd.R_reads' ai.out).2.1);rintro e w30 ⟨iX,iY,iZ,rfl,ho0,ho1,ho2,hb⟩;refine⟨_,rfl,?_⟩;have bO:=aK (Kd.R_lower (Kd.R_new' ho0 (Kd.R_lt (by (with_reducible repeat (first|apply Kd.R_alloc|apply Kd.R_drewN|apply Kd.R_drew));exact ac.out))) (below_size (bC HB)));have bU:=aK (Kd.R_lower (Kd.R_new' ho1 (Kd.R_lt (by (with_reducible repeat (first|apply Kd.R_alloc|apply Kd.R_drewN|apply Kd.R_drew));exact ah.out))) (below_size (bC HB)));have bX:=aK (Kd.R_lower (Kd.R_new' ho2 (Kd.R_lt (by (with_reducible repeat (first|apply Kd.R_alloc|apply Kd.R_drewN|apply Kd.R_drew));exact ai.out))) (below_size (bC HB)));replace ac:=rE ac (Kd.R_base ho0) hb;replace ah:=rE ah (Kd.R_base ho1) hb;replace ai:=rE ai (Kd.R_base ho2) hb;replace ae:=bB ae hb;replace HB:=bW HB hb;(try clear hb);(try clear hb2);(try clear hk);(try clear hi);(try clear ho0);(try clear ho1);(try clear ho2))|((with_reducible refine gate_dst (N:=8) rfl ?_);(try (refine gate_guard (by rfl) ?_;dsimp only));refine box_event ?hg (N:=8) ?hd (cs:=#[.bool false,.slice none 0 0,.slice none 0 0,.slice none 0 0]) (t:=26) ?hr ?_;(case hd=>rfl);(case hg=>rfl);(case hr=>first|(go_simp;done)|(go_simp;rfl));intro al hg w31 hbox hb;have ag:=aK (hbox);have iJ:=bZ HB hg;have iK:=bZ HB hg;have bf:=bL ae hg;have bg:=bG ae hg;replace ac:=rB ac hb;replace ah:=rB ah hb;replace ai:=rB ai hb;replace bO:=rB bO hb;replace bU:=rB bU hb;replace bX:=rB bX hb;replace ae:=bB ae hb;replace HB:=bW HB hb;clear hb hbox hg;have hnb32:=bg.out;have hnc32:=bf.out;obtain⟨eH,eI,eJ,eK,eL,eM,eN,eO⟩:=bf4 (w:=w31) ag;obtain⟨bb,aW,gI⟩:=Kd.R_slice bO.out;subst gI;obtain⟨bc,aX,gJ⟩:=Kd.R_slice bU.out;subst gJ;obtain⟨aD,aE,gK⟩:=Kd.R_slice bX.out;subst gK)|((with_reducible refine gate_store (t:=26) (p:=8) rfl ?_);refine store_event (t:=26) (p:=8) (v:=?vo_w37) (w1:=((((w31.setCell ⟨al,0,none⟩ (.bool aw)).setCell ⟨al,1,none⟩ (.slice bb aa.length aW)).setCell ⟨al,2,none⟩ (.slice bc ao.length aX)).setCell ⟨al,3,none⟩ (.slice aD ar.length aE))) ?hg ?ho ?hn ?hr ?_;(case ho=>rfl);(case hg=>rfl);(case hn=>rfl);(case hr=>first|(go_simp;done)|(go_simp;rfl));intro w37 hw;replace ac:Aside0 (Kd.R k56 56 w37 w.heap.size (fun k_=>some k_≠(.slice bb aa.length aW:Value).ownBlock) (.slice aQ ak.length aT) ak):=⟨(by rw [hw];exact (by (with_reducible repeat (first|apply Kd.R_alloc|apply Kd.R_drewN|apply Kd.R_drew));exact Kd.R_mono (Kd.R_far (p:=⟨al,3,none⟩) (Kd.R_far (p:=⟨al,2,none⟩) (Kd.R_far (p:=⟨al,1,none⟩) (Kd.R_far (p:=⟨al,0,none⟩) (Kd.R_types ac.out ag.out (by decide)) (fun _ hk=>hk.2) (.bool aw)) (fun _ hk=>hk.2) (.slice bb aa.length aW)) (fun _ hk=>hk.2) (.slice bc ao.length aX)) (fun _ hk=>hk.2) (.slice aD ar.length aE)) (fun _ hk=>hk.1.2)))⟩;replace ah:Aside0 (Kd.R Kd.string 9 w37 w.heap.size (fun k_=>some k_≠(.slice bc ao.length aX:Value).ownBlock) (.slice aU am.length aV) am):=⟨(by rw [hw];exact (by (with_reducible repeat (first|apply Kd.R_alloc|apply Kd.R_drewN|apply Kd.R_drew));exact Kd.R_mono (Kd.R_far (p:=⟨al,3,none⟩) (Kd.R_far (p:=⟨al,2,none⟩) (Kd.R_far (p:=⟨al,1,none⟩) (Kd.R_far (p:=⟨al,0,none⟩) (Kd.R_types ah.out ag.out (by decide)) (fun _ hk=>hk.2) (.bool aw)) (fun _ hk=>hk.2) (.slice bb aa.length aW)) (fun _ hk=>hk.2) (.slice bc ao.length aX)) (fun _ hk=>hk.2) (.slice aD ar.length aE)) (fun _ hk=>hk.1.2)))⟩;replace ai:Aside0 (Kd.R (Kd.int .i64) 3 w37 w.heap.size (fun k_=>some k_≠(.slice aD ar.length aE:Value).ownBlock) (.slice aA aq.length aC) aq):=⟨(by rw [hw];exact (by (with_reducible repeat (first|apply Kd.R_alloc|apply Kd.R_drewN|apply Kd.R_drew));exact Kd.R_mono (Kd.R_far (p:=⟨al,3,none⟩) (Kd.R_far (p:=⟨al,2,none⟩) (Kd.R_far (p:=⟨al,1,none⟩) (Kd.R_far (p:=⟨al,0,none⟩) (Kd.R_types ai.out ag.out (by decide)) (fun _ hk=>hk.2) (.bool aw)) (fun _ hk=>hk.2) (.slice bb aa.length aW)) (fun _ hk=>hk.2) (.slice bc ao.length aX)) (fun _ hk=>hk.2) (.slice aD ar.length aE)) (fun _ hk=>hk.1.2)))⟩;replace bO:Aside0 (Kd.R k56 56 w37 w.heap.size (fun k_=>some k_≠(.slice aQ ak.length aT:Value).ownBlock) (.slice bb aa.length aW) aa):=⟨(by rw [hw];exact (by (with_reducible repeat (first|apply Kd.R_alloc|apply Kd.R_drewN|apply Kd.R_drew));exact Kd.R_mono (Kd.R_far (p:=⟨al,3,none⟩) (Kd.R_far (p:=⟨al,2,none⟩) (Kd.R_far (p:=⟨al,1,none⟩) (Kd.R_far (p:=⟨al,0,none⟩) (Kd.R_types bO.out ag.out (by decide)) (fun _ hk=>hk.2) (.bool aw)) (fun _ hk=>hk.2) (.slice bb aa.length aW)) (fun _ hk=>hk.2) (.slice bc ao.length aX)) (fun _ hk=>hk.2) (.slice aD ar.length aE)) (fun _ hk=>hk.1.2)))⟩;replace bU:Aside0 (Kd.R Kd.string 9 w37 w.heap.size (fun k_=>some k_≠(.slice aU am.length aV:Value).ownBlock) (.slice bc ao.length aX) ao):=⟨(by rw [hw];exact (by (with_reducible repeat (first|apply Kd.R_alloc|apply Kd.R_drewN|apply Kd.R_drew));exact Kd.R_mono (Kd.R_far (p:=⟨al,3,none⟩) (Kd.R_far (p:=⟨al,2,none⟩) (Kd.R_far (p:=⟨al,1,none⟩) (Kd.R_far (p:=⟨al,0,none⟩) (Kd.R_types bU.out ag.out (by decide)) (fun _ hk=>hk.2) (.bool aw)) (fun _ hk=>hk.2) (.slice bb aa.length aW)) (fun _ hk=>hk.2) (.slice bc ao.length aX)) (fun _ hk=>hk.2) (.slice aD ar.length aE)) (fun _ hk=>hk.1.2)))⟩;replace bX:Aside0 (Kd.R (Kd.int .i64) 3 w37 w.heap.size (fun k_=>some k_≠(.slice aA aq.length aC:Value).ownBlock) (.slice aD ar.length aE) ar):=⟨(by rw [hw];exact (by (with_reducible repeat (first|apply Kd.R_alloc|apply Kd.R_drewN|apply Kd.R_drew));exact Kd.R_mono (Kd.R_far (p:=⟨al,3,none⟩) (Kd.R_far (p:=⟨al,2,none⟩) (Kd.R_far (p:=⟨al,1,none⟩) (Kd.R_far (p:=⟨al,0,none⟩) (Kd.R_types bX.out ag.out (by decide)) (fun _ hk=>hk.2) (.bool aw)) (fun _ hk=>hk.2) (.slice bb aa.length aW)) (fun _ hk=>hk.2) (.slice bc ao.length aX)) (fun _ hk=>hk.2) (.slice aD ar.length aE)) (fun _ hk=>hk.1.2)))⟩;replace ae:=bE ae hw;replace ag:Aside0 (w37.heap[al]? = some (.cells #[.bool aw,.slice bb aa.length aW,.slice bc ao.length aX,.slice aD ar.length aE] 26 (0,0))):=bP ag hw;replace HB:=bH HB hw;clear hw))
   (try simp only [Act.put,List.setIfInBounds_toArray,List.set_cons_zero,List.set_cons_succ])
   go_cut [41] (fun v41 wc=>∃ (kq:Nat) (cp:Bool),v41 = .bool cp∧Aside0 (engrosslaw11_NodeOrder.j1 kq a1 a2 true cp az ak am aq aw aa ao ar=some r)∧Aside0 (kq≤kj6)∧Aside0 (Kd.R k56 56 wc w.heap.size (fun k_=>some k_≠((.slice bb aa.length aW):Value).ownBlock) (.slice aQ ak.length aT) ak)∧Aside0 (Kd.R Kd.string 9 wc w.heap.size (fun k_=>some k_≠((.slice bc ao.length aX):Value).ownBlock) (.slice aU am.length aV) am)∧Aside0 (Kd.R (Kd.int .i64) 3 wc w.heap.size (fun k_=>some k_≠((.slice aD ar.length aE):Value).ownBlock) (.slice aA aq.length aC) aq)∧Aside0 (Kd.R k56 56 wc w.heap.size (fun k_=>some k_≠((.slice aQ ak.length aT):Value).ownBlock) (.slice bb aa.length aW) aa)∧Aside0 (Kd.R Kd.string 9 wc w.heap.size (fun k_=>some k_≠((.slice aU am.length aV):Value).ownBlock) (.slice bc ao.length aX) ao)∧Aside0 (Kd.R (Kd.int .i64) 3 wc w.heap.size (fun k_=>some k_≠((.slice aA aq.length aC):Value).ownBlock) (.slice aD ar.length aE) ar)∧Aside0 (wc.heap[av]? = some (.cells #[.bool az,(.slice aQ ak.length aT),(.slice aU am.length aV),(.slice aA aq.length aC)] 26 (0,0)))∧Aside0 (wc.heap[al]? = some (.cells #[.bool aw,(.slice bb aa.length aW),(.slice bc ao.length aX),(.slice aD ar.length aE)] 26 (0,0)))∧Aside0 (Below w.heap.size w wc))
   case first =>
    have H:=d8.out
    clear d8
    by_cases c38:az=true
    ·subst c38
     have H1:(engrosslaw11_NodeOrder.j1 kj6 a1 a2 true (decide ((ak.length:Int)>1)) true ak am aq aw aa ao ar)=some r:=by rw [if_pos rfl] at H;exact H
     clear H
     have H:=H1
     clear H1
     have H':=aK H
     clear H
     have hnb39:=bf.out
     have hnc39:=bg.out
     obtain⟨eP,eQ,eR,eS,eT,eU,eV,eW⟩:=bf4 (w:=w37) ae
     go_wp2
     go_meet
     case rel=>exact⟨_,(decide ((ak.length:Int)>1)),(by first|rfl|(simp;done)|(simp [*];done)),H',⟨by have:=HJ6.out;first|omega|exact Nat.le_refl _⟩,⟨by (with_reducible repeat (first|apply Kd.R_alloc|apply Kd.R_drewN|apply Kd.R_drew));exact ac.out⟩,⟨by (with_reducible repeat (first|apply Kd.R_alloc|apply Kd.R_drewN|apply Kd.R_drew));exact ah.out⟩,⟨by (with_reducible repeat (first|apply Kd.R_alloc|apply Kd.R_drewN|apply Kd.R_drew));exact ai.out⟩,⟨by (with_reducible repeat (first|apply Kd.R_alloc|apply Kd.R_drewN|apply Kd.R_drew));exact bO.out⟩,⟨by (with_reducible repeat (first|apply Kd.R_alloc|apply Kd.R_drewN|apply Kd.R_drew));exact bU.out⟩,⟨by (with_reducible repeat (first|apply Kd.R_alloc|apply Kd.R_drewN|apply Kd.R_drew));exact bX.out⟩,bK ae,bK ag,bV HB⟩
    replace c38:=Bool.eq_false_iff.mpr c38
    subst c38
    have H1:(engrosslaw11_NodeOrder.j1 kj6 a1 a2 true false false ak am aq aw aa ao ar)=some r:=by rw [if_neg (show ¬ (false=true) by decide)] at H;exact H
    clear H
    have H:=H1
    clear H1
    have H':=aK H
    clear H
    have hnb41:=bf.out
    have hnc41:=bg.out
    obtain⟨eX,eY,eZ,e8,e9,fa,fb,fd⟩:=bf4 (w:=w37) ae
    go_wp2
    go_meet
    case rel=>exact⟨_,(false),(by first|rfl|(simp;done)|(simp [*];done)),H',⟨by have:=HJ6.out;first|omega|exact Nat.le_refl _⟩,⟨by (with_reducible repeat (first|apply Kd.R_alloc|apply Kd.R_drewN|apply Kd.R_drew));exact ac.out⟩,⟨by (with_reducible repeat (first|apply Kd.R_alloc|apply Kd.R_drewN|apply Kd.R_drew));exact ah.out⟩,⟨by (with_reducible repeat (first|apply Kd.R_alloc|apply Kd.R_drewN|apply Kd.R_drew));exact ai.out⟩,⟨by (with_reducible repeat (first|apply Kd.R_alloc|apply Kd.R_drewN|apply Kd.R_drew));exact bO.out⟩,⟨by (with_reducible repeat (first|apply Kd.R_alloc|apply Kd.R_drewN|apply Kd.R_drew));exact bU.out⟩,⟨by (with_reducible repeat (first|apply Kd.R_alloc|apply Kd.R_drewN|apply Kd.R_drew));exact bX.out⟩,bK ae,bK ag,bV HB⟩
   case rest =>
    clear d8
    try clear c1
    try clear c2
    try clear p2
    try clear c3
    try clear c4
    try clear c5
    try clear c9
    try clear c11
    try clear c12
    try clear c15
    try clear c18
    try clear c19
    try clear bN
    try clear c26
    try clear c32
    try clear c38
    try clear c39
    try clear c41
    try clear cX cY cZ da
    try clear df dg dh di
    try clear dx dy dz dB
    try clear dG dH dI dJ
    try clear dn dp dq dr
    try clear ez eA eB eC
    try clear eH eI eJ eK
    try clear eP eQ eR eS
    try clear eX eY eZ e8
    try clear db dc dd de
    try clear dj dk dl dm
    try clear dC dD dE dF
    try clear dK dL dM dN
    try clear dt du dv dw
    try clear eD eE eF eG
    try clear eL eM eN eO
    try clear eT eU eV eW
    try clear e9 fa fb fd
    try clear p2
    obtain⟨kq,cp,rfl,HA,d9,ac,ah,ai,ab,af,aj,ae,ag,HB⟩:=hcut
    cases kq with
    | zero=>exact absurd HA.out (by simp [engrosslaw11_NodeOrder.j1])
    | succ bm =>
     have H:=HA.out
     clear HA
     simp only [engrosslaw11_NodeOrder.j1] at H
     have ed:=aK H
     clear H
     go_upto_if 41 with (fail)
     go_cut [9] (fun v9 wc=>∃ (kq:Nat) (ba:Bool) (cq:List (S56)) (ct:List ByteArray) (au:List (S56)) (ax:List ByteArray) (aY:Value) (aZ:Value) (b8:Value) (b9:Value),v9 = .bool ba∧Aside0 (engrosslaw11_NodeOrder.j2 kq ba aw au ax ar=some r)∧Aside0 (kq≤bm)∧Aside0 (Kd.R k56 56 wc w.heap.size (fun k_=>some k_≠(b8:Value).ownBlock) aY cq)∧Aside0 (Kd.R Kd.string 9 wc w.heap.size (fun k_=>some k_≠(b9:Value).ownBlock) aZ ct)∧Aside0 (Kd.R (Kd.int .i64) 3 wc w.heap.size (fun k_=>some k_≠((.slice aD ar.length aE):Value).ownBlock) (.slice aA aq.length aC) aq)∧Aside0 (Kd.R k56 56 wc w.heap.size (fun k_=>some k_≠(aY:Value).ownBlock) b8 au)∧Aside0 (Kd.R Kd.string 9 wc w.heap.size (fun k_=>some k_≠(aZ:Value).ownBlock) b9 ax)∧Aside0 (Kd.R (Kd.int .i64) 3 wc w.heap.size (fun k_=>some k_≠((.slice aA aq.length aC):Value).ownBlock) (.slice aD ar.length aE) ar)∧Aside0 (wc.heap[av]? = some (.cells #[.bool az,aY,aZ,(.slice aA aq.length aC)] 26 (0,0)))∧Aside0 (wc.heap[al]? = some (.cells #[.bool aw,b8,b9,(.slice aD ar.length aE)] 26 (0,0)))∧Aside0 (Below w.heap.size w wc))
     case first =>
      have H:=ed.out
      clear ed
      by_cases c44:cp=true
      rotate_left
      ·replace c44:=Bool.eq_false_iff.mpr c44
       subst c44
       have H1:(if (am.length:Int)>1 then (if (am.length:Int)=0 then (none) else (if 0≤(Int.tmod a2 (am.length:Int)) then (if (Int.tmod a2 (am.length:Int))<(ao.length:Int) then (if 0≤(Int.tmod a1 (am.length:Int)) then (if (Int.tmod a1 (am.length:Int))<(ao.length:Int) then (engrosslaw11_NodeOrder.j2 bm ((Int.tmod a1 (am.length:Int)) == (Int.tmod a2 (am.length:Int))) aw aa ((ao.set ((Int.tmod a1 (am.length:Int)):Int).toNat (rdOf ByteArray.empty ao (Int.tmod a2 (am.length:Int)))).set ((Int.tmod a2 (am.length:Int)):Int).toNat (rdOf ByteArray.empty ao (Int.tmod a1 (am.length:Int)))) ar) else (none)) else (none)) else (none)) else (none))) else (engrosslaw11_NodeOrder.j2 bm true aw aa ao ar))=some r:=by rw [if_neg (show ¬ (false=true) by decide)] at H;exact H
       clear H
       have H:=H1
       clear H1
       by_cases c58:(am.length:Int)>1
       rotate_left
       ·rw [if_neg c58] at H
        have ev:decide (1<(am.length:Int))=false:=decide_eq_false c58
        have ex:decide (1<am.length)=false:=decide_eq_false (by omega)
        clear c58
        have H':=aK H
        clear H
        have hnb74:=bf.out
        have hnc74:=bg.out
        obtain⟨fe,ff,fg,fh,fi,fj,fk,fl⟩:=bf4 (w:=wc) ae
        go_wp2
        go_meet
        case rel=>exact⟨_,(true),(ak),(am),(aa),(ao),(.slice aQ ak.length aT),(.slice aU am.length aV),(.slice bb aa.length aW),(.slice bc ao.length aX),(by first|rfl|(simp;done)|(simp [*];done)),H',⟨by have:=HJ6.out;have:=d9.out;first|omega|exact Nat.le_refl _⟩,⟨by (with_reducible repeat (first|apply Kd.R_alloc|apply Kd.R_drewN|apply Kd.R_drew));exact ac.out⟩,⟨by (with_reducible repeat (first|apply Kd.R_alloc|apply Kd.R_drewN|apply Kd.R_drew));exact ah.out⟩,⟨by (with_reducible repeat (first|apply Kd.R_alloc|apply Kd.R_drewN|apply Kd.R_drew));exact ai.out⟩,⟨by (with_reducible repeat (first|apply Kd.R_alloc|apply Kd.R_drewN|apply Kd.R_drew));exact ab.out⟩,⟨by (with_reducible repeat (first|apply Kd.R_alloc|apply Kd.R_drewN|apply Kd.R_drew));exact af.out⟩,⟨by (with_reducible repeat (first|apply Kd.R_alloc|apply Kd.R_drewN|apply Kd.R_drew));exact aj.out⟩,bK ae,bK ag,bV HB⟩
       rw [if_pos c58] at H
       have ev:decide (1<(am.length:Int))=true:=decide_eq_true c58
       have ex:decide (1<am.length)=true:=decide_eq_true (by omega)
       clear c58
       by_cases c59:(am.length:Int)=0
       ·rw [if_pos c59] at H
        exact absurd H (by simp)
       rw [if_neg c59] at H
       have f6:((am.length:Int) == 0)=false:=beq_eq_false_iff_ne.mpr c59
       have f7:((am.length:Int) != 0)=true:=bne_iff_ne.mpr c59
       have f8:¬ (am = []):=fun h_=>c59 (by rw [h_];rfl)
       obtain⟨ji60,hji60⟩:∃ j_:Int,(Int.tmod a2 (am.length:Int))=j_:=⟨_,rfl⟩
       replace H:(if 0≤(ji60) then (if (ji60)<(ao.length:Int) then (if 0≤(Int.tmod a1 (am.length:Int)) then (if (Int.tmod a1 (am.length:Int))<(ao.length:Int) then (engrosslaw11_NodeOrder.j2 bm ((Int.tmod a1 (am.length:Int)) == (ji60)) aw aa ((ao.set ((Int.tmod a1 (am.length:Int)):Int).toNat (rdOf ByteArray.empty ao (ji60))).set ((ji60):Int).toNat (rdOf ByteArray.empty ao (Int.tmod a1 (am.length:Int)))) ar) else (none)) else (none)) else (none)) else (none))=some r:=by first|(rw [hji60] at H;exact H)|(simp only [hji60] at H ⊢;exact H)
       by_cases c61:0≤(ji60)
       rotate_left
       ·rw [if_neg c61] at H
        exact absurd H (by simp)
       rw [if_pos c61] at H
       have ga:decide (0≤(ji60))=true:=decide_eq_true c61
       clear c61
       by_cases c62:(ji60)<(ao.length:Int)
       rotate_left
       ·rw [if_neg c62] at H
        exact absurd H (by simp)
       rw [if_pos c62] at H
       have gb:decide ((ji60)<(ao.length:Int))=true:=decide_eq_true c62
       clear c62
       obtain⟨ji63,hji63⟩:∃ j_:Int,(Int.tmod a1 (am.length:Int))=j_:=⟨_,rfl⟩
       replace H:(if 0≤(ji63) then (if (ji63)<(ao.length:Int) then (engrosslaw11_NodeOrder.j2 bm ((ji63) == (ji60)) aw aa ((ao.set ((ji63):Int).toNat (rdOf ByteArray.empty ao (ji60))).set ((ji60):Int).toNat (rdOf ByteArray.empty ao (ji63))) ar) else (none)) else (none))=some r:=by first|(rw [hji63] at H;exact H)|(simp only [hji63] at H ⊢;exact H)
       by_cases c64:0≤(ji63)
       rotate_left
       ·rw [if_neg c64] at H
        exact absurd H (by simp)
       rw [if_pos c64] at H
       have gc:decide (0≤(ji63))=true:=decide_eq_true c64
       clear c64
       by_cases c65:(ji63)<(ao.length:Int)
       rotate_left
       ·rw [if_neg c65] at H
        exact absurd H (by simp)
       rw [if_pos c65] at H
       have gf:decide ((ji63)<(ao.length:Int))=true:=decide_eq_true c65
       clear c65
       obtain⟨fC,hy445⟩:∃ y_:List ByteArray,y_=(ao.set ((ji63):Int).toNat (rdOf ByteArray.empty ao (ji60))):=⟨_,rfl⟩
       replace H:(engrosslaw11_NodeOrder.j2 bm ((ji63) == (ji60)) aw aa (fC.set ((ji60):Int).toNat (rdOf ByteArray.empty ao (ji63))) ar)=some r:=by first|(rw [hy445];with_reducible exact H)|(have H2_:=(Option.bind_some _ _).symm.trans H;rw [hy445];with_reducible exact H2_)|(have H2_:=(Option.bind_some _ _).symm.trans H;with_reducible exact H2_)|with_reducible exact H|(rw [hy445];exact H)|exact H
       have Ny445:=aK hy445
       clear hy445
       obtain⟨fD,hy446⟩:∃ y_:List ByteArray,y_=(fC.set ((ji60):Int).toNat (rdOf ByteArray.empty ao (ji63))):=⟨_,rfl⟩
       replace H:(engrosslaw11_NodeOrder.j2 bm ((ji63) == (ji60)) aw aa fD ar)=some r:=by first|(rw [hy446];with_reducible exact H)|(have H2_:=(Option.bind_some _ _).symm.trans H;rw [hy446];with_reducible exact H2_)|(have H2_:=(Option.bind_some _ _).symm.trans H;with_reducible exact H2_)|with_reducible exact H|(rw [hy446];exact H)|exact H
       have Ny446:=aK hy446
       clear hy446
       have H':=aK H
       clear H
       have hnb68:=bf.out
       have hnc68:=bg.out
       obtain⟨fm,fp,fq,ft,fu,fv,fw,fz⟩:=bf4 (w:=wc) ae
       try go_wp2
       replace ac:=aK (Kd.R_drew ac.out)
       replace ah:=aK (Kd.R_drew ah.out)
       replace ai:=aK (Kd.R_drew ai.out)
       replace ab:=aK (Kd.R_drew ab.out)
       replace af:=aK (Kd.R_drew af.out)
       replace aj:=aK (Kd.R_drew aj.out)
       replace ae:=aK (blk_drew ae.out)
       replace ag:=aK (blk_drew ag.out)
       replace HB:=aK (below_drew1 HB.out)
       refine start_ (n:=12) (S:=fun w'=>w'.cell? ⟨av,0,none⟩=some (.bool az)∧w'.cell? ⟨av,1,none⟩=some (.slice aQ ak.length aT)∧w'.cell? ⟨av,2,none⟩=some (.slice aU am.length aV)∧w'.cell? ⟨av,3,none⟩=some (.slice aA aq.length aC)) (ds:=[]) #[false,false,false,false,false,false,false,false,false,false,false,false] (by kernel_rfl) rfl rfl (be4 ae) (fun hHeld=>?_);refine with_tabW engrosslaw11_NodeOrder.tab14 engrosslaw11_NodeOrder.bits14 (fun HT_ HW_=>?_)
       generalize wc.drew=w70 at ac ah ai ab af aj ae ag HB hHeld ⊢
       refine pA 0 77 HT_ ?_
       refine pA 1 78 HT_ ?_
       refine pA 5 82 HT_ ?_
       refine pA 6 83 HT_ ?_
       refine tA 2 79 HT_ HW_ hHeld ?_ (hy:=by rintro w' ⟨s0,s1,s2,s3⟩;go_simp;with_reducible rfl)
       refine pA 3 80 HT_ ?_
       refine pA 4 81 HT_ ?_
       refine pA 10 12 HT_ ?_
       refine tA 7 84 HT_ HW_ hHeld ?_ (hy:=by rintro w' ⟨s0,s1,s2,s3⟩;go_simp;with_reducible rfl)
       refine pA 8 85 HT_ ?_
       refine pA 9 86 HT_ ?_
       refine pA 11 13 HT_ ?_
       refine done_ (done_of HT_.out (by kernel_rfl)) ?_
       try go_wp2
       replace ac:=aK (Kd.R_drew ac.out)
       replace ah:=aK (Kd.R_drew ah.out)
       replace ai:=aK (Kd.R_drew ai.out)
       replace ab:=aK (Kd.R_drew ab.out)
       replace af:=aK (Kd.R_drew af.out)
       replace aj:=aK (Kd.R_drew aj.out)
       replace ae:=aK (blk_drew ae.out)
       replace ag:=aK (blk_drew ag.out)
       replace HB:=aK (below_drew1 HB.out)
       have dV:0≤((ji60):Int):=dA
       have dW:(ji60)<(ao.length:Int):=dA
       obtain⟨gg,e443,ca⟩:=Kd.at_string (Kd.R_reads' af.out).2.2 (ji60) dV dW
       cases e443
       replace dV:=eq_true dV
       replace dW:=eq_true dW
       have dX:0≤((ji63):Int):=dA
       have dY:(ji63)<(ao.length:Int):=dA
       obtain⟨gh,e444,cb⟩:=Kd.at_string (Kd.R_reads' af.out).2.2 (ji63) dX dY
       obtain rfl:gg=gh:=(by injection e444)
       replace dX:=eq_true dX
       replace dY:=eq_true dY
       have p66:0≤((ji63):Int):=dA
       have q66:((ji63):Int)<((ao.length:Int):Int):=dA
       obtain⟨go66,i5,fE,fF,gl66,cl66,HG66⟩:=Kd.R_form af.out (by omega)
       (first|cases fE|(injection fE with ea_ en_ ec_;(first|subst ea_|(injection ea_ with ea_;subst ea_));subst ec_;clear en_))
       have GB66:=aK fF
       have GG66:=aK HG66
       clear fF gl66 HG66
       (first|simp only [add_plain] at ca|skip)
       (first|simp only [add_plain] at cb|skip)
       obtain⟨d6,hf66_0⟩:=Kd.R_celln (⟨#[]⟩:ByteArray) af.out ((ji63):Int) p66 q66
       replace p66:=eq_true p66
       replace q66:=eq_true q66
       have HP72:=Kd.R_putn af.out ((ji63):Int) (rdOf ByteArray.empty ao (ji60))
       rw [← Ny445.out] at HP72
       have HQ72:=aK HP72
       clear HP72
       have p67:0≤((ji60):Int):=dA
       have q67:((ji60):Int)<((ao.length:Int):Int):=dA
       obtain⟨d7,hf67_0⟩:=Kd.R_celln (⟨#[]⟩:ByteArray) HQ72.out ((ji60):Int) p67 q67
       replace p67:=eq_true p67
       replace q67:=eq_true q67
       have HP73:=Kd.R_putn HQ72.out ((ji60):Int) (rdOf ByteArray.empty ao (ji63))
       rw [← Ny446.out] at HP73
       have HQ73:=aK HP73
       clear HP73
       refine start_ (n:=20) (S:=fun w'=>w'.cell? ⟨al,0,none⟩=some (.bool aw)∧w'.cell? ⟨al,1,none⟩=some (.slice bb aa.length aW)∧w'.cell? ⟨al,2,none⟩=some (.slice (some ⟨go66,0,none⟩) ao.length aX)∧w'.cell? ⟨al,3,none⟩=some (.slice aD ar.length aE)∧w'.cell? ⟨go66,((ji60)).toNat,none⟩=some (.string (rdOf ByteArray.empty ao (ji60)))∧w'.cell? ⟨go66,((ji63)).toNat,none⟩=some (.string (rdOf ByteArray.empty ao (ji63)))) (ds:=[17,19]) #[false,false,false,false,false,false,false,false,false,false,false,false,false,false,false,false,false,false,false,false] (by kernel_rfl) rfl rfl (bn4 ag ⟨ca,cb⟩) (fun hHeld=>?_);refine with_tabW engrosslaw11_NodeOrder.tab15 engrosslaw11_NodeOrder.bits15 (fun HT_ HW_=>?_)
       generalize w70.drew=w71 at ac ah ai ab af aj ae ag HB GG66 HQ72 HQ73 hf66_0 hf67_0 ca cb d6 d7 hHeld ⊢
       refine pA 0 87 HT_ ?_
       refine pA 2 89 HT_ ?_
       refine pA 3 90 HT_ ?_
       refine pA 5 92 HT_ ?_
       refine pA 6 93 HT_ ?_
       refine pA 8 95 HT_ ?_
       refine pA 11 98 HT_ ?_
       refine pA 13 100 HT_ ?_
       refine tA 1 88 HT_ HW_ hHeld ?_ (hy:=by rintro w' ⟨s0,s1,s2,s3,s4,s5⟩;go_simp;with_reducible rfl)
       refine tA 7 94 HT_ HW_ hHeld ?_ (hy:=by rintro w' ⟨s0,s1,s2,s3,s4,s5⟩;go_simp;with_reducible rfl)
       refine pA 9 96 HT_ ?_
       refine tA 10 97 HT_ HW_ hHeld ?_ (hy:=by rintro w' ⟨s0,s1,s2,s3,s4,s5⟩;go_simp;with_reducible rfl)
       refine tA 12 99 HT_ HW_ hHeld ?_ (hy:=by rintro w' ⟨s0,s1,s2,s3,s4,s5⟩;go_simp;with_reducible rfl)
       refine pA 14 101 HT_ ?_
       refine tA 15 102 HT_ HW_ hHeld ?_ (hy:=by rintro w' ⟨s0,s1,s2,s3,s4,s5⟩;go_simp;with_reducible rfl)
       refine pA 16 103 HT_ ?_
       refine joinQ_ (A:=?_) (W:=?_) ?_ (fun hCont=>?_)
       rotate_left 3
       ·refine loadOrLast_ (i:=4) (j:=17) (Ni:=some 91) (Nj:=none) (v:=?_) (a':=?_) (fun w'=>w'.cell? ⟨al,0,none⟩=some (.bool aw)∧w'.cell? ⟨al,1,none⟩=some (.slice bb aa.length aW)∧w'.cell? ⟨al,2,none⟩=some (.slice (some ⟨go66,0,none⟩) ao.length aX)∧w'.cell? ⟨al,3,none⟩=some (.slice aD ar.length aE)) #[true,true,true,true,true,true,true,true,true,true,true,true,true,true,true,true,true,false,false,false] #[true,true,true,true,false,true,true,true,true,true,true,true,true,true,true,true,true,true,false,false] rfl rfl rfl rfl (by kernel_rfl) (by decide) (Or.inl ⟨by rfl,?_⟩) (be4 ag) ?_ ?_ (fun K hK=>?_)
        rotate_left
        ·rintro w' ⟨s0,s1,s2,s3⟩
         go_simp
         with_reducible rfl
        rotate_left
        ·simp only [Act.put,List.setIfInBounds_toArray,List.set_cons_zero,List.set_cons_succ,i64_w,i32_w]
         rfl
        ·skip
         refine last_ (i:=17) (N:=none) #[true,true,true,true,true,true,true,true,true,true,true,true,true,true,true,true,true,true,false,false] rfl rfl (one_of HT_.out (by kernel_rfl)) (by decide) (fun K hK=>?_)
         with_reducible refine skip_ (w1:=?_) (by with_unfolding_all rfl) (by with_unfolding_all rfl) ?_ ?_
         rotate_left
         ·go_simp
          rfl
         refine hK.out _ _ ?_
         clear hK K
         refine pA 18 104 HT_ ?_
         refine last_ (i:=19) (N:=none) #[true,true,true,true,true,true,true,true,true,true,true,true,true,true,true,true,true,true,true,true] rfl rfl (one_of HT_.out (by kernel_rfl)) (by decide) (fun K hK=>?_)
         with_reducible refine skip_ (w1:=?_) (by with_unfolding_all rfl) (by with_unfolding_all rfl) ?_ ?_
         rotate_left
         ·go_simp
          rfl
         refine hK.out _ _ ?_
         clear hK K
         refine done_ (done_of HT_.out (by kernel_rfl)) ?_
         exact hCont
        with_reducible refine skip_ (w1:=?_) (by with_unfolding_all rfl) (by with_unfolding_all rfl) ?_ ?_
        rotate_left
        ·go_simp
         rfl
        refine hK.out _ _ ?_
        clear hK K
        refine heldT_ (i:=4) (N:=some 91) (v:=?_) (a':=?_) (fun w'=>w'.cell? ⟨al,0,none⟩=some (.bool aw)∧w'.cell? ⟨al,1,none⟩=some (.slice bb aa.length aW)∧w'.cell? ⟨al,2,none⟩=some (.slice (some ⟨go66,0,none⟩) ao.length aX)∧w'.cell? ⟨al,3,none⟩=some (.slice aD ar.length aE)) #[true,true,true,true,true,true,true,true,true,true,true,true,true,true,true,true,true,true,false,false] rfl rfl (by kernel_rfl) (Or.inl ⟨by rfl,?_⟩) ⟨(by have nb_:al≠go66:=(by have h_:=Kd.R_ne af.out ag.out (by decide);intro e_;exact h_ (by rw [e_];rfl));(with_reducible repeat (refine (cell_far (p:=⟨go66,_,none⟩) nb_ _).trans ?_));exact (blk_cell ag.out 0).trans rfl),(by have nb_:al≠go66:=(by have h_:=Kd.R_ne af.out ag.out (by decide);intro e_;exact h_ (by rw [e_];rfl));(with_reducible repeat (refine (cell_far (p:=⟨go66,_,none⟩) nb_ _).trans ?_));exact (blk_cell ag.out 1).trans rfl),(by have nb_:al≠go66:=(by have h_:=Kd.R_ne af.out ag.out (by decide);intro e_;exact h_ (by rw [e_];rfl));(with_reducible repeat (refine (cell_far (p:=⟨go66,_,none⟩) nb_ _).trans ?_));exact (blk_cell ag.out 2).trans rfl),(by have nb_:al≠go66:=(by have h_:=Kd.R_ne af.out ag.out (by decide);intro e_;exact h_ (by rw [e_];rfl));(with_reducible repeat (refine (cell_far (p:=⟨go66,_,none⟩) nb_ _).trans ?_));exact (blk_cell ag.out 3).trans rfl)⟩ ?_ ?_
        rotate_left
        ·rintro w' ⟨s0,s1,s2,s3⟩
         go_simp
         with_reducible rfl
        rotate_left
        ·simp only [Act.put,List.setIfInBounds_toArray,List.set_cons_zero,List.set_cons_succ,i64_w,i32_w]
         rfl
        refine pA 18 104 HT_ ?_
        refine last_ (i:=19) (N:=none) #[true,true,true,true,true,true,true,true,true,true,true,true,true,true,true,true,true,true,true,true] rfl rfl (one_of HT_.out (by kernel_rfl)) (by decide) (fun K hK=>?_)
        with_reducible refine skip_ (w1:=?_) (by with_unfolding_all rfl) (by with_unfolding_all rfl) ?_ ?_
        rotate_left
        ·go_simp
         rfl
        refine hK.out _ _ ?_
        clear hK K
        refine done_ (done_of HT_.out (by kernel_rfl)) ?_
        exact hCont
       try go_wp2
       go_meet
       case rel=>exact⟨_,(((ji63) == (ji60))),(ak),(am),(aa),(fD),(.slice aQ ak.length aT),(.slice aU am.length aV),(.slice bb aa.length aW),(.slice (some ⟨go66,0,none⟩) ao.length aX),(by first|rfl|(simp;done)|(simp only [← hji60,← hji63] <;> (first|rfl|simp))|(simp [*];done)),H',⟨by have:=HJ6.out;have:=d9.out;first|omega|exact Nat.le_refl _⟩,⟨by (with_reducible repeat (first|apply Kd.R_alloc|apply Kd.R_drewN|apply Kd.R_drew));exact Kd.R_mono (Kd.R_far (p:=⟨go66,((ji60):Int).toNat,none⟩) (Kd.R_far (p:=⟨go66,((ji63):Int).toNat,none⟩) (Kd.R_types ac.out GG66.out (by decide)) (fun _ hk=>hk.2) (.string (rdOf ByteArray.empty ao (ji60)))) (fun _ hk=>hk.2) (.string (rdOf ByteArray.empty ao (ji63)))) (fun _ hk=>hk.1)⟩,⟨by (with_reducible repeat (first|apply Kd.R_alloc|apply Kd.R_drewN|apply Kd.R_drew));exact Kd.R_mono (Kd.R_far (p:=⟨go66,((ji60):Int).toNat,none⟩) (Kd.R_far (p:=⟨go66,((ji63):Int).toNat,none⟩) (Kd.R_mono ah.out (fun k_ hk=>(⟨hk,fun e_=>hk (by rw [e_];rfl)⟩:_∧k_≠go66))) (fun _ hk=>hk.2) (.string (rdOf ByteArray.empty ao (ji60)))) (fun _ hk=>hk.2) (.string (rdOf ByteArray.empty ao (ji63)))) (fun _ hk=>hk.1)⟩,⟨by (with_reducible repeat (first|apply Kd.R_alloc|apply Kd.R_drewN|apply Kd.R_drew));exact Kd.R_mono (Kd.R_far (p:=⟨go66,((ji60):Int).toNat,none⟩) (Kd.R_far (p:=⟨go66,((ji63):Int).toNat,none⟩) (Kd.R_types ai.out GG66.out (by decide)) (fun _ hk=>hk.2) (.string (rdOf ByteArray.empty ao (ji60)))) (fun _ hk=>hk.2) (.string (rdOf ByteArray.empty ao (ji63)))) (fun _ hk=>hk.1)⟩,⟨by (with_reducible repeat (first|apply Kd.R_alloc|apply Kd.R_drewN|apply Kd.R_drew));exact Kd.R_mono (Kd.R_far (p:=⟨go66,((ji60):Int).toNat,none⟩) (Kd.R_far (p:=⟨go66,((ji63):Int).toNat,none⟩) (Kd.R_types ab.out GG66.out (by decide)) (fun _ hk=>hk.2) (.string (rdOf ByteArray.empty ao (ji60)))) (fun _ hk=>hk.2) (.string (rdOf ByteArray.empty ao (ji63)))) (fun _ hk=>hk.1)⟩,⟨by (with_reducible repeat (first|apply Kd.R_alloc|apply Kd.R_drewN|apply Kd.R_drew));exact HQ73.out⟩,⟨by (with_reducible repeat (first|apply Kd.R_alloc|apply Kd.R_drewN|apply Kd.R_drew));exact Kd.R_mono (Kd.R_far (p:=⟨go66,((ji60):Int).toNat,none⟩) (Kd.R_far (p:=⟨go66,((ji63):Int).toNat,none⟩) (Kd.R_types aj.out GG66.out (by decide)) (fun _ hk=>hk.2) (.string (rdOf ByteArray.empty ao (ji60)))) (fun _ hk=>hk.2) (.string (rdOf ByteArray.empty ao (ji63)))) (fun _ hk=>hk.1)⟩,⟨by (with_reducible repeat (first|refine blk_drewN ?_ _|refine blk_drew ?_|refine blk_alloc ?_ _));refine blk_far ?_ (by have h_:=Kd.R_ne af.out ae.out (by decide);intro e_;exact h_ (by rw [e_];rfl)) _;(with_reducible repeat (first|refine blk_drewN ?_ _|refine blk_drew ?_|refine blk_alloc ?_ _));refine blk_far ?_ (by have h_:=Kd.R_ne af.out ae.out (by decide);intro e_;exact h_ (by rw [e_];rfl)) _;(with_reducible repeat (first|refine blk_drewN ?_ _|refine blk_drew ?_|refine blk_alloc ?_ _));exact ae.out⟩,⟨by (with_reducible repeat (first|refine blk_drewN ?_ _|refine blk_drew ?_|refine blk_alloc ?_ _));refine blk_far ?_ (by have h_:=Kd.R_ne af.out ag.out (by decide);intro e_;exact h_ (by rw [e_];rfl)) _;(with_reducible repeat (first|refine blk_drewN ?_ _|refine blk_drew ?_|refine blk_alloc ?_ _));refine blk_far ?_ (by have h_:=Kd.R_ne af.out ag.out (by decide);intro e_;exact h_ (by rw [e_];rfl)) _;(with_reducible repeat (first|refine blk_drewN ?_ _|refine blk_drew ?_|refine blk_alloc ?_ _));exact ag.out⟩,bV HB⟩
      subst c44
      have H1:(if (ak.length:Int)=0 then (none) else (if 0≤(Int.tmod a2 (ak.length:Int)) then (if (Int.tmod a2 (ak.length:Int))<(aa.length:Int) then (if 0≤(Int.tmod a1 (ak.length:Int)) then (if (Int.tmod a1 (ak.length:Int))<(aa.length:Int) then (engrosslaw11_NodeOrder.j2 bm ((Int.tmod a1 (ak.length:Int)) == (Int.tmod a2 (ak.length:Int))) aw ((aa.set ((Int.tmod a1 (ak.length:Int)):Int).toNat (⟨(rd_T56 aa (Int.tmod a2 (ak.length:Int))).f0,(⟨(rd_T56 aa (Int.tmod a2 (ak.length:Int))).f1.f0,(rd_T56 aa (Int.tmod a2 (ak.length:Int))).f1.f1,(rd_T56 aa (Int.tmod a2 (ak.length:Int))).f1.f2⟩:S54),(rd_T56 aa (Int.tmod a2 (ak.length:Int))).f2,(⟨(rd_T56 aa (Int.tmod a2 (ak.length:Int))).f3.f0,(rd_T56 aa (Int.tmod a2 (ak.length:Int))).f3.f1,(rd_T56 aa (Int.tmod a2 (ak.length:Int))).f3.f2⟩:S54)⟩:S56)).set ((Int.tmod a2 (ak.length:Int)):Int).toNat (⟨(rd_T56 aa (Int.tmod a1 (ak.length:Int))).f0,(⟨(rd_T56 aa (Int.tmod a1 (ak.length:Int))).f1.f0,(rd_T56 aa (Int.tmod a1 (ak.length:Int))).f1.f1,(rd_T56 aa (Int.tmod a1 (ak.length:Int))).f1.f2⟩:S54),(rd_T56 aa (Int.tmod a1 (ak.length:Int))).f2,(⟨(rd_T56 aa (Int.tmod a1 (ak.length:Int))).f3.f0,(rd_T56 aa (Int.tmod a1 (ak.length:Int))).f3.f1,(rd_T56 aa (Int.tmod a1 (ak.length:Int))).f3.f2⟩:S54)⟩:S56)) ao ar) else (none)) else (none)) else (none)) else (none)))=some r:=by rw [if_pos rfl] at H;exact H
      clear H
      have H:=H1
      clear H1
      by_cases c45:(ak.length:Int)=0
      ·rw [if_pos c45] at H
       exact absurd H (by simp)
      rw [if_neg c45] at H
      have ey:((ak.length:Int) == 0)=false:=beq_eq_false_iff_ne.mpr c45
      have iL:((ak.length:Int) != 0)=true:=bne_iff_ne.mpr c45
      have iM:¬ (ak = []):=fun h_=>c45 (by rw [h_];rfl)
      (first|rw [ey]|(simp only [i64_w,i32_w];rw [ey])|skip)
      obtain⟨ji46,hji46⟩:∃ j_:Int,(Int.tmod a2 (ak.length:Int))=j_:=⟨_,rfl⟩
      replace H:(if 0≤(ji46) then (if (ji46)<(aa.length:Int) then (if 0≤(Int.tmod a1 (ak.length:Int)) then (if (Int.tmod a1 (ak.length:Int))<(aa.length:Int) then (engrosslaw11_NodeOrder.j2 bm ((Int.tmod a1 (ak.length:Int)) == (ji46)) aw ((aa.set ((Int.tmod a1 (ak.length:Int)):Int).toNat (⟨(rd_T56 aa (ji46)).f0,(⟨(rd_T56 aa (ji46)).f1.f0,(rd_T56 aa (ji46)).f1.f1,(rd_T56 aa (ji46)).f1.f2⟩:S54),(rd_T56 aa (ji46)).f2,(⟨(rd_T56 aa (ji46)).f3.f0,(rd_T56 aa (ji46)).f3.f1,(rd_T56 aa (ji46)).f3.f2⟩:S54)⟩:S56)).set ((ji46):Int).toNat (⟨(rd_T56 aa (Int.tmod a1 (ak.length:Int))).f0,(⟨(rd_T56 aa (Int.tmod a1 (ak.length:Int))).f1.f0,(rd_T56 aa (Int.tmod a1 (ak.length:Int))).f1.f1,(rd_T56 aa (Int.tmod a1 (ak.length:Int))).f1.f2⟩:S54),(rd_T56 aa (Int.tmod a1 (ak.length:Int))).f2,(⟨(rd_T56 aa (Int.tmod a1 (ak.length:Int))).f3.f0,(rd_T56 aa (Int.tmod a1 (ak.length:Int))).f3.f1,(rd_T56 aa (Int.tmod a1 (ak.length:Int))).f3.f2⟩:S54)⟩:S56)) ao ar) else (none)) else (none)) else (none)) else (none))=some r:=by first|(rw [hji46] at H;exact H)|(simp only [hji46] at H ⊢;exact H)
      by_cases c47:0≤(ji46)
      rotate_left
      ·rw [if_neg c47] at H
       exact absurd H (by simp)
      rw [if_pos c47] at H
      have iN:decide (0≤(ji46))=true:=decide_eq_true c47
      clear c47
      by_cases c48:(ji46)<(aa.length:Int)
      rotate_left
      ·rw [if_neg c48] at H
       exact absurd H (by simp)
      rw [if_pos c48] at H
      have iO:decide ((ji46)<(aa.length:Int))=true:=decide_eq_true c48
      clear c48
      obtain⟨ji49,hji49⟩:∃ j_:Int,(Int.tmod a1 (ak.length:Int))=j_:=⟨_,rfl⟩
      replace H:(if 0≤(ji49) then (if (ji49)<(aa.length:Int) then (engrosslaw11_NodeOrder.j2 bm ((ji49) == (ji46)) aw ((aa.set ((ji49):Int).toNat (⟨(rd_T56 aa (ji46)).f0,(⟨(rd_T56 aa (ji46)).f1.f0,(rd_T56 aa (ji46)).f1.f1,(rd_T56 aa (ji46)).f1.f2⟩:S54),(rd_T56 aa (ji46)).f2,(⟨(rd_T56 aa (ji46)).f3.f0,(rd_T56 aa (ji46)).f3.f1,(rd_T56 aa (ji46)).f3.f2⟩:S54)⟩:S56)).set ((ji46):Int).toNat (⟨(rd_T56 aa (ji49)).f0,(⟨(rd_T56 aa (ji49)).f1.f0,(rd_T56 aa (ji49)).f1.f1,(rd_T56 aa (ji49)).f1.f2⟩:S54),(rd_T56 aa (ji49)).f2,(⟨(rd_T56 aa (ji49)).f3.f0,(rd_T56 aa (ji49)).f3.f1,(rd_T56 aa (ji49)).f3.f2⟩:S54)⟩:S56)) ao ar) else (none)) else (none))=some r:=by first|(rw [hji49] at H;exact H)|(simp only [hji49] at H ⊢;exact H)
      by_cases c50:0≤(ji49)
      rotate_left
      ·rw [if_neg c50] at H
       exact absurd H (by simp)
      rw [if_pos c50] at H
      have iP:decide (0≤(ji49))=true:=decide_eq_true c50
      clear c50
      by_cases c51:(ji49)<(aa.length:Int)
      rotate_left
      ·rw [if_neg c51] at H
       exact absurd H (by simp)
      rw [if_pos c51] at H
      have iQ:decide ((ji49)<(aa.length:Int))=true:=decide_eq_true c51
      clear c51
      obtain⟨bv,hy441⟩:∃ y_:List (S56),y_=(aa.set ((ji49):Int).toNat (⟨(rd_T56 aa (ji46)).f0,(⟨(rd_T56 aa (ji46)).f1.f0,(rd_T56 aa (ji46)).f1.f1,(rd_T56 aa (ji46)).f1.f2⟩:S54),(rd_T56 aa (ji46)).f2,(⟨(rd_T56 aa (ji46)).f3.f0,(rd_T56 aa (ji46)).f3.f1,(rd_T56 aa (ji46)).f3.f2⟩:S54)⟩:S56)):=⟨_,rfl⟩
      replace H:(engrosslaw11_NodeOrder.j2 bm ((ji49) == (ji46)) aw (bv.set ((ji46):Int).toNat (⟨(rd_T56 aa (ji49)).f0,(⟨(rd_T56 aa (ji49)).f1.f0,(rd_T56 aa (ji49)).f1.f1,(rd_T56 aa (ji49)).f1.f2⟩:S54),(rd_T56 aa (ji49)).f2,(⟨(rd_T56 aa (ji49)).f3.f0,(rd_T56 aa (ji49)).f3.f1,(rd_T56 aa (ji49)).f3.f2⟩:S54)⟩:S56)) ao ar)=some r:=by first|(rw [hy441];with_reducible exact H)|(have H2_:=(Option.bind_some _ _).symm.trans H;rw [hy441];with_reducible exact H2_)|(have H2_:=(Option.bind_some _ _).symm.trans H;with_reducible exact H2_)|with_reducible exact H|(rw [hy441];exact H)|exact H
      have Ny441:=aK hy441
      clear hy441
      obtain⟨fG,hy442⟩:∃ y_:List (S56),y_=(bv.set ((ji46):Int).toNat (⟨(rd_T56 aa (ji49)).f0,(⟨(rd_T56 aa (ji49)).f1.f0,(rd_T56 aa (ji49)).f1.f1,(rd_T56 aa (ji49)).f1.f2⟩:S54),(rd_T56 aa (ji49)).f2,(⟨(rd_T56 aa (ji49)).f3.f0,(rd_T56 aa (ji49)).f3.f1,(rd_T56 aa (ji49)).f3.f2⟩:S54)⟩:S56)):=⟨_,rfl⟩
      replace H:(engrosslaw11_NodeOrder.j2 bm ((ji49) == (ji46)) aw fG ao ar)=some r:=by first|(rw [hy442];with_reducible exact H)|(have H2_:=(Option.bind_some _ _).symm.trans H;rw [hy442];with_reducible exact H2_)|(have H2_:=(Option.bind_some _ _).symm.trans H;with_reducible exact H2_)|with_reducible exact H|(rw [hy442];exact H)|exact H
      have Ny442:=aK hy442
      clear hy442
      have H':=aK H
      clear H
      try go_wp2
      replace ac:=aK (Kd.R_drew ac.out)
      replace ah:=aK (Kd.R_drew ah.out)
      replace ai:=aK (Kd.R_drew ai.out)
      replace ab:=aK (Kd.R_drew ab.out)
      replace af:=aK (Kd.R_drew af.out)
      replace aj:=aK (Kd.R_drew aj.out)
      replace ae:=aK (blk_drew ae.out)
      replace ag:=aK (blk_drew ag.out)
      replace HB:=aK (below_drew1 HB.out)
      refine start_ (n:=12) (S:=fun w'=>w'.cell? ⟨av,0,none⟩=some (.bool az)∧w'.cell? ⟨av,1,none⟩=some (.slice aQ ak.length aT)∧w'.cell? ⟨av,2,none⟩=some (.slice aU am.length aV)∧w'.cell? ⟨av,3,none⟩=some (.slice aA aq.length aC)) (ds:=[]) #[false,false,false,false,false,false,false,false,false,false,false,false] (by kernel_rfl) rfl rfl (be4 ae) (fun hHeld=>?_);refine with_tabW engrosslaw11_NodeOrder.tab10 engrosslaw11_NodeOrder.bits10 (fun HT_ HW_=>?_)
      generalize wc.drew=w54 at ac ah ai ab af aj ae ag HB hHeld ⊢
      refine pA 0 42 HT_ ?_
      refine pA 1 43 HT_ ?_
      refine pA 5 47 HT_ ?_
      refine pA 6 48 HT_ ?_
      refine tA 2 44 HT_ HW_ hHeld ?_ (hy:=by rintro w' ⟨s0,s1,s2,s3⟩;go_simp;with_reducible rfl)
      refine pA 3 45 HT_ ?_
      refine pA 4 46 HT_ ?_
      refine pA 10 10 HT_ ?_
      refine tA 7 49 HT_ HW_ hHeld ?_ (hy:=by rintro w' ⟨s0,s1,s2,s3⟩;go_simp;with_reducible rfl)
      refine pA 8 50 HT_ ?_
      refine pA 9 51 HT_ ?_
      refine pA 11 11 HT_ ?_
      refine done_ (done_of HT_.out (by kernel_rfl)) ?_
      try go_wp2
      replace ac:=aK (Kd.R_drew ac.out)
      replace ah:=aK (Kd.R_drew ah.out)
      replace ai:=aK (Kd.R_drew ai.out)
      replace ab:=aK (Kd.R_drew ab.out)
      replace af:=aK (Kd.R_drew af.out)
      replace aj:=aK (Kd.R_drew aj.out)
      replace ae:=aK (blk_drew ae.out)
      replace ag:=aK (blk_drew ag.out)
      replace HB:=aK (below_drew1 HB.out)
      have eg:0≤((ji46):Int):=dA
      have eh:(ji46)<(aa.length:Int):=dA
      obtain⟨gi,e439,cu,cv,cw,cx,cz,cA,cB,cC⟩:=at_T56 (Kd.R_reads' ab.out).2.2 (ji46) eg eh
      cases e439
      replace eg:=eq_true eg
      replace eh:=eq_true eh
      have ei:0≤((ji49):Int):=dA
      have ej:(ji49)<(aa.length:Int):=dA
      obtain⟨gj,e440,cD,cE,cF,cG,cH,cI,cJ,cK⟩:=at_T56 (Kd.R_reads' ab.out).2.2 (ji49) ei ej
      obtain rfl:gi=gj:=(by injection e440)
      replace ei:=eq_true ei
      replace ej:=eq_true ej
      have p52:0≤((ji49):Int):=dA
      have q52:((ji49):Int)<((aa.length:Int):Int):=dA
      obtain⟨go52,i6,fH,fI,gl52,cl52,HG52⟩:=Kd.R_form ab.out (by omega)
      (first|cases fH|(injection fH with ea_ en_ ec_;(first|subst ea_|(injection ea_ with ea_;subst ea_));subst ec_;clear en_))
      have GB52:=aK fI
      have GG52:=aK HG52
      clear fI gl52 HG52
      (first|simp only [add_plain] at cu|skip)
      (first|simp only [add_plain] at cv|skip)
      (first|simp only [add_plain] at cw|skip)
      (first|simp only [add_plain] at cx|skip)
      (first|simp only [add_plain] at cz|skip)
      (first|simp only [add_plain] at cA|skip)
      (first|simp only [add_plain] at cB|skip)
      (first|simp only [add_plain] at cC|skip)
      (first|simp only [add_plain] at cD|skip)
      (first|simp only [add_plain] at cE|skip)
      (first|simp only [add_plain] at cF|skip)
      (first|simp only [add_plain] at cG|skip)
      (first|simp only [add_plain] at cH|skip)
      (first|simp only [add_plain] at cI|skip)
      (first|simp only [add_plain] at cJ|skip)
      (first|simp only [add_plain] at cK|skip)
      obtain⟨ce52,hcl52,hM52,hcc52,hfr52⟩:=Kd.R_elem ab.out z56 ((ji49):Int) p52 q52
      obtain rfl:=k56_openM hM52
      have fJ:World.cell? _ ⟨go52,((ji49):Int).toNat * 8,none⟩=some (.string ((rd_T56 aa (ji49)).f0)):=hcc52 0 _ rfl
      have fK:World.cell? _ ⟨go52,((ji49):Int).toNat * 8+1,none⟩=some (.int .i64 ((rd_T56 aa (ji49)).f1.f0)):=hcc52 1 _ rfl
      have fL:World.cell? _ ⟨go52,((ji49):Int).toNat * 8+2,none⟩=some (.float .f64 ((rd_T56 aa (ji49)).f1.f1)):=hcc52 2 _ rfl
      have fM:World.cell? _ ⟨go52,((ji49):Int).toNat * 8+3,none⟩=some (.string ((rd_T56 aa (ji49)).f1.f2)):=hcc52 3 _ rfl
      have fN:World.cell? _ ⟨go52,((ji49):Int).toNat * 8+4,none⟩=some (.int .i64 ((rd_T56 aa (ji49)).f2)):=hcc52 4 _ rfl
      have fO:World.cell? _ ⟨go52,((ji49):Int).toNat * 8+5,none⟩=some (.int .i64 ((rd_T56 aa (ji49)).f3.f0)):=hcc52 5 _ rfl
      have fP:World.cell? _ ⟨go52,((ji49):Int).toNat * 8+6,none⟩=some (.float .f64 ((rd_T56 aa (ji49)).f3.f1)):=hcc52 6 _ rfl
      have fQ:World.cell? _ ⟨go52,((ji49):Int).toNat * 8+7,none⟩=some (.string ((rd_T56 aa (ji49)).f3.f2)):=hcc52 7 _ rfl
      have hf52_0:World.frozen? _ ⟨go52,((ji49):Int).toNat * 8,none⟩=false:=hfr52 0
      have hf52_1:World.frozen? _ ⟨go52,((ji49):Int).toNat * 8+1,none⟩=false:=hfr52 1
      have hf52_2:World.frozen? _ ⟨go52,((ji49):Int).toNat * 8+2,none⟩=false:=hfr52 2
      have hf52_3:World.frozen? _ ⟨go52,((ji49):Int).toNat * 8+3,none⟩=false:=hfr52 3
      have hf52_4:World.frozen? _ ⟨go52,((ji49):Int).toNat * 8+4,none⟩=false:=hfr52 4
      have hf52_5:World.frozen? _ ⟨go52,((ji49):Int).toNat * 8+5,none⟩=false:=hfr52 5
      have hf52_6:World.frozen? _ ⟨go52,((ji49):Int).toNat * 8+6,none⟩=false:=hfr52 6
      have hf52_7:World.frozen? _ ⟨go52,((ji49):Int).toNat * 8+7,none⟩=false:=hfr52 7
      clear hcl52 hcc52 hfr52 hM52
      replace p52:=eq_true p52
      replace q52:=eq_true q52
      obtain⟨ce56,hcl56,hM56,hcc56,hfr56⟩:=Kd.R_elem ab.out z56 ((ji49):Int) (dA) (by have h_:((ji49):Int)<((aa.length:Int):Int):=dA;first|exact h_|(have e_:=(Kd.R_reads' ab.out).1;omega)|simpa using h_)
      obtain rfl:=k56_openM hM56
      have HP56:=(Kd.R_seg ab.out ((ji49):Int) (dA) (by have h_:((ji49):Int)<((aa.length:Int):Int):=dA;first|exact h_|(have e_:=(Kd.R_reads' ab.out).1;omega)|simpa using h_) (seg:=[.string ((rd_T56 aa (ji46)).f0),.int .i64 ((rd_T56 aa (ji46)).f1.f0),.float .f64 ((rd_T56 aa (ji46)).f1.f1),.string ((rd_T56 aa (ji46)).f1.f2),.int .i64 ((rd_T56 aa (ji46)).f2),.int .i64 ((rd_T56 aa (ji46)).f3.f0),.float .f64 ((rd_T56 aa (ji46)).f3.f1),.string ((rd_T56 aa (ji46)).f3.f2)]) (j:=0) hcl56 hcc56 (show 8≤8 from by decide) (x':=(⟨(rd_T56 aa (ji46)).f0,(⟨(rd_T56 aa (ji46)).f1.f0,(rd_T56 aa (ji46)).f1.f1,(rd_T56 aa (ji46)).f1.f2⟩:S54),(rd_T56 aa (ji46)).f2,(⟨(rd_T56 aa (ji46)).f3.f0,(rd_T56 aa (ji46)).f3.f1,(rd_T56 aa (ji46)).f3.f2⟩:S54)⟩:S56)) (k56_mkM _ _ _ (⟨(rd_T56 aa (ji46)).f0,(⟨(rd_T56 aa (ji46)).f1.f0,(rd_T56 aa (ji46)).f1.f1,(rd_T56 aa (ji46)).f1.f2⟩:S54),(rd_T56 aa (ji46)).f2,(⟨(rd_T56 aa (ji46)).f3.f0,(rd_T56 aa (ji46)).f3.f1,(rd_T56 aa (ji46)).f3.f2⟩:S54)⟩:S56) ) (fun _ hk=>hk)).1
      rw [← Ny441.out] at HP56
      have HQ56:=aK HP56
      clear hcl56 hcc56 hfr56 hM56 HP56
      have p53:0≤((ji46):Int):=dA
      have q53:((ji46):Int)<((aa.length:Int):Int):=dA
      obtain⟨ce53,hcl53,hM53,hcc53,hfr53⟩:=Kd.R_elem HQ56.out z56 ((ji46):Int) p53 q53
      obtain rfl:=k56_openM hM53
      have bw:World.cell? _ ⟨go52,((ji46):Int).toNat * 8,none⟩=some (.string ((rd_T56 bv (ji46)).f0)):=hcc53 0 _ rfl
      have bx:World.cell? _ ⟨go52,((ji46):Int).toNat * 8+1,none⟩=some (.int .i64 ((rd_T56 bv (ji46)).f1.f0)):=hcc53 1 _ rfl
      have bA:World.cell? _ ⟨go52,((ji46):Int).toNat * 8+2,none⟩=some (.float .f64 ((rd_T56 bv (ji46)).f1.f1)):=hcc53 2 _ rfl
      have bD:World.cell? _ ⟨go52,((ji46):Int).toNat * 8+3,none⟩=some (.string ((rd_T56 bv (ji46)).f1.f2)):=hcc53 3 _ rfl
      have bF:World.cell? _ ⟨go52,((ji46):Int).toNat * 8+4,none⟩=some (.int .i64 ((rd_T56 bv (ji46)).f2)):=hcc53 4 _ rfl
      have bI:World.cell? _ ⟨go52,((ji46):Int).toNat * 8+5,none⟩=some (.int .i64 ((rd_T56 bv (ji46)).f3.f0)):=hcc53 5 _ rfl
      have bJ:World.cell? _ ⟨go52,((ji46):Int).toNat * 8+6,none⟩=some (.float .f64 ((rd_T56 bv (ji46)).f3.f1)):=hcc53 6 _ rfl
      have bM:World.cell? _ ⟨go52,((ji46):Int).toNat * 8+7,none⟩=some (.string ((rd_T56 bv (ji46)).f3.f2)):=hcc53 7 _ rfl
      have hf53_0:World.frozen? _ ⟨go52,((ji46):Int).toNat * 8,none⟩=false:=hfr53 0
      have hf53_1:World.frozen? _ ⟨go52,((ji46):Int).toNat * 8+1,none⟩=false:=hfr53 1
      have hf53_2:World.frozen? _ ⟨go52,((ji46):Int).toNat * 8+2,none⟩=false:=hfr53 2
      have hf53_3:World.frozen? _ ⟨go52,((ji46):Int).toNat * 8+3,none⟩=false:=hfr53 3
      have hf53_4:World.frozen? _ ⟨go52,((ji46):Int).toNat * 8+4,none⟩=false:=hfr53 4
      have hf53_5:World.frozen? _ ⟨go52,((ji46):Int).toNat * 8+5,none⟩=false:=hfr53 5
      have hf53_6:World.frozen? _ ⟨go52,((ji46):Int).toNat * 8+6,none⟩=false:=hfr53 6
      have hf53_7:World.frozen? _ ⟨go52,((ji46):Int).toNat * 8+7,none⟩=false:=hfr53 7
      clear hcl53 hcc53 hfr53 hM53
      replace p53:=eq_true p53
      replace q53:=eq_true q53
      obtain⟨ce57,hcl57,hM57,hcc57,hfr57⟩:=Kd.R_elem HQ56.out z56 ((ji46):Int) (dA) (by have h_:((ji46):Int)<((aa.length:Int):Int):=dA;first|exact h_|(have e_:=(Kd.R_reads' ab.out).1;omega)|simpa using h_)
      obtain rfl:=k56_openM hM57
      have HP57:=(Kd.R_seg HQ56.out ((ji46):Int) (dA) (by have h_:((ji46):Int)<((aa.length:Int):Int):=dA;first|exact h_|(have e_:=(Kd.R_reads' ab.out).1;omega)|simpa using h_) (seg:=[.string ((rd_T56 aa (ji49)).f0),.int .i64 ((rd_T56 aa (ji49)).f1.f0),.float .f64 ((rd_T56 aa (ji49)).f1.f1),.string ((rd_T56 aa (ji49)).f1.f2),.int .i64 ((rd_T56 aa (ji49)).f2),.int .i64 ((rd_T56 aa (ji49)).f3.f0),.float .f64 ((rd_T56 aa (ji49)).f3.f1),.string ((rd_T56 aa (ji49)).f3.f2)]) (j:=0) hcl57 hcc57 (show 8≤8 from by decide) (x':=(⟨(rd_T56 aa (ji49)).f0,(⟨(rd_T56 aa (ji49)).f1.f0,(rd_T56 aa (ji49)).f1.f1,(rd_T56 aa (ji49)).f1.f2⟩:S54),(rd_T56 aa (ji49)).f2,(⟨(rd_T56 aa (ji49)).f3.f0,(rd_T56 aa (ji49)).f3.f1,(rd_T56 aa (ji49)).f3.f2⟩:S54)⟩:S56)) (k56_mkM _ _ _ (⟨(rd_T56 aa (ji49)).f0,(⟨(rd_T56 aa (ji49)).f1.f0,(rd_T56 aa (ji49)).f1.f1,(rd_T56 aa (ji49)).f1.f2⟩:S54),(rd_T56 aa (ji49)).f2,(⟨(rd_T56 aa (ji49)).f3.f0,(rd_T56 aa (ji49)).f3.f1,(rd_T56 aa (ji49)).f3.f2⟩:S54)⟩:S56) ) (fun _ hk=>hk)).1
      rw [← Ny442.out] at HP57
      have HQ57:=aK HP57
      clear hcl57 hcc57 hfr57 hM57 HP57
      refine start_ (n:=20) (S:=fun w'=>w'.cell? ⟨al,0,none⟩=some (.bool aw)∧w'.cell? ⟨al,1,none⟩=some (.slice (some ⟨go52,0,none⟩) aa.length aW)∧w'.cell? ⟨al,2,none⟩=some (.slice bc ao.length aX)∧w'.cell? ⟨al,3,none⟩=some (.slice aD ar.length aE)∧w'.cell? ⟨go52,(((ji46)).toNat * 8),none⟩=some (.string ((rd_T56 aa (ji46)).f0))∧w'.cell? ⟨go52,(((ji46)).toNat * 8)+1,none⟩=some (.int .i64 ((rd_T56 aa (ji46)).f1.f0))∧w'.cell? ⟨go52,(((ji46)).toNat * 8)+2,none⟩=some (.float .f64 ((rd_T56 aa (ji46)).f1.f1))∧w'.cell? ⟨go52,(((ji46)).toNat * 8)+3,none⟩=some (.string ((rd_T56 aa (ji46)).f1.f2))∧w'.cell? ⟨go52,(((ji46)).toNat * 8)+4,none⟩=some (.int .i64 ((rd_T56 aa (ji46)).f2))∧w'.cell? ⟨go52,(((ji46)).toNat * 8)+5,none⟩=some (.int .i64 ((rd_T56 aa (ji46)).f3.f0))∧w'.cell? ⟨go52,(((ji46)).toNat * 8)+6,none⟩=some (.float .f64 ((rd_T56 aa (ji46)).f3.f1))∧w'.cell? ⟨go52,(((ji46)).toNat * 8)+7,none⟩=some (.string ((rd_T56 aa (ji46)).f3.f2))∧w'.cell? ⟨go52,(((ji49)).toNat * 8),none⟩=some (.string ((rd_T56 aa (ji49)).f0))∧w'.cell? ⟨go52,(((ji49)).toNat * 8)+1,none⟩=some (.int .i64 ((rd_T56 aa (ji49)).f1.f0))∧w'.cell? ⟨go52,(((ji49)).toNat * 8)+2,none⟩=some (.float .f64 ((rd_T56 aa (ji49)).f1.f1))∧w'.cell? ⟨go52,(((ji49)).toNat * 8)+3,none⟩=some (.string ((rd_T56 aa (ji49)).f1.f2))∧w'.cell? ⟨go52,(((ji49)).toNat * 8)+4,none⟩=some (.int .i64 ((rd_T56 aa (ji49)).f2))∧w'.cell? ⟨go52,(((ji49)).toNat * 8)+5,none⟩=some (.int .i64 ((rd_T56 aa (ji49)).f3.f0))∧w'.cell? ⟨go52,(((ji49)).toNat * 8)+6,none⟩=some (.float .f64 ((rd_T56 aa (ji49)).f3.f1))∧w'.cell? ⟨go52,(((ji49)).toNat * 8)+7,none⟩=some (.string ((rd_T56 aa (ji49)).f3.f2))) (ds:=[17,19]) #[false,false,false,false,false,false,false,false,false,false,false,false,false,false,false,false,false,false,false,false] (by kernel_rfl) rfl rfl (bn4 ag ⟨cu,cv,cw,cx,cz,cA,cB,cC,cD,cE,cF,cG,cH,cI,cJ,cK⟩) (fun hHeld=>?_);refine with_tabW engrosslaw11_NodeOrder.tab11 engrosslaw11_NodeOrder.bits11 (fun HT_ HW_=>?_)
      generalize w54.drew=w55 at ac ah ai ab af aj ae ag HB GG52 HQ56 HQ57 hf52_0 hf52_1 hf52_2 hf52_3 hf52_4 hf52_5 hf52_6 hf52_7 hf53_0 hf53_1 hf53_2 hf53_3 hf53_4 hf53_5 hf53_6 hf53_7 cu cv cw cx cz cA cB cC cD cE cF cG cH cI cJ cK fJ fK fL fM fN fO fP fQ bw bx bA bD bF bI bJ bM hHeld ⊢
      refine pA 0 52 HT_ ?_
      refine pA 2 54 HT_ ?_
      refine pA 3 55 HT_ ?_
      refine pA 5 57 HT_ ?_
      refine pA 6 58 HT_ ?_
      refine pA 8 60 HT_ ?_
      refine pA 11 63 HT_ ?_
      refine pA 13 65 HT_ ?_
      refine tA 1 53 HT_ HW_ hHeld ?_ (hy:=by rintro w' ⟨s0,s1,s2,s3,s4,s5,s6,s7,s8,s9,s10,s11,s12,s13,s14,s15,s16,s17,s18,s19⟩;go_simp;with_reducible rfl)
      refine tA 7 59 HT_ HW_ hHeld ?_ (hy:=by rintro w' ⟨s0,s1,s2,s3,s4,s5,s6,s7,s8,s9,s10,s11,s12,s13,s14,s15,s16,s17,s18,s19⟩;go_simp;with_reducible rfl)
      refine pA 9 61 HT_ ?_
      refine tA 10 62 HT_ HW_ hHeld ?_ (hy:=by rintro w' ⟨s0,s1,s2,s3,s4,s5,s6,s7,s8,s9,s10,s11,s12,s13,s14,s15,s16,s17,s18,s19⟩;go_simp;with_reducible rfl)
      refine tA 12 64 HT_ HW_ hHeld ?_ (hy:=by rintro w' ⟨s0,s1,s2,s3,s4,s5,s6,s7,s8,s9,s10,s11,s12,s13,s14,s15,s16,s17,s18,s19⟩;go_simp;with_reducible rfl)
      refine pA 14 66 HT_ ?_
      refine tA 15 67 HT_ HW_ hHeld ?_ (hy:=by rintro w' ⟨s0,s1,s2,s3,s4,s5,s6,s7,s8,s9,s10,s11,s12,s13,s14,s15,s16,s17,s18,s19⟩;go_simp;with_reducible rfl)
      refine pA 16 68 HT_ ?_
      refine joinQ_ (A:=?_) (W:=?_) ?_ (fun hCont=>?_)
      rotate_left 3
      ·refine loadOrLast_ (i:=4) (j:=17) (Ni:=some 56) (Nj:=none) (v:=?_) (a':=?_) (fun w'=>w'.cell? ⟨al,0,none⟩=some (.bool aw)∧w'.cell? ⟨al,1,none⟩=some (.slice (some ⟨go52,0,none⟩) aa.length aW)∧w'.cell? ⟨al,2,none⟩=some (.slice bc ao.length aX)∧w'.cell? ⟨al,3,none⟩=some (.slice aD ar.length aE)) #[true,true,true,true,true,true,true,true,true,true,true,true,true,true,true,true,true,false,false,false] #[true,true,true,true,false,true,true,true,true,true,true,true,true,true,true,true,true,true,false,false] rfl rfl rfl rfl (by kernel_rfl) (by decide) (Or.inl ⟨by rfl,?_⟩) (be4 ag) ?_ ?_ (fun K hK=>?_)
       rotate_left
       ·rintro w' ⟨s0,s1,s2,s3⟩
        go_simp
        with_reducible rfl
       rotate_left
       ·simp only [Act.put,List.setIfInBounds_toArray,List.set_cons_zero,List.set_cons_succ,i64_w,i32_w]
        rfl
       ·skip
        refine last_ (i:=17) (N:=none) #[true,true,true,true,true,true,true,true,true,true,true,true,true,true,true,true,true,true,false,false] rfl rfl (one_of HT_.out (by kernel_rfl)) (by decide) (fun K hK=>?_)
        with_reducible refine skip_ (w1:=?_) (by with_unfolding_all rfl) (by with_unfolding_all rfl) ?_ ?_
        rotate_left
        ·go_simp
         rfl
        refine hK.out _ _ ?_
        clear hK K
        refine pA 18 69 HT_ ?_
        refine last_ (i:=19) (N:=none) #[true,true,true,true,true,true,true,true,true,true,true,true,true,true,true,true,true,true,true,true] rfl rfl (one_of HT_.out (by kernel_rfl)) (by decide) (fun K hK=>?_)
        simp only [World.setCells,Nat.add_zero,Nat.add_assoc,Nat.reduceAdd,show (k56).sz=8 from rfl] at bw hf53_0 bx hf53_1 bA hf53_2 bD hf53_3 bF hf53_4 bI hf53_5 bJ hf53_6 bM hf53_7
        simp [go_sem] at bw hf53_0 bx hf53_1 bA hf53_2 bD hf53_3 bF hf53_4 bI hf53_5 bJ hf53_6 bM hf53_7
        with_reducible refine skip_ (w1:=?_) (by with_unfolding_all rfl) (by with_unfolding_all rfl) ?_ ?_
        rotate_left
        ·go_simp
         rfl
        refine hK.out _ _ ?_
        clear hK K
        refine done_ (done_of HT_.out (by kernel_rfl)) ?_
        exact hCont
       with_reducible refine skip_ (w1:=?_) (by with_unfolding_all rfl) (by with_unfolding_all rfl) ?_ ?_
       rotate_left
       ·go_simp
        rfl
       refine hK.out _ _ ?_
       clear hK K
       refine heldT_ (i:=4) (N:=some 56) (v:=?_) (a':=?_) (fun w'=>w'.cell? ⟨al,0,none⟩=some (.bool aw)∧w'.cell? ⟨al,1,none⟩=some (.slice (some ⟨go52,0,none⟩) aa.length aW)∧w'.cell? ⟨al,2,none⟩=some (.slice bc ao.length aX)∧w'.cell? ⟨al,3,none⟩=some (.slice aD ar.length aE)) #[true,true,true,true,true,true,true,true,true,true,true,true,true,true,true,true,true,true,false,false] rfl rfl (by kernel_rfl) (Or.inl ⟨by rfl,?_⟩) ⟨(by have nb_:al≠go52:=(by have h_:=Kd.R_ne ab.out ag.out (by decide);intro e_;exact h_ (by rw [e_];rfl));(with_reducible repeat (refine (cell_far (p:=⟨go52,_,none⟩) nb_ _).trans ?_));exact (blk_cell ag.out 0).trans rfl),(by have nb_:al≠go52:=(by have h_:=Kd.R_ne ab.out ag.out (by decide);intro e_;exact h_ (by rw [e_];rfl));(with_reducible repeat (refine (cell_far (p:=⟨go52,_,none⟩) nb_ _).trans ?_));exact (blk_cell ag.out 1).trans rfl),(by have nb_:al≠go52:=(by have h_:=Kd.R_ne ab.out ag.out (by decide);intro e_;exact h_ (by rw [e_];rfl));(with_reducible repeat (refine (cell_far (p:=⟨go52,_,none⟩) nb_ _).trans ?_));exact (blk_cell ag.out 2).trans rfl),(by have nb_:al≠go52:=(by have h_:=Kd.R_ne ab.out ag.out (by decide);intro e_;exact h_ (by rw [e_];rfl));(with_reducible repeat (refine (cell_far (p:=⟨go52,_,none⟩) nb_ _).trans ?_));exact (blk_cell ag.out 3).trans rfl)⟩ ?_ ?_
       rotate_left
       ·rintro w' ⟨s0,s1,s2,s3⟩
        go_simp
        with_reducible rfl
       rotate_left
       ·simp only [Act.put,List.setIfInBounds_toArray,List.set_cons_zero,List.set_cons_succ,i64_w,i32_w]
        rfl
       refine pA 18 69 HT_ ?_
       refine last_ (i:=19) (N:=none) #[true,true,true,true,true,true,true,true,true,true,true,true,true,true,true,true,true,true,true,true] rfl rfl (one_of HT_.out (by kernel_rfl)) (by decide) (fun K hK=>?_)
       simp only [World.setCells,Nat.add_zero,Nat.add_assoc,Nat.reduceAdd,show (k56).sz=8 from rfl] at bw hf53_0 bx hf53_1 bA hf53_2 bD hf53_3 bF hf53_4 bI hf53_5 bJ hf53_6 bM hf53_7
       simp [go_sem] at bw hf53_0 bx hf53_1 bA hf53_2 bD hf53_3 bF hf53_4 bI hf53_5 bJ hf53_6 bM hf53_7
       with_reducible refine skip_ (w1:=?_) (by with_unfolding_all rfl) (by with_unfolding_all rfl) ?_ ?_
       rotate_left
       ·go_simp
        rfl
       refine hK.out _ _ ?_
       clear hK K
       refine done_ (done_of HT_.out (by kernel_rfl)) ?_
       exact hCont
      try go_wp2
      go_meet
      case rel=>exact⟨_,(((ji49) == (ji46))),(ak),(am),(fG),(ao),(.slice aQ ak.length aT),(.slice aU am.length aV),(.slice (some ⟨go52,0,none⟩) aa.length aW),(.slice bc ao.length aX),(by first|rfl|(simp;done)|(simp only [← hji46,← hji49] <;> (first|rfl|simp))|(simp [*];done)),H',⟨by have:=HJ6.out;have:=d9.out;first|omega|exact Nat.le_refl _⟩,⟨by (with_reducible repeat (first|apply Kd.R_alloc|apply Kd.R_drewN|apply Kd.R_drew));exact Kd.R_mono (Kd.R_far (p:=⟨go52,((ji46):Int).toNat * 8+7,none⟩) (Kd.R_far (p:=⟨go52,((ji46):Int).toNat * 8+6,none⟩) (Kd.R_far (p:=⟨go52,((ji46):Int).toNat * 8+5,none⟩) (Kd.R_far (p:=⟨go52,((ji46):Int).toNat * 8+4,none⟩) (Kd.R_far (p:=⟨go52,((ji46):Int).toNat * 8+3,none⟩) (Kd.R_far (p:=⟨go52,((ji46):Int).toNat * 8+2,none⟩) (Kd.R_far (p:=⟨go52,((ji46):Int).toNat * 8+1,none⟩) (Kd.R_far (p:=⟨go52,((ji46):Int).toNat * 8,none⟩) (Kd.R_far (p:=⟨go52,((ji49):Int).toNat * 8+7,none⟩) (Kd.R_far (p:=⟨go52,((ji49):Int).toNat * 8+6,none⟩) (Kd.R_far (p:=⟨go52,((ji49):Int).toNat * 8+5,none⟩) (Kd.R_far (p:=⟨go52,((ji49):Int).toNat * 8+4,none⟩) (Kd.R_far (p:=⟨go52,((ji49):Int).toNat * 8+3,none⟩) (Kd.R_far (p:=⟨go52,((ji49):Int).toNat * 8+2,none⟩) (Kd.R_far (p:=⟨go52,((ji49):Int).toNat * 8+1,none⟩) (Kd.R_far (p:=⟨go52,((ji49):Int).toNat * 8,none⟩) (Kd.R_mono ac.out (fun k_ hk=>(⟨hk,fun e_=>hk (by rw [e_];rfl)⟩:_∧k_≠go52))) (fun _ hk=>hk.2) (.string ((rd_T56 aa (ji46)).f0))) (fun _ hk=>hk.2) (.int .i64 ((rd_T56 aa (ji46)).f1.f0))) (fun _ hk=>hk.2) (.float .f64 ((rd_T56 aa (ji46)).f1.f1))) (fun _ hk=>hk.2) (.string ((rd_T56 aa (ji46)).f1.f2))) (fun _ hk=>hk.2) (.int .i64 ((rd_T56 aa (ji46)).f2))) (fun _ hk=>hk.2) (.int .i64 ((rd_T56 aa (ji46)).f3.f0))) (fun _ hk=>hk.2) (.float .f64 ((rd_T56 aa (ji46)).f3.f1))) (fun _ hk=>hk.2) (.string ((rd_T56 aa (ji46)).f3.f2))) (fun _ hk=>hk.2) (.string ((rd_T56 aa (ji49)).f0))) (fun _ hk=>hk.2) (.int .i64 ((rd_T56 aa (ji49)).f1.f0))) (fun _ hk=>hk.2) (.float .f64 ((rd_T56 aa (ji49)).f1.f1))) (fun _ hk=>hk.2) (.string ((rd_T56 aa (ji49)).f1.f2))) (fun _ hk=>hk.2) (.int .i64 ((rd_T56 aa (ji49)).f2))) (fun _ hk=>hk.2) (.int .i64 ((rd_T56 aa (ji49)).f3.f0))) (fun _ hk=>hk.2) (.float .f64 ((rd_T56 aa (ji49)).f3.f1))) (fun _ hk=>hk.2) (.string ((rd_T56 aa (ji49)).f3.f2))) (fun _ hk=>hk.1)⟩,⟨by (with_reducible repeat (first|apply Kd.R_alloc|apply Kd.R_drewN|apply Kd.R_drew));exact Kd.R_mono (Kd.R_far (p:=⟨go52,((ji46):Int).toNat * 8+7,none⟩) (Kd.R_far (p:=⟨go52,((ji46):Int).toNat * 8+6,none⟩) (Kd.R_far (p:=⟨go52,((ji46):Int).toNat * 8+5,none⟩) (Kd.R_far (p:=⟨go52,((ji46):Int).toNat * 8+4,none⟩) (Kd.R_far (p:=⟨go52,((ji46):Int).toNat * 8+3,none⟩) (Kd.R_far (p:=⟨go52,((ji46):Int).toNat * 8+2,none⟩) (Kd.R_far (p:=⟨go52,((ji46):Int).toNat * 8+1,none⟩) (Kd.R_far (p:=⟨go52,((ji46):Int).toNat * 8,none⟩) (Kd.R_far (p:=⟨go52,((ji49):Int).toNat * 8+7,none⟩) (Kd.R_far (p:=⟨go52,((ji49):Int).toNat * 8+6,none⟩) (Kd.R_far (p:=⟨go52,((ji49):Int).toNat * 8+5,none⟩) (Kd.R_far (p:=⟨go52,((ji49):Int).toNat * 8+4,none⟩) (Kd.R_far (p:=⟨go52,((ji49):Int).toNat * 8+3,none⟩) (Kd.R_far (p:=⟨go52,((ji49):Int).toNat * 8+2,none⟩) (Kd.R_far (p:=⟨go52,((ji49):Int).toNat * 8+1,none⟩) (Kd.R_far (p:=⟨go52,((ji49):Int).toNat * 8,none⟩) (Kd.R_types ah.out GG52.out (by decide)) (fun _ hk=>hk.2) (.string ((rd_T56 aa (ji46)).f0))) (fun _ hk=>hk.2) (.int .i64 ((rd_T56 aa (ji46)).f1.f0))) (fun _ hk=>hk.2) (.float .f64 ((rd_T56 aa (ji46)).f1.f1))) (fun _ hk=>hk.2) (.string ((rd_T56 aa (ji46)).f1.f2))) (fun _ hk=>hk.2) (.int .i64 ((rd_T56 aa (ji46)).f2))) (fun _ hk=>hk.2) (.int .i64 ((rd_T56 aa (ji46)).f3.f0))) (fun _ hk=>hk.2) (.float .f64 ((rd_T56 aa (ji46)).f3.f1))) (fun _ hk=>hk.2) (.string ((rd_T56 aa (ji46)).f3.f2))) (fun _ hk=>hk.2) (.string ((rd_T56 aa (ji49)).f0))) (fun _ hk=>hk.2) (.int .i64 ((rd_T56 aa (ji49)).f1.f0))) (fun _ hk=>hk.2) (.float .f64 ((rd_T56 aa (ji49)).f1.f1))) (fun _ hk=>hk.2) (.string ((rd_T56 aa (ji49)).f1.f2))) (fun _ hk=>hk.2) (.int .i64 ((rd_T56 aa (ji49)).f2))) (fun _ hk=>hk.2) (.int .i64 ((rd_T56 aa (ji49)).f3.f0))) (fun _ hk=>hk.2) (.float .f64 ((rd_T56 aa (ji49)).f3.f1))) (fun _ hk=>hk.2) (.string ((rd_T56 aa (ji49)).f3.f2))) (fun _ hk=>hk.1)⟩,⟨by (with_reducible repeat (first|apply Kd.R_alloc|apply Kd.R_drewN|apply Kd.R_drew));exact Kd.R_mono (Kd.R_far (p:=⟨go52,((ji46):Int).toNat * 8+7,none⟩) (Kd.R_far (p:=⟨go52,((ji46):Int).toNat * 8+6,none⟩) (Kd.R_far (p:=⟨go52,((ji46):Int).toNat * 8+5,none⟩) (Kd.R_far (p:=⟨go52,((ji46):Int).toNat * 8+4,none⟩) (Kd.R_far (p:=⟨go52,((ji46):Int).toNat * 8+3,none⟩) (Kd.R_far (p:=⟨go52,((ji46):Int).toNat * 8+2,none⟩) (Kd.R_far (p:=⟨go52,((ji46):Int).toNat * 8+1,none⟩) (Kd.R_far (p:=⟨go52,((ji46):Int).toNat * 8,none⟩) (Kd.R_far (p:=⟨go52,((ji49):Int).toNat * 8+7,none⟩) (Kd.R_far (p:=⟨go52,((ji49):Int).toNat * 8+6,none⟩) (Kd.R_far (p:=⟨go52,((ji49):Int).toNat * 8+5,none⟩) (Kd.R_far (p:=⟨go52,((ji49):Int).toNat * 8+4,none⟩) (Kd.R_far (p:=⟨go52,((ji49):Int).toNat * 8+3,none⟩) (Kd.R_far (p:=⟨go52,((ji49):Int).toNat * 8+2,none⟩) (Kd.R_far (p:=⟨go52,((ji49):Int).toNat * 8+1,none⟩) (Kd.R_far (p:=⟨go52,((ji49):Int).toNat * 8,none⟩) (Kd.R_types ai.out GG52.out (by decide)) (fun _ hk=>hk.2) (.string ((rd_T56 aa (ji46)).f0))) (fun _ hk=>hk.2) (.int .i64 ((rd_T56 aa (ji46)).f1.f0))) (fun _ hk=>hk.2) (.float .f64 ((rd_T56 aa (ji46)).f1.f1))) (fun _ hk=>hk.2) (.string ((rd_T56 aa (ji46)).f1.f2))) (fun _ hk=>hk.2) (.int .i64 ((rd_T56 aa (ji46)).f2))) (fun _ hk=>hk.2) (.int .i64 ((rd_T56 aa (ji46)).f3.f0))) (fun _ hk=>hk.2) (.float .f64 ((rd_T56 aa (ji46)).f3.f1))) (fun _ hk=>hk.2) (.string ((rd_T56 aa (ji46)).f3.f2))) (fun _ hk=>hk.2) (.string ((rd_T56 aa (ji49)).f0))) (fun _ hk=>hk.2) (.int .i64 ((rd_T56 aa (ji49)).f1.f0))) (fun _ hk=>hk.2) (.float .f64 ((rd_T56 aa (ji49)).f1.f1))) (fun _ hk=>hk.2) (.string ((rd_T56 aa (ji49)).f1.f2))) (fun _ hk=>hk.2) (.int .i64 ((rd_T56 aa (ji49)).f2))) (fun _ hk=>hk.2) (.int .i64 ((rd_T56 aa (ji49)).f3.f0))) (fun _ hk=>hk.2) (.float .f64 ((rd_T56 aa (ji49)).f3.f1))) (fun _ hk=>hk.2) (.string ((rd_T56 aa (ji49)).f3.f2))) (fun _ hk=>hk.1)⟩,⟨by (with_reducible repeat (first|apply Kd.R_alloc|apply Kd.R_drewN|apply Kd.R_drew));exact HQ57.out⟩,⟨by (with_reducible repeat (first|apply Kd.R_alloc|apply Kd.R_drewN|apply Kd.R_drew));exact Kd.R_mono (Kd.R_far (p:=⟨go52,((ji46):Int).toNat * 8+7,none⟩) (Kd.R_far (p:=⟨go52,((ji46):Int).toNat * 8+6,none⟩) (Kd.R_far (p:=⟨go52,((ji46):Int).toNat * 8+5,none⟩) (Kd.R_far (p:=⟨go52,((ji46):Int).toNat * 8+4,none⟩) (Kd.R_far (p:=⟨go52,((ji46):Int).toNat * 8+3,none⟩) (Kd.R_far (p:=⟨go52,((ji46):Int).toNat * 8+2,none⟩) (Kd.R_far (p:=⟨go52,((ji46):Int).toNat * 8+1,none⟩) (Kd.R_far (p:=⟨go52,((ji46):Int).toNat * 8,none⟩) (Kd.R_far (p:=⟨go52,((ji49):Int).toNat * 8+7,none⟩) (Kd.R_far (p:=⟨go52,((ji49):Int).toNat * 8+6,none⟩) (Kd.R_far (p:=⟨go52,((ji49):Int).toNat * 8+5,none⟩) (Kd.R_far (p:=⟨go52,((ji49):Int).toNat * 8+4,none⟩) (Kd.R_far (p:=⟨go52,((ji49):Int).toNat * 8+3,none⟩) (Kd.R_far (p:=⟨go52,((ji49):Int).toNat * 8+2,none⟩) (Kd.R_far (p:=⟨go52,((ji49):Int).toNat * 8+1,none⟩) (Kd.R_far (p:=⟨go52,((ji49):Int).toNat * 8,none⟩) (Kd.R_types af.out GG52.out (by decide)) (fun _ hk=>hk.2) (.string ((rd_T56 aa (ji46)).f0))) (fun _ hk=>hk.2) (.int .i64 ((rd_T56 aa (ji46)).f1.f0))) (fun _ hk=>hk.2) (.float .f64 ((rd_T56 aa (ji46)).f1.f1))) (fun _ hk=>hk.2) (.string ((rd_T56 aa (ji46)).f1.f2))) (fun _ hk=>hk.2) (.int .i64 ((rd_T56 aa (ji46)).f2))) (fun _ hk=>hk.2) (.int .i64 ((rd_T56 aa (ji46)).f3.f0))) (fun _ hk=>hk.2) (.float .f64 ((rd_T56 aa (ji46)).f3.f1))) (fun _ hk=>hk.2) (.string ((rd_T56 aa (ji46)).f3.f2))) (fun _ hk=>hk.2) (.string ((rd_T56 aa (ji49)).f0))) (fun _ hk=>hk.2) (.int .i64 ((rd_T56 aa (ji49)).f1.f0))) (fun _ hk=>hk.2) (.float .f64 ((rd_T56 aa (ji49)).f1.f1))) (fun _ hk=>hk.2) (.string ((rd_T56 aa (ji49)).f1.f2))) (fun _ hk=>hk.2) (.int .i64 ((rd_T56 aa (ji49)).f2))) (fun _ hk=>hk.2) (.int .i64 ((rd_T56 aa (ji49)).f3.f0))) (fun _ hk=>hk.2) (.float .f64 ((rd_T56 aa (ji49)).f3.f1))) (fun _ hk=>hk.2) (.string ((rd_T56 aa (ji49)).f3.f2))) (fun _ hk=>hk.1)⟩,⟨by (with_reducible repeat (first|apply Kd.R_alloc|apply Kd.R_drewN|apply Kd.R_drew));exact Kd.R_mono (Kd.R_far (p:=⟨go52,((ji46):Int).toNat * 8+7,none⟩) (Kd.R_far (p:=⟨go52,((ji46):Int).toNat * 8+6,none⟩) (Kd.R_far (p:=⟨go52,((ji46):Int).toNat * 8+5,none⟩) (Kd.R_far (p:=⟨go52,((ji46):Int).toNat * 8+4,none⟩) (Kd.R_far (p:=⟨go52,((ji46):Int).toNat * 8+3,none⟩) (Kd.R_far (p:=⟨go52,((ji46):Int).toNat * 8+2,none⟩) (Kd.R_far (p:=⟨go52,((ji46):Int).toNat * 8+1,none⟩) (Kd.R_far (p:=⟨go52,((ji46):Int).toNat * 8,none⟩) (Kd.R_far (p:=⟨go52,((ji49):Int).toNat * 8+7,none⟩) (Kd.R_far (p:=⟨go52,((ji49):Int).toNat * 8+6,none⟩) (Kd.R_far (p:=⟨go52,((ji49):Int).toNat * 8+5,none⟩) (Kd.R_far (p:=⟨go52,((ji49):Int).toNat * 8+4,none⟩) (Kd.R_far (p:=⟨go52,((ji49):Int).toNat * 8+3,none⟩) (Kd.R_far (p:=⟨go52,((ji49):Int).toNat * 8+2,none⟩) (Kd.R_far (p:=⟨go52,((ji49):Int).toNat * 8+1,none⟩) (Kd.R_far (p:=⟨go52,((ji49):Int).toNat * 8,none⟩) (Kd.R_types aj.out GG52.out (by decide)) (fun _ hk=>hk.2) (.string ((rd_T56 aa (ji46)).f0))) (fun _ hk=>hk.2) (.int .i64 ((rd_T56 aa (ji46)).f1.f0))) (fun _ hk=>hk.2) (.float .f64 ((rd_T56 aa (ji46)).f1.f1))) (fun _ hk=>hk.2) (.string ((rd_T56 aa (ji46)).f1.f2))) (fun _ hk=>hk.2) (.int .i64 ((rd_T56 aa (ji46)).f2))) (fun _ hk=>hk.2) (.int .i64 ((rd_T56 aa (ji46)).f3.f0))) (fun _ hk=>hk.2) (.float .f64 ((rd_T56 aa (ji46)).f3.f1))) (fun _ hk=>hk.2) (.string ((rd_T56 aa (ji46)).f3.f2))) (fun _ hk=>hk.2) (.string ((rd_T56 aa (ji49)).f0))) (fun _ hk=>hk.2) (.int .i64 ((rd_T56 aa (ji49)).f1.f0))) (fun _ hk=>hk.2) (.float .f64 ((rd_T56 aa (ji49)).f1.f1))) (fun _ hk=>hk.2) (.string ((rd_T56 aa (ji49)).f1.f2))) (fun _ hk=>hk.2) (.int .i64 ((rd_T56 aa (ji49)).f2))) (fun _ hk=>hk.2) (.int .i64 ((rd_T56 aa (ji49)).f3.f0))) (fun _ hk=>hk.2) (.float .f64 ((rd_T56 aa (ji49)).f3.f1))) (fun _ hk=>hk.2) (.string ((rd_T56 aa (ji49)).f3.f2))) (fun _ hk=>hk.1)⟩,⟨by (with_reducible repeat (first|refine blk_drewN ?_ _|refine blk_drew ?_|refine blk_alloc ?_ _));refine blk_far ?_ (by have h_:=Kd.R_ne ab.out ae.out (by decide);intro e_;exact h_ (by rw [e_];rfl)) _;(with_reducible repeat (first|refine blk_drewN ?_ _|refine blk_drew ?_|refine blk_alloc ?_ _));refine blk_far ?_ (by have h_:=Kd.R_ne ab.out ae.out (by decide);intro e_;exact h_ (by rw [e_];rfl)) _;(with_reducible repeat (first|refine blk_drewN ?_ _|refine blk_drew ?_|refine blk_alloc ?_ _));refine blk_far ?_ (by have h_:=Kd.R_ne ab.out ae.out (by decide);intro e_;exact h_ (by rw [e_];rfl)) _;(with_reducible repeat (first|refine blk_drewN ?_ _|refine blk_drew ?_|refine blk_alloc ?_ _));refine blk_far ?_ (by have h_:=Kd.R_ne ab.out ae.out (by decide);intro e_;exact h_ (by rw [e_];rfl)) _;(with_reducible repeat (first|refine blk_drewN ?_ _|refine blk_drew ?_|refine blk_alloc ?_ _));refine blk_far ?_ (by have h_:=Kd.R_ne ab.out ae.out (by decide);intro e_;exact h_ (by rw [e_];rfl)) _;(with_reducible repeat (first|refine blk_drewN ?_ _|refine blk_drew ?_|refine blk_alloc ?_ _));refine blk_far ?_ (by have h_:=Kd.R_ne ab.out ae.out (by decide);intro e_;exact h_ (by rw [e_];rfl)) _;(with_reducible repeat (first|refine blk_drewN ?_ _|refine blk_drew ?_|refine blk_alloc ?_ _));refine blk_far ?_ (by have h_:=Kd.R_ne ab.out ae.out (by decide);intro e_;exact h_ (by rw [e_];rfl)) _;(with_reducible repeat (first|refine blk_drewN ?_ _|refine blk_drew ?_|refine blk_alloc ?_ _));refine blk_far ?_ (by have h_:=Kd.R_ne ab.out ae.out (by decide);intro e_;exact h_ (by rw [e_];rfl)) _;(with_reducible repeat (first|refine blk_drewN ?_ _|refine blk_drew ?_|refine blk_alloc ?_ _));refine blk_far ?_ (by have h_:=Kd.R_ne ab.out ae.out (by decide);intro e_;exact h_ (by rw [e_];rfl)) _;(with_reducible repeat (first|refine blk_drewN ?_ _|refine blk_drew ?_|refine blk_alloc ?_ _));refine blk_far ?_ (by have h_:=Kd.R_ne ab.out ae.out (by decide);intro e_;exact h_ (by rw [e_];rfl)) _;(with_reducible repeat (first|refine blk_drewN ?_ _|refine blk_drew ?_|refine blk_alloc ?_ _));refine blk_far ?_ (by have h_:=Kd.R_ne ab.out ae.out (by decide);intro e_;exact h_ (by rw [e_];rfl)) _;(with_reducible repeat (first|refine blk_drewN ?_ _|refine blk_drew ?_|refine blk_alloc ?_ _));refine blk_far ?_ (by have h_:=Kd.R_ne ab.out ae.out (by decide);intro e_;exact h_ (by rw [e_];rfl)) _;(with_reducible repeat (first|refine blk_drewN ?_ _|refine blk_drew ?_|refine blk_alloc ?_ _));refine blk_far ?_ (by have h_:=Kd.R_ne ab.out ae.out (by decide);intro e_;exact h_ (by rw [e_];rfl)) _;(with_reducible repeat (first|refine blk_drewN ?_ _|refine blk_drew ?_|refine blk_alloc ?_ _));refine blk_far ?_ (by have h_:=Kd.R_ne ab.out ae.out (by decide);intro e_;exact h_ (by rw [e_];rfl)) _;(with_reducible repeat (first|refine blk_drewN ?_ _|refine blk_drew ?_|refine blk_alloc ?_ _));refine blk_far ?_ (by have h_:=Kd.R_ne ab.out ae.out (by decide);intro e_;exact h_ (by rw [e_];rfl)) _;(with_reducible repeat (first|refine blk_drewN ?_ _|refine blk_drew ?_|refine blk_alloc ?_ _));refine blk_far ?_ (by have h_:=Kd.R_ne ab.out ae.out (by decide);intro e_;exact h_ (by rw [e_];rfl)) _;(with_reducible repeat (first|refine blk_drewN ?_ _|refine blk_drew ?_|refine blk_alloc ?_ _));exact ae.out⟩,⟨by (with_reducible repeat (first|refine blk_drewN ?_ _|refine blk_drew ?_|refine blk_alloc ?_ _));refine blk_far ?_ (by have h_:=Kd.R_ne ab.out ag.out (by decide);intro e_;exact h_ (by rw [e_];rfl)) _;(with_reducible repeat (first|refine blk_drewN ?_ _|refine blk_drew ?_|refine blk_alloc ?_ _));refine blk_far ?_ (by have h_:=Kd.R_ne ab.out ag.out (by decide);intro e_;exact h_ (by rw [e_];rfl)) _;(with_reducible repeat (first|refine blk_drewN ?_ _|refine blk_drew ?_|refine blk_alloc ?_ _));refine blk_far ?_ (by have h_:=Kd.R_ne ab.out ag.out (by decide);intro e_;exact h_ (by rw [e_];rfl)) _;(with_reducible repeat (first|refine blk_drewN ?_ _|refine blk_drew ?_|refine blk_alloc ?_ _));refine blk_far ?_ (by have h_:=Kd.R_ne ab.out ag.out (by decide);intro e_;exact h_ (by rw [e_];rfl)) _;(with_reducible repeat (first|refine blk_drewN ?_ _|refine blk_drew ?_|refine blk_alloc ?_ _));refine blk_far ?_ (by have h_:=Kd.R_ne ab.out ag.out (by decide);intro e_;exact h_ (by rw [e_];rfl)) _;(with_reducible repeat (first|refine blk_drewN ?_ _|refine blk_drew ?_|refine blk_alloc ?_ _));refine blk_far ?_ (by have h_:=Kd.R_ne ab.out ag.out (by decide);intro e_;exact h_ (by rw [e_];rfl)) _;(with_reducible repeat (first|refine blk_drewN ?_ _|refine blk_drew ?_|refine blk_alloc ?_ _));refine blk_far ?_ (by have h_:=Kd.R_ne ab.out ag.out (by decide);intro e_;exact h_ (by rw [e_];rfl)) _;(with_reducible repeat (first|refine blk_drewN ?_ _|refine blk_drew ?_|refine blk_alloc ?_ _));refine blk_far ?_ (by have h_:=Kd.R_ne ab.out ag.out (by decide);intro e_;exact h_ (by rw [e_];rfl)) _;(with_reducible repeat (first|refine blk_drewN ?_ _|refine blk_drew ?_|refine blk_alloc ?_ _));refine blk_far ?_ (by have h_:=Kd.R_ne ab.out ag.out (by decide);intro e_;exact h_ (by rw [e_];rfl)) _;(with_reducible repeat (first|refine blk_drewN ?_ _|refine blk_drew ?_|refine blk_alloc ?_ _));refine blk_far ?_ (by have h_:=Kd.R_ne ab.out ag.out (by decide);intro e_;exact h_ (by rw [e_];rfl)) _;(with_reducible repeat (first|refine blk_drewN ?_ _|refine blk_drew ?_|refine blk_alloc ?_ _));refine blk_far ?_ (by have h_:=Kd.R_ne ab.out ag.out (by decide);intro e_;exact h_ (by rw [e_];rfl)) _;(with_reducible repeat (first|refine blk_drewN ?_ _|refine blk_drew ?_|refine blk_alloc ?_ _));refine blk_far ?_ (by have h_:=Kd.R_ne ab.out ag.out (by decide);intro e_;exact h_ (by rw [e_];rfl)) _;(with_reducible repeat (first|refine blk_drewN ?_ _|refine blk_drew ?_|refine blk_alloc ?_ _));refine blk_far ?_ (by have h_:=Kd.R_ne ab.out ag.out (by decide);intro e_;exact h_ (by rw [e_];rfl)) _;(with_reducible repeat (first|refine blk_drewN ?_ _|refine blk_drew ?_|refine blk_alloc ?_ _));refine blk_far ?_ (by have h_:=Kd.R_ne ab.out ag.out (by decide);intro e_;exact h_ (by rw [e_];rfl)) _;(with_reducible repeat (first|refine blk_drewN ?_ _|refine blk_drew ?_|refine blk_alloc ?_ _));refine blk_far ?_ (by have h_:=Kd.R_ne ab.out ag.out (by decide);intro e_;exact h_ (by rw [e_];rfl)) _;(with_reducible repeat (first|refine blk_drewN ?_ _|refine blk_drew ?_|refine blk_alloc ?_ _));refine blk_far ?_ (by have h_:=Kd.R_ne ab.out ag.out (by decide);intro e_;exact h_ (by rw [e_];rfl)) _;(with_reducible repeat (first|refine blk_drewN ?_ _|refine blk_drew ?_|refine blk_alloc ?_ _));exact ag.out⟩,bV HB⟩
     case rest =>
      clear ed
      try clear p2
      try clear c4
      try clear p4
      try clear q4
      try clear hx4
      try clear c5
      try clear hx5
      try clear hf5
      try clear c6
      try clear p6
      try clear q6
      try clear hx6
      try clear hf6
      try clear c7
      try clear c44
      try clear p44
      try clear q44
      try clear i7
      try clear c47
      try clear c48
      try clear c50
      try clear c51
      try clear i8
      try clear hf53
      try clear c58
      try clear ev
      try clear ex
      try clear c59
      try clear f6
      try clear f7
      try clear f8
      try clear c61
      try clear ga
      try clear c62
      try clear gb
      try clear c64
      try clear gc
      try clear c65
      try clear gf
      try clear p66
      try clear q66
      try clear i9
      try clear hf66
      try clear p67
      try clear q67
      try clear ja
      try clear hf67
      try clear c68
      try clear c74
      try clear fm fp fq ft
      try clear fe ff fg fh
      try clear fu fv fw fz
      try clear fi fj fk fl
      try clear ca
      try clear cb
      try clear bw
      try clear bx
      try clear bA
      try clear bD
      try clear bF
      try clear bI
      try clear bJ
      try clear bM
      try clear d6
      try clear d7
      try clear dV
      try clear dX
      try clear p66
      try clear p67
      try clear dW
      try clear dY
      try clear q66
      try clear q67
      obtain⟨kq,ba,cq,ct,au,ax,aY,aZ,b8,b9,rfl,HA,jb,ac,ah,ai,ab,af,aj,ae,ag,HB⟩:=hcut
      cases kq with
      | zero=>exact absurd HA.out (by simp [engrosslaw11_NodeOrder.j2])
      | succ bh =>
       have H:=HA.out
       clear HA
       simp only [engrosslaw11_NodeOrder.j2] at H
       replace H:=oS H
       obtain⟨⟨cd,br,cf,cg⟩,fR,H⟩:=H
       replace H:((node_Encode.f bh cd br cf cg).bind fun gl=>((engrosslaw11_Of.f bh aw au ax ar).bind fun bn=>((node_May.f bh bn.1 bn.2.1 bn.2.2.1 bn.2.2.2).bind fun bl=>(if (bl == ba)=true then (if ba=true then (some true) else (some (gl.2 == 1))) else (none)))))=some r:=H
       have A76:=aK fR
       clear fR
       replace H:=oS H
       obtain⟨⟨fS,cL⟩,fT,H⟩:=H
       replace H:((engrosslaw11_Of.f bh aw au ax ar).bind fun bn=>((node_May.f bh bn.1 bn.2.1 bn.2.2.1 bn.2.2.2).bind fun bl=>(if (bl == ba)=true then (if ba=true then (some true) else (some (cL == 1))) else (none))))=some r:=H
       have A77:=aK fT
       clear fT
       replace H:=oS H
       obtain⟨⟨ch,cj,cm,cn⟩,fU,H⟩:=H
       replace H:((node_May.f bh ch cj cm cn).bind fun bl=>(if (bl == ba)=true then (if ba=true then (some true) else (some (cL == 1))) else (none)))=some r:=H
       have A78:=aK fU
       clear fU
       replace H:=oS H
       obtain⟨bl,fV,H⟩:=H
       replace H:(if (bl == ba)=true then (if ba=true then (some true) else (some (cL == 1))) else (none))=some r:=H
       have A79:=aK fV
       clear fV
       by_cases c80:(bl == ba)=true
       rotate_left
       ·rw [if_neg c80] at H
        exact absurd H (by simp)
       rw [if_pos c80] at H
       have iR:(bl == ba)=true:=c80
       (try (have iS:decide (bl=ba)=true:=by simpa using c80))
       (try (have iT:(bl == ba)=true:=by simpa using c80))
       clear c80
       by_cases c81:ba=true
       ·subst c81
        have H1:(some true)=some r:=by rw [if_pos rfl] at H;exact H
        clear H
        have H:=H1
        clear H1
        obtain rfl:=Option.some.inj H
        have hnb82:=bg.out
        have hnc82:=bf.out
        obtain⟨ib,ic,ie,ig,ij,ik,il,im⟩:=bf4 (w:=wc) ag
        obtain⟨cM,cN,gM⟩:=Kd.R_slice ab.out
        subst gM
        obtain⟨dZ,d3,gN⟩:=Kd.R_slice af.out
        subst gN
        go_wp2_with (first|((with_reducible refine gate_callee (f:=17) rfl ?_);refine gL (some 110) Try.func17 #[.agg #[.bool aw,.slice cM au.length cN,.slice dZ ax.length d3,.slice aD ar.length aE]] ?_;(with_reducible refine (engrosslaw11_Of.calls bh aw _ _ au (fun k_=>some k_=(.slice dZ ax.length d3:Value).ownBlock) _ _ ax (fun k_=>some k_=(.slice aD ar.length aE:Value).ownBlock) _ _ ar cd br cf cg _ ?side1 ?side2 ?side3 ?side4 A76.out).mono ?_);(case side1=>exact sC (Kd.R_reads' ab.out).2.2);(case side2=>exact (Kd.R_reads' ab.out).2.1);(case side3=>exact Kd.R_V (Kd.R_tight rfl (Kd.R_types (Kd.R_types (Kd.R_apart' (Kd.R_apart' (Kd.R_apart' (Kd.R_apart' (af.out) (Kd.R_typed ac.out) (by decide)) (Kd.R_typed ai.out) (by decide)) (Kd.R_typed ab.out) (by decide)) (Kd.R_typed aj.out) (by decide)) ae.out (by decide)) ag.out (by decide))));(case side4=>exact Kd.R_V (Kd.R_tight rfl (Kd.R_types (Kd.R_types (Kd.R_apart' (Kd.R_apart' (Kd.R_apart' (Kd.R_apart' (aj.out) (Kd.R_typed ac.out) (by decide)) (Kd.R_typed ah.out) (by decide)) (Kd.R_typed ab.out) (by decide)) (Kd.R_typed af.out) (by decide)) ae.out (by decide)) ag.out (by decide))));rintro e w86 ⟨cT,gO,gP,rfl,ho0,ho1,ho2,hb⟩;refine⟨_,rfl,?_⟩;have ay:=aK (Kd.R_lower (Kd.R_mono (ok':=fun k_=>True) ho0 (fun _ hk_=>trivial)) (below_size (bC HB)));have q0_:=(Kd.R_types (Kd.R_types (Kd.R_apart' (Kd.R_apart' (Kd.R_apart' (Kd.R_apart' (af.out) (Kd.R_typed ac.out) (by decide)) (Kd.R_typed ai.out) (by decide)) (Kd.R_typed ab.out) (by decide)) (Kd.R_typed aj.out) (by decide)) ae.out (by decide)) ag.out (by decide));have q1_:=(Kd.R_types (Kd.R_types (Kd.R_apart' (Kd.R_apart' (Kd.R_apart' (Kd.R_apart' (aj.out) (Kd.R_typed ac.out) (by decide)) (Kd.R_typed ah.out) (by decide)) (Kd.R_typed ab.out) (by decide)) (Kd.R_typed af.out) (by decide)) ae.out (by decide)) ag.out (by decide));have aH:=aK (Kd.V_lower (Kd.V_mono (ok':=fun k_=>some k_≠(cT:Value).ownBlock∧some k_≠(aY:Value).ownBlock∧some k_≠(aZ:Value).ownBlock∧some k_≠(.slice aA aq.length aC:Value).ownBlock∧some k_≠(.slice cM au.length cN:Value).ownBlock∧k_≠av∧k_≠al) ho1 (fun k_ hk_=>⟨hk_.2,Or.elim hk_.1 (fun hs_=>Or.elim hs_ (fun hs_=>(q0_.1 k_ hs_.symm).1.1.1.1.1.2) (fun hs_=>(q1_.1 k_ hs_.symm).1.1.1.1.1.2)) (fun hn_=>(rF ac k_ hn_)),Or.elim hk_.1 (fun hs_=>Or.elim hs_ (fun hs_=>(q0_.1 k_ hs_.symm).1.1.1.1.1.1) (fun hs_=>(q1_.1 k_ hs_.symm).1.1.1.1.2)) (fun hn_=>(rF ah k_ hn_)),Or.elim hk_.1 (fun hs_=>Or.elim hs_ (fun hs_=>(q0_.1 k_ hs_.symm).1.1.1.1.2) (fun hs_=>(q1_.1 k_ hs_.symm).1.1.1.1.1.1)) (fun hn_=>(rF ai k_ hn_)),Or.elim hk_.1 (fun hs_=>Or.elim hs_ (fun hs_=>(q0_.1 k_ hs_.symm).1.1.1.2) (fun hs_=>(q1_.1 k_ hs_.symm).1.1.1.2)) (fun hn_=>(rF ab k_ hn_)),Or.elim hk_.1 (fun hs_=>Or.elim hs_ (fun hs_=>(q0_.1 k_ hs_.symm).1.2) (fun hs_=>(q1_.1 k_ hs_.symm).1.2)) (fun hn_=>(Kd.freshB (bQ ae) k_ hn_)),Or.elim hk_.1 (fun hs_=>Or.elim hs_ (fun hs_=>(q0_.1 k_ hs_.symm).2) (fun hs_=>(q1_.1 k_ hs_.symm).2)) (fun hn_=>(Kd.freshB (bQ ag) k_ hn_))⟩)) (below_size (bC HB)));have aI:=aK (Kd.V_lower (Kd.V_mono (ok':=fun k_=>some k_≠(cT:Value).ownBlock∧some k_≠(aY:Value).ownBlock∧some k_≠(aZ:Value).ownBlock∧some k_≠(.slice aA aq.length aC:Value).ownBlock∧some k_≠(.slice cM au.length cN:Value).ownBlock∧k_≠av∧k_≠al) ho2 (fun k_ hk_=>⟨hk_.2,Or.elim hk_.1 (fun hs_=>Or.elim hs_ (fun hs_=>(q0_.1 k_ hs_.symm).1.1.1.1.1.2) (fun hs_=>(q1_.1 k_ hs_.symm).1.1.1.1.1.2)) (fun hn_=>(rF ac k_ hn_)),Or.elim hk_.1 (fun hs_=>Or.elim hs_ (fun hs_=>(q0_.1 k_ hs_.symm).1.1.1.1.1.1) (fun hs_=>(q1_.1 k_ hs_.symm).1.1.1.1.2)) (fun hn_=>(rF ah k_ hn_)),Or.elim hk_.1 (fun hs_=>Or.elim hs_ (fun hs_=>(q0_.1 k_ hs_.symm).1.1.1.1.2) (fun hs_=>(q1_.1 k_ hs_.symm).1.1.1.1.1.1)) (fun hn_=>(rF ai k_ hn_)),Or.elim hk_.1 (fun hs_=>Or.elim hs_ (fun hs_=>(q0_.1 k_ hs_.symm).1.1.1.2) (fun hs_=>(q1_.1 k_ hs_.symm).1.1.1.2)) (fun hn_=>(rF ab k_ hn_)),Or.elim hk_.1 (fun hs_=>Or.elim hs_ (fun hs_=>(q0_.1 k_ hs_.symm).1.2) (fun hs_=>(q1_.1 k_ hs_.symm).1.2)) (fun hn_=>(Kd.freshB (bQ ae) k_ hn_)),Or.elim hk_.1 (fun hs_=>Or.elim hs_ (fun hs_=>(q0_.1 k_ hs_.symm).2) (fun hs_=>(q1_.1 k_ hs_.symm).2)) (fun hn_=>(Kd.freshB (bQ ag) k_ hn_))⟩)) (below_size (bC HB)));clear q0_ q1_;replace ac:=rB ac hb;replace ah:=rB ah hb;replace ai:=rB ai hb;replace ab:=rB ab hb;replace af:=rB af hb;replace aj:=rB aj hb;replace ae:=bB ae hb;replace ag:=bB ag hb;replace HB:=bW HB hb;(try clear hb);(try clear hb2);(try clear hk);(try clear hi);(try clear ho0);(try clear ho1);(try clear ho2);obtain⟨ek,el,gQ⟩:=Kd.R_slice ay.out;subst gQ;obtain⟨gR,gS,gT⟩:=Kd.V_slice aH.out;subst gT;obtain⟨gU,gV,gW⟩:=Kd.V_slice aI.out;subst gW)|((with_reducible refine gate_callee (f:=19) rfl ?_);refine gL (some 111) Try.func19 #[.agg #[.bool cd,.slice ek br.length el,.slice gR cf.length gS,.slice gU cg.length gV]] ?_;(with_reducible refine (node_Encode.calls bh cd _ _ br _ _ cf _ _ cg fS cL _ ?side1 ?side2 ?side3 ?side4 ?side5 ?side6 A77.out).mono ?_);(case side1=>exact sC (Kd.R_reads' ay.out).2.2);(case side2=>exact (Kd.R_reads' ay.out).2.1);(case side3=>exact sC (Kd.V_reads' aH.out).2.2);(case side4=>exact (Kd.V_reads' aH.out).2.1);(case side5=>exact sC (Kd.V_reads' aI.out).2.2);(case side6=>exact (Kd.V_reads' aI.out).2.1);rintro e w90 ⟨cU,rfl,ho0,hb⟩;refine⟨_,rfl,?_⟩;have aG:=aK (Kd.R_lower ho0 (below_size (bC HB)));replace ac:=rB ac hb;replace ah:=rB ah hb;replace ai:=rB ai hb;replace ab:=rB ab hb;replace af:=rB af hb;replace aj:=rB aj hb;replace ay:=rB ay hb;replace aH:=vE aH (Kd.R_base ho0) hb;replace aI:=vE aI (Kd.R_base ho0) hb;replace ae:=bB ae hb;replace ag:=bB ag hb;replace HB:=bW HB hb;(try clear hb);(try clear hb2);(try clear hk);(try clear hi);(try clear ho0);obtain⟨io,ip,iq,iu,iv,iw,ix,iy⟩:=bf4 (w:=w90) ag)|((with_reducible refine gate_callee (f:=17) rfl ?_);refine gL (some 115) Try.func17 #[.agg #[.bool aw,.slice cM au.length cN,.slice dZ ax.length d3,.slice aD ar.length aE]] ?_;(with_reducible refine (engrosslaw11_Of.calls bh aw _ _ au (fun k_=>some k_=(.slice dZ ax.length d3:Value).ownBlock) _ _ ax (fun k_=>some k_=(.slice aD ar.length aE:Value).ownBlock) _ _ ar ch cj cm cn _ ?side1 ?side2 ?side3 ?side4 A78.out).mono ?_);(case side1=>exact sC (Kd.R_reads' ab.out).2.2);(case side2=>exact (Kd.R_reads' ab.out).2.1);(case side3=>exact Kd.R_V (Kd.R_tight rfl (Kd.R_types (Kd.R_types (Kd.R_apart' (Kd.R_apart' (Kd.R_apart' (Kd.R_apart' (Kd.R_apart' (Kd.R_apart' (af.out) (Kd.R_typed ac.out) (by decide)) (Kd.R_typed ai.out) (by decide)) (Kd.R_typed ab.out) (by decide)) (Kd.R_typed aj.out) (by decide)) (Kd.R_typed ay.out) (by decide)) (Kd.R_typed aG.out) (by decide)) ae.out (by decide)) ag.out (by decide))));(case side4=>exact Kd.R_V (Kd.R_tight rfl (Kd.R_types (Kd.R_types (Kd.R_apart' (Kd.R_apart' (Kd.R_apart' (Kd.R_apart' (Kd.R_apart' (Kd.R_apart' (aj.out) (Kd.R_typed ac.out) (by decide)) (Kd.R_typed ah.out) (by decide)) (Kd.R_typed ab.out) (by decide)) (Kd.R_typed af.out) (by decide)) (Kd.R_typed ay.out) (by decide)) (Kd.R_typed aG.out) (by decide)) ae.out (by decide)) ag.out (by decide))));rintro e w92 ⟨cV,gX,gY,rfl,ho0,ho1,ho2,hb⟩;refine⟨_,rfl,?_⟩;have bi:=aK (Kd.R_lower (Kd.R_new' (Kd.R_mono (ok':=fun k_=>True) ho0 (fun _ hk_=>trivial)) (Kd.R_lt (by (with_reducible repeat (first|apply Kd.R_alloc|apply Kd.R_drewN|apply Kd.R_drew));exact ay.out))) (below_size (bC HB)));have q0_:=(Kd.R_types (Kd.R_types (Kd.R_apart' (Kd.R_apart' (Kd.R_apart' (Kd.R_apart' (Kd.R_apart' (Kd.R_apart' (af.out) (Kd.R_typed ac.out) (by decide)) (Kd.R_typed ai.out) (by decide)) (Kd.R_typed ab.out) (by decide)) (Kd.R_typed aj.out) (by decide)) (Kd.R_typed ay.out) (by decide)) (Kd.R_typed aG.out) (by decide)) ae.out (by decide)) ag.out (by decide));have q1_:=(Kd.R_types (Kd.R_types (Kd.R_apart' (Kd.R_apart' (Kd.R_apart' (Kd.R_apart' (Kd.R_apart' (Kd.R_apart' (aj.out) (Kd.R_typed ac.out) (by decide)) (Kd.R_typed ah.out) (by decide)) (Kd.R_typed ab.out) (by decide)) (Kd.R_typed af.out) (by decide)) (Kd.R_typed ay.out) (by decide)) (Kd.R_typed aG.out) (by decide)) ae.out (by decide)) ag.out (by decide));have bj:=aK (Kd.V_lower (Kd.V_mono (ok':=fun k_=>some k_≠(cV:Value).ownBlock∧some k_≠(aY:Value).ownBlock∧some k_≠(aZ:Value).ownBlock∧some k_≠(.slice aA aq.length aC:Value).ownBlock∧some k_≠(.slice cM au.length cN:Value).ownBlock∧some k_≠(.slice ek br.length el:Value).ownBlock∧some k_≠(cU:Value).ownBlock∧k_≠av∧k_≠al) ho1 (fun k_ hk_=>⟨hk_.2,Or.elim hk_.1 (fun hs_=>Or.elim hs_ (fun hs_=>(q0_.1 k_ hs_.symm).1.1.1.1.1.1.1.2) (fun hs_=>(q1_.1 k_ hs_.symm).1.1.1.1.1.1.1.2)) (fun hn_=>(rF ac k_ hn_)),Or.elim hk_.1 (fun hs_=>Or.elim hs_ (fun hs_=>(q0_.1 k_ hs_.symm).1.1.1.1.1.1.1.1) (fun hs_=>(q1_.1 k_ hs_.symm).1.1.1.1.1.1.2)) (fun hn_=>(rF ah k_ hn_)),Or.elim hk_.1 (fun hs_=>Or.elim hs_ (fun hs_=>(q0_.1 k_ hs_.symm).1.1.1.1.1.1.2) (fun hs_=>(q1_.1 k_ hs_.symm).1.1.1.1.1.1.1.1)) (fun hn_=>(rF ai k_ hn_)),Or.elim hk_.1 (fun hs_=>Or.elim hs_ (fun hs_=>(q0_.1 k_ hs_.symm).1.1.1.1.1.2) (fun hs_=>(q1_.1 k_ hs_.symm).1.1.1.1.1.2)) (fun hn_=>(rF ab k_ hn_)),Or.elim hk_.1 (fun hs_=>Or.elim hs_ (fun hs_=>(q0_.1 k_ hs_.symm).1.1.1.2) (fun hs_=>(q1_.1 k_ hs_.symm).1.1.1.2)) (fun hn_=>(rF ay k_ hn_)),Or.elim hk_.1 (fun hs_=>Or.elim hs_ (fun hs_=>(q0_.1 k_ hs_.symm).1.1.2) (fun hs_=>(q1_.1 k_ hs_.symm).1.1.2)) (fun hn_=>(rF aG k_ hn_)),Or.elim hk_.1 (fun hs_=>Or.elim hs_ (fun hs_=>(q0_.1 k_ hs_.symm).1.2) (fun hs_=>(q1_.1 k_ hs_.symm).1.2)) (fun hn_=>(Kd.freshB (bQ ae) k_ hn_)),Or.elim hk_.1 (fun hs_=>Or.elim hs_ (fun hs_=>(q0_.1 k_ hs_.symm).2) (fun hs_=>(q1_.1 k_ hs_.symm).2)) (fun hn_=>(Kd.freshB (bQ ag) k_ hn_))⟩)) (below_size (bC HB)));have bk:=aK (Kd.V_lower (Kd.V_mono (ok':=fun k_=>some k_≠(cV:Value).ownBlock∧some k_≠(aY:Value).ownBlock∧some k_≠(aZ:Value).ownBlock∧some k_≠(.slice aA aq.length aC:Value).ownBlock∧some k_≠(.slice cM au.length cN:Value).ownBlock∧some k_≠(.slice ek br.length el:Value).ownBlock∧some k_≠(cU:Value).ownBlock∧k_≠av∧k_≠al) ho2 (fun k_ hk_=>⟨hk_.2,Or.elim hk_.1 (fun hs_=>Or.elim hs_ (fun hs_=>(q0_.1 k_ hs_.symm).1.1.1.1.1.1.1.2) (fun hs_=>(q1_.1 k_ hs_.symm).1.1.1.1.1.1.1.2)) (fun hn_=>(rF ac k_ hn_)),Or.elim hk_.1 (fun hs_=>Or.elim hs_ (fun hs_=>(q0_.1 k_ hs_.symm).1.1.1.1.1.1.1.1) (fun hs_=>(q1_.1 k_ hs_.symm).1.1.1.1.1.1.2)) (fun hn_=>(rF ah k_ hn_)),Or.elim hk_.1 (fun hs_=>Or.elim hs_ (fun hs_=>(q0_.1 k_ hs_.symm).1.1.1.1.1.1.2) (fun hs_=>(q1_.1 k_ hs_.symm).1.1.1.1.1.1.1.1)) (fun hn_=>(rF ai k_ hn_)),Or.elim hk_.1 (fun hs_=>Or.elim hs_ (fun hs_=>(q0_.1 k_ hs_.symm).1.1.1.1.1.2) (fun hs_=>(q1_.1 k_ hs_.symm).1.1.1.1.1.2)) (fun hn_=>(rF ab k_ hn_)),Or.elim hk_.1 (fun hs_=>Or.elim hs_ (fun hs_=>(q0_.1 k_ hs_.symm).1.1.1.2) (fun hs_=>(q1_.1 k_ hs_.symm).1.1.1.2)) (fun hn_=>(rF ay k_ hn_)),Or.elim hk_.1 (fun hs_=>Or.elim hs_ (fun hs_=>(q0_.1 k_ hs_.symm).1.1.2) (fun hs_=>(q1_.1 k_ hs_.symm).1.1.2)) (fun hn_=>(rF aG k_ hn_)),Or.elim hk_.1 (fun hs_=>Or.elim hs_ (fun hs_=>(q0_.1 k_ hs_.symm).1.2) (fun hs_=>(q1_.1 k_ hs_.symm).1.2)) (fun hn_=>(Kd.freshB (bQ ae) k_ hn_)),Or.elim hk_.1 (fun hs_=>Or.elim hs_ (fun hs_=>(q0_.1 k_ hs_.symm).2) (fun hs_=>(q1_.1 k_ hs_.symm).2)) (fun hn_=>(Kd.freshB (bQ ag) k_ hn_))⟩)) (below_size (bC HB)));clear q0_ q1_;replace ac:=rB ac hb;replace ah:=rB ah hb;replace ai:=rB ai hb;replace ab:=rB ab hb;replace af:=rB af hb;replace aj:=rB aj hb;replace ay:=rE ay (Kd.R_base ho0) hb;replace aH:=vE aH (Kd.R_base ho0) hb;replace aI:=vE aI (Kd.R_base ho0) hb;replace aG:=rB aG hb;replace ae:=bB ae hb;replace ag:=bB ag hb;replace HB:=bW HB hb;(try clear hb);(try clear hb2);(try clear hk);(try clear hi);(try clear ho0);(try clear ho1);(try clear ho2);obtain⟨gZ,g4,g5⟩:=Kd.R_slice bi.out;subst g5;obtain⟨g6,g7,g8⟩:=Kd.V_slice bj.out;subst g8;obtain⟨g9,hD,hG⟩:=Kd.V_slice bk.out;subst hG)|((with_reducible refine gate_callee (f:=16) rfl ?_);refine gL (some 116) Try.func16 #[.agg #[.bool ch,.slice gZ cj.length g4,.slice g6 cm.length g7,.slice g9 cn.length hD]] ?_;(with_reducible refine (node_May.calls bh ch _ _ cj _ _ cm _ _ cn bl _ ?side1 ?side2 ?side3 ?side4 ?side5 ?side6 A79.out).mono ?_);(case side1=>exact sC (Kd.R_reads' bi.out).2.2);(case side2=>exact (Kd.R_reads' bi.out).2.1);(case side3=>exact sC (Kd.V_reads' bj.out).2.2);(case side4=>exact (Kd.V_reads' bj.out).2.1);(case side5=>exact sC (Kd.V_reads' bk.out).2.2);(case side6=>exact (Kd.V_reads' bk.out).2.1);rintro e w96 ⟨rfl,hb⟩;refine⟨_,rfl,?_⟩;replace ac:=rB ac hb;replace ah:=rB ah hb;replace ai:=rB ai hb;replace ab:=rB ab hb;replace af:=rB af hb;replace aj:=rB aj hb;replace ay:=rB ay hb;replace aH:=vB aH hb;replace aI:=vB aI hb;replace aG:=rB aG hb;replace bi:=rB bi hb;replace bj:=vB bj hb;replace bk:=vB bk hb;replace ae:=bB ae hb;replace ag:=bB ag hb;replace HB:=bW HB hb;(try clear hb);(try clear hb2);(try clear hk);(try clear hi)))
        go_ret
        exact xB HB
       replace c81:=Bool.eq_false_iff.mpr c81
       subst c81
       have H1:(some (cL == 1))=some r:=by rw [if_neg (show ¬ (false=true) by decide)] at H;exact H
       clear H
       have H:=H1
       clear H1
       obtain rfl:=Option.some.inj H
       have hnb97:=bg.out
       have hnc97:=bf.out
       obtain⟨iz,iA,iB,iC,iD,iE,iF,iG⟩:=bf4 (w:=wc) ag
       obtain⟨cO,cP,hH⟩:=Kd.R_slice ab.out
       subst hH
       obtain⟨cR,cS,gm⟩:=Kd.R_slice af.out
       subst gm
       go_wp2_with (first|((with_reducible refine gate_callee (f:=17) rfl ?_);refine gL (some 110) Try.func17 #[.agg #[.bool aw,.slice cO au.length cP,.slice cR ax.length cS,.slice aD ar.length aE]] ?_;(with_reducible refine (engrosslaw11_Of.calls bh aw _ _ au (fun k_=>some k_=(.slice cR ax.length cS:Value).ownBlock) _ _ ax (fun k_=>some k_=(.slice aD ar.length aE:Value).ownBlock) _ _ ar cd br cf cg _ ?side1 ?side2 ?side3 ?side4 A76.out).mono ?_);(case side1=>exact sC (Kd.R_reads' ab.out).2.2);(case side2=>exact (Kd.R_reads' ab.out).2.1);(case side3=>exact Kd.R_V (Kd.R_tight rfl (Kd.R_types (Kd.R_types (Kd.R_apart' (Kd.R_apart' (Kd.R_apart' (Kd.R_apart' (af.out) (Kd.R_typed ac.out) (by decide)) (Kd.R_typed ai.out) (by decide)) (Kd.R_typed ab.out) (by decide)) (Kd.R_typed aj.out) (by decide)) ae.out (by decide)) ag.out (by decide))));(case side4=>exact Kd.R_V (Kd.R_tight rfl (Kd.R_types (Kd.R_types (Kd.R_apart' (Kd.R_apart' (Kd.R_apart' (Kd.R_apart' (aj.out) (Kd.R_typed ac.out) (by decide)) (Kd.R_typed ah.out) (by decide)) (Kd.R_typed ab.out) (by decide)) (Kd.R_typed af.out) (by decide)) ae.out (by decide)) ag.out (by decide))));rintro e jc ⟨cT,gO,gP,rfl,ho0,ho1,ho2,hb⟩;refine⟨_,rfl,?_⟩;have ay:=aK (Kd.R_lower (Kd.R_mono (ok':=fun k_=>True) ho0 (fun _ hk_=>trivial)) (below_size (bC HB)));have q0_:=(Kd.R_types (Kd.R_types (Kd.R_apart' (Kd.R_apart' (Kd.R_apart' (Kd.R_apart' (af.out) (Kd.R_typed ac.out) (by decide)) (Kd.R_typed ai.out) (by decide)) (Kd.R_typed ab.out) (by decide)) (Kd.R_typed aj.out) (by decide)) ae.out (by decide)) ag.out (by decide));have q1_:=(Kd.R_types (Kd.R_types (Kd.R_apart' (Kd.R_apart' (Kd.R_apart' (Kd.R_apart' (aj.out) (Kd.R_typed ac.out) (by decide)) (Kd.R_typed ah.out) (by decide)) (Kd.R_typed ab.out) (by decide)) (Kd.R_typed af.out) (by decide)) ae.out (by decide)) ag.out (by decide));have aH:=aK (Kd.V_lower (Kd.V_mono (ok':=fun k_=>some k_≠(cT:Value).ownBlock∧some k_≠(aY:Value).ownBlock∧some k_≠(aZ:Value).ownBlock∧some k_≠(.slice aA aq.length aC:Value).ownBlock∧some k_≠(.slice cO au.length cP:Value).ownBlock∧k_≠av∧k_≠al) ho1 (fun k_ hk_=>⟨hk_.2,Or.elim hk_.1 (fun hs_=>Or.elim hs_ (fun hs_=>(q0_.1 k_ hs_.symm).1.1.1.1.1.2) (fun hs_=>(q1_.1 k_ hs_.symm).1.1.1.1.1.2)) (fun hn_=>(rF ac k_ hn_)),Or.elim hk_.1 (fun hs_=>Or.elim hs_ (fun hs_=>(q0_.1 k_ hs_.symm).1.1.1.1.1.1) (fun hs_=>(q1_.1 k_ hs_.symm).1.1.1.1.2)) (fun hn_=>(rF ah k_ hn_)),Or.elim hk_.1 (fun hs_=>Or.elim hs_ (fun hs_=>(q0_.1 k_ hs_.symm).1.1.1.1.2) (fun hs_=>(q1_.1 k_ hs_.symm).1.1.1.1.1.1)) (fun hn_=>(rF ai k_ hn_)),Or.elim hk_.1 (fun hs_=>Or.elim hs_ (fun hs_=>(q0_.1 k_ hs_.symm).1.1.1.2) (fun hs_=>(q1_.1 k_ hs_.symm).1.1.1.2)) (fun hn_=>(rF ab k_ hn_)),Or.elim hk_.1 (fun hs_=>Or.elim hs_ (fun hs_=>(q0_.1 k_ hs_.symm).1.2) (fun hs_=>(q1_.1 k_ hs_.symm).1.2)) (fun hn_=>(Kd.freshB (bQ ae) k_ hn_)),Or.elim hk_.1 (fun hs_=>Or.elim hs_ (fun hs_=>(q0_.1 k_ hs_.symm).2) (fun hs_=>(q1_.1 k_ hs_.symm).2)) (fun hn_=>(Kd.freshB (bQ ag) k_ hn_))⟩)) (below_size (bC HB)));have aI:=aK (Kd.V_lower (Kd.V_mono (ok':=fun k_=>some k_≠(cT:Value).ownBlock∧some k_≠(aY:Value).ownBlock∧some k_≠(aZ:Value).ownBlock∧some k_≠(.slice aA aq.length aC:Value).ownBlock∧some k_≠(.slice cO au.length cP:Value).ownBlock∧k_≠av∧k_≠al) ho2 (fun k_ hk_=>⟨hk_.2,Or.elim hk_.1 (fun hs_=>Or.elim hs_ (fun hs_=>(q0_.1 k_ hs_.symm).1.1.1.1.1.2) (fun hs_=>(q1_.1 k_ hs_.symm).1.1.1.1.1.2)) (fun hn_=>(rF ac k_ hn_)),Or.elim hk_.1 (fun hs_=>Or.elim hs_ (fun hs_=>(q0_.1 k_ hs_.symm).1.1.1.1.1.1) (fun hs_=>(q1_.1 k_ hs_.symm).1.1.1.1.2)) (fun hn_=>(rF ah k_ hn_)),Or.elim hk_.1 (fun hs_=>Or.elim hs_ (fun hs_=>(q0_.1 k_ hs_.symm).1.1.1.1.2) (fun hs_=>(q1_.1 k_ hs_.symm).1.1.1.1.1.1)) (fun hn_=>(rF ai k_ hn_)),Or.elim hk_.1 (fun hs_=>Or.elim hs_ (fun hs_=>(q0_.1 k_ hs_.symm).1.1.1.2) (fun hs_=>(q1_.1 k_ hs_.symm).1.1.1.2)) (fun hn_=>(rF ab k_ hn_)),Or.elim hk_.1 (fun hs_=>Or.elim hs_ (fun hs_=>(q0_.1 k_ hs_.symm).1.2) (fun hs_=>(q1_.1 k_ hs_.symm).1.2)) (fun hn_=>(Kd.freshB (bQ ae) k_ hn_)),Or.elim hk_.1 (fun hs_=>Or.elim hs_ (fun hs_=>(q0_.1 k_ hs_.symm).2) (fun hs_=>(q1_.1 k_ hs_.symm).2)) (fun hn_=>(Kd.freshB (bQ ag) k_ hn_))⟩)) (below_size (bC HB)));clear q0_ q1_;replace ac:=rB ac hb;replace ah:=rB ah hb;replace ai:=rB ai hb;replace ab:=rB ab hb;replace af:=rB af hb;replace aj:=rB aj hb;replace ae:=bB ae hb;replace ag:=bB ag hb;replace HB:=bW HB hb;(try clear hb);(try clear hb2);(try clear hk);(try clear hi);(try clear ho0);(try clear ho1);(try clear ho2);obtain⟨d4,d5,gn⟩:=Kd.R_slice ay.out;subst gn;obtain⟨go,gp,gq⟩:=Kd.V_slice aH.out;subst gq;obtain⟨gr,gu,gv⟩:=Kd.V_slice aI.out;subst gv)|((with_reducible refine gate_callee (f:=19) rfl ?_);refine gL (some 111) Try.func19 #[.agg #[.bool cd,.slice d4 br.length d5,.slice go cf.length gp,.slice gr cg.length gu]] ?_;(with_reducible refine (node_Encode.calls bh cd _ _ br _ _ cf _ _ cg fS cL _ ?side1 ?side2 ?side3 ?side4 ?side5 ?side6 A77.out).mono ?_);(case side1=>exact sC (Kd.R_reads' ay.out).2.2);(case side2=>exact (Kd.R_reads' ay.out).2.1);(case side3=>exact sC (Kd.V_reads' aH.out).2.2);(case side4=>exact (Kd.V_reads' aH.out).2.1);(case side5=>exact sC (Kd.V_reads' aI.out).2.2);(case side6=>exact (Kd.V_reads' aI.out).2.1);rintro e hI ⟨cU,rfl,ho0,hb⟩;refine⟨_,rfl,?_⟩;have aG:=aK (Kd.R_lower ho0 (below_size (bC HB)));replace ac:=rB ac hb;replace ah:=rB ah hb;replace ai:=rB ai hb;replace ab:=rB ab hb;replace af:=rB af hb;replace aj:=rB aj hb;replace ay:=rB ay hb;replace aH:=vE aH (Kd.R_base ho0) hb;replace aI:=vE aI (Kd.R_base ho0) hb;replace ae:=bB ae hb;replace ag:=bB ag hb;replace HB:=bW HB hb;(try clear hb);(try clear hb2);(try clear hk);(try clear hi);(try clear ho0);obtain⟨hJ,hL,hO,hP,hX,hY,hZ,ia⟩:=bf4 (w:=hI) ag)|((with_reducible refine gate_callee (f:=17) rfl ?_);refine gL (some 115) Try.func17 #[.agg #[.bool aw,.slice cO au.length cP,.slice cR ax.length cS,.slice aD ar.length aE]] ?_;(with_reducible refine (engrosslaw11_Of.calls bh aw _ _ au (fun k_=>some k_=(.slice cR ax.length cS:Value).ownBlock) _ _ ax (fun k_=>some k_=(.slice aD ar.length aE:Value).ownBlock) _ _ ar ch cj cm cn _ ?side1 ?side2 ?side3 ?side4 A78.out).mono ?_);(case side1=>exact sC (Kd.R_reads' ab.out).2.2);(case side2=>exact (Kd.R_reads' ab.out).2.1);(case side3=>exact Kd.R_V (Kd.R_tight rfl (Kd.R_types (Kd.R_types (Kd.R_apart' (Kd.R_apart' (Kd.R_apart' (Kd.R_apart' (Kd.R_apart' (Kd.R_apart' (af.out) (Kd.R_typed ac.out) (by decide)) (Kd.R_typed ai.out) (by decide)) (Kd.R_typed ab.out) (by decide)) (Kd.R_typed aj.out) (by decide)) (Kd.R_typed ay.out) (by decide)) (Kd.R_typed aG.out) (by decide)) ae.out (by decide)) ag.out (by decide))));(case side4=>exact Kd.R_V (Kd.R_tight rfl (Kd.R_types (Kd.R_types (Kd.R_apart' (Kd.R_apart' (Kd.R_apart' (Kd.R_apart' (Kd.R_apart' (Kd.R_apart' (aj.out) (Kd.R_typed ac.out) (by decide)) (Kd.R_typed ah.out) (by decide)) (Kd.R_typed ab.out) (by decide)) (Kd.R_typed af.out) (by decide)) (Kd.R_typed ay.out) (by decide)) (Kd.R_typed aG.out) (by decide)) ae.out (by decide)) ag.out (by decide))));rintro e jd ⟨cV,gX,gY,rfl,ho0,ho1,ho2,hb⟩;refine⟨_,rfl,?_⟩;have bi:=aK (Kd.R_lower (Kd.R_new' (Kd.R_mono (ok':=fun k_=>True) ho0 (fun _ hk_=>trivial)) (Kd.R_lt (by (with_reducible repeat (first|apply Kd.R_alloc|apply Kd.R_drewN|apply Kd.R_drew));exact ay.out))) (below_size (bC HB)));have q0_:=(Kd.R_types (Kd.R_types (Kd.R_apart' (Kd.R_apart' (Kd.R_apart' (Kd.R_apart' (Kd.R_apart' (Kd.R_apart' (af.out) (Kd.R_typed ac.out) (by decide)) (Kd.R_typed ai.out) (by decide)) (Kd.R_typed ab.out) (by decide)) (Kd.R_typed aj.out) (by decide)) (Kd.R_typed ay.out) (by decide)) (Kd.R_typed aG.out) (by decide)) ae.out (by decide)) ag.out (by decide));have q1_:=(Kd.R_types (Kd.R_types (Kd.R_apart' (Kd.R_apart' (Kd.R_apart' (Kd.R_apart' (Kd.R_apart' (Kd.R_apart' (aj.out) (Kd.R_typed ac.out) (by decide)) (Kd.R_typed ah.out) (by decide)) (Kd.R_typed ab.out) (by decide)) (Kd.R_typed af.out) (by decide)) (Kd.R_typed ay.out) (by decide)) (Kd.R_typed aG.out) (by decide)) ae.out (by decide)) ag.out (by decide));have bj:=aK (Kd.V_lower (Kd.V_mono (ok':=fun k_=>some k_≠(cV:Value).ownBlock∧some k_≠(aY:Value).ownBlock∧some k_≠(aZ:Value).ownBlock∧some k_≠(.slice aA aq.length aC:Value).ownBlock∧some k_≠(.slice cO au.length cP:Value).ownBlock∧some k_≠(.slice d4 br.length d5:Value).ownBlock∧some k_≠(cU:Value).ownBlock∧k_≠av∧k_≠al) ho1 (fun k_ hk_=>⟨hk_.2,Or.elim hk_.1 (fun hs_=>Or.elim hs_ (fun hs_=>(q0_.1 k_ hs_.symm).1.1.1.1.1.1.1.2) (fun hs_=>(q1_.1 k_ hs_.symm).1.1.1.1.1.1.1.2)) (fun hn_=>(rF ac k_ hn_)),Or.elim hk_.1 (fun hs_=>Or.elim hs_ (fun hs_=>(q0_.1 k_ hs_.symm).1.1.1.1.1.1.1.1) (fun hs_=>(q1_.1 k_ hs_.symm).1.1.1.1.1.1.2)) (fun hn_=>(rF ah k_ hn_)),Or.elim hk_.1 (fun hs_=>Or.elim hs_ (fun hs_=>(q0_.1 k_ hs_.symm).1.1.1.1.1.1.2) (fun hs_=>(q1_.1 k_ hs_.symm).1.1.1.1.1.1.1.1)) (fun hn_=>(rF ai k_ hn_)),Or.elim hk_.1 (fun hs_=>Or.elim hs_ (fun hs_=>(q0_.1 k_ hs_.symm).1.1.1.1.1.2) (fun hs_=>(q1_.1 k_ hs_.symm).1.1.1.1.1.2)) (fun hn_=>(rF ab k_ hn_)),Or.elim hk_.1 (fun hs_=>Or.elim hs_ (fun hs_=>(q0_.1 k_ hs_.symm).1.1.1.2) (fun hs_=>(q1_.1 k_ hs_.symm).1.1.1.2)) (fun hn_=>(rF ay k_ hn_)),Or.elim hk_.1 (fun hs_=>Or.elim hs_ (fun hs_=>(q0_.1 k_ hs_.symm).1.1.2) (fun hs_=>(q1_.1 k_ hs_.symm).1.1.2)) (fun hn_=>(rF aG k_ hn_)),Or.elim hk_.1 (fun hs_=>Or.elim hs_ (fun hs_=>(q0_.1 k_ hs_.symm).1.2) (fun hs_=>(q1_.1 k_ hs_.symm).1.2)) (fun hn_=>(Kd.freshB (bQ ae) k_ hn_)),Or.elim hk_.1 (fun hs_=>Or.elim hs_ (fun hs_=>(q0_.1 k_ hs_.symm).2) (fun hs_=>(q1_.1 k_ hs_.symm).2)) (fun hn_=>(Kd.freshB (bQ ag) k_ hn_))⟩)) (below_size (bC HB)));have bk:=aK (Kd.V_lower (Kd.V_mono (ok':=fun k_=>some k_≠(cV:Value).ownBlock∧some k_≠(aY:Value).ownBlock∧some k_≠(aZ:Value).ownBlock∧some k_≠(.slice aA aq.length aC:Value).ownBlock∧some k_≠(.slice cO au.length cP:Value).ownBlock∧some k_≠(.slice d4 br.length d5:Value).ownBlock∧some k_≠(cU:Value).ownBlock∧k_≠av∧k_≠al) ho2 (fun k_ hk_=>⟨hk_.2,Or.elim hk_.1 (fun hs_=>Or.elim hs_ (fun hs_=>(q0_.1 k_ hs_.symm).1.1.1.1.1.1.1.2) (fun hs_=>(q1_.1 k_ hs_.symm).1.1.1.1.1.1.1.2)) (fun hn_=>(rF ac k_ hn_)),Or.elim hk_.1 (fun hs_=>Or.elim hs_ (fun hs_=>(q0_.1 k_ hs_.symm).1.1.1.1.1.1.1.1) (fun hs_=>(q1_.1 k_ hs_.symm).1.1.1.1.1.1.2)) (fun hn_=>(rF ah k_ hn_)),Or.elim hk_.1 (fun hs_=>Or.elim hs_ (fun hs_=>(q0_.1 k_ hs_.symm).1.1.1.1.1.1.2) (fun hs_=>(q1_.1 k_ hs_.symm).1.1.1.1.1.1.1.1)) (fun hn_=>(rF ai k_ hn_)),Or.elim hk_.1 (fun hs_=>Or.elim hs_ (fun hs_=>(q0_.1 k_ hs_.symm).1.1.1.1.1.2) (fun hs_=>(q1_.1 k_ hs_.symm).1.1.1.1.1.2)) (fun hn_=>(rF ab k_ hn_)),Or.elim hk_.1 (fun hs_=>Or.elim hs_ (fun hs_=>(q0_.1 k_ hs_.symm).1.1.1.2) (fun hs_=>(q1_.1 k_ hs_.symm).1.1.1.2)) (fun hn_=>(rF ay k_ hn_)),Or.elim hk_.1 (fun hs_=>Or.elim hs_ (fun hs_=>(q0_.1 k_ hs_.symm).1.1.2) (fun hs_=>(q1_.1 k_ hs_.symm).1.1.2)) (fun hn_=>(rF aG k_ hn_)),Or.elim hk_.1 (fun hs_=>Or.elim hs_ (fun hs_=>(q0_.1 k_ hs_.symm).1.2) (fun hs_=>(q1_.1 k_ hs_.symm).1.2)) (fun hn_=>(Kd.freshB (bQ ae) k_ hn_)),Or.elim hk_.1 (fun hs_=>Or.elim hs_ (fun hs_=>(q0_.1 k_ hs_.symm).2) (fun hs_=>(q1_.1 k_ hs_.symm).2)) (fun hn_=>(Kd.freshB (bQ ag) k_ hn_))⟩)) (below_size (bC HB)));clear q0_ q1_;replace ac:=rB ac hb;replace ah:=rB ah hb;replace ai:=rB ai hb;replace ab:=rB ab hb;replace af:=rB af hb;replace aj:=rB aj hb;replace ay:=rE ay (Kd.R_base ho0) hb;replace aH:=vE aH (Kd.R_base ho0) hb;replace aI:=vE aI (Kd.R_base ho0) hb;replace aG:=rB aG hb;replace ae:=bB ae hb;replace ag:=bB ag hb;replace HB:=bW HB hb;(try clear hb);(try clear hb2);(try clear hk);(try clear hi);(try clear ho0);(try clear ho1);(try clear ho2);obtain⟨gw,gx,gy⟩:=Kd.R_slice bi.out;subst gy;obtain⟨gz,gA,gB⟩:=Kd.V_slice bj.out;subst gB;obtain⟨gC,gD,gE⟩:=Kd.V_slice bk.out;subst gE)|((with_reducible refine gate_callee (f:=16) rfl ?_);refine gL (some 116) Try.func16 #[.agg #[.bool ch,.slice gw cj.length gx,.slice gz cm.length gA,.slice gC cn.length gD]] ?_;(with_reducible refine (node_May.calls bh ch _ _ cj _ _ cm _ _ cn bl _ ?side1 ?side2 ?side3 ?side4 ?side5 ?side6 A79.out).mono ?_);(case side1=>exact sC (Kd.R_reads' bi.out).2.2);(case side2=>exact (Kd.R_reads' bi.out).2.1);(case side3=>exact sC (Kd.V_reads' bj.out).2.2);(case side4=>exact (Kd.V_reads' bj.out).2.1);(case side5=>exact sC (Kd.V_reads' bk.out).2.2);(case side6=>exact (Kd.V_reads' bk.out).2.1);rintro e je ⟨rfl,hb⟩;refine⟨_,rfl,?_⟩;replace ac:=rB ac hb;replace ah:=rB ah hb;replace ai:=rB ai hb;replace ab:=rB ab hb;replace af:=rB af hb;replace aj:=rB aj hb;replace ay:=rB ay hb;replace aH:=vB aH hb;replace aI:=vB aI hb;replace aG:=rB aG hb;replace bi:=rB bi hb;replace bj:=vB bj hb;replace bk:=vB bk hb;replace ae:=bB ae hb;replace ag:=bB ag hb;replace HB:=bW HB hb;(try clear hb);(try clear hb2);(try clear hk);(try clear hi)))
       go_ret
       exact xB HB
/-- THE ONE PURE STATEMENT of engrosslaw11_NodeOrder. -/
def engrosslaw11_NodeOrder.Pure:Prop:=∀ (x0:S26) (a1:Int) (a2:Int),wf26 x0→(Lit.int .i64 a1).wf=true→(Lit.int .i64 a2).wf=true→∃ k,engrosslaw11_NodeOrder.f k x0.f0 x0.f1 x0.f2 x0.f3 a1 a2=some true
end Go.Proofs.Ytmmjpieafbjggaa.P
end
section
set_option linter.unusedVariables false
set_option linter.unusedSimpArgs false
namespace Go.Proofs.Ytmmjpieafbjggaa.Pure
open Go.RowKit Go.Proofs.Ytmmjpieafbjggaa.P Go.Proofs.YtmmjpieafbjggaaW.PrintWords Go.Proofs.YtmmjpieafbjggaaW.PrintLast Go.Proofs.YtmmjpieafbjggaaW.PrintMore
theorem begun11 {k:Nat} (hk:100≤k):engrosslaw11_begun.f k=some true :=
  at_rounds (g:=fun k=>engrosslaw11_begun.f k) (fun k=>engrosslaw11_begun.mono k) hk (show engrosslaw11_begun.f 100=some true by decide +kernel)
end Go.Proofs.Ytmmjpieafbjggaa.Pure
end
