/- The law NodeAny returns true for every input: the words, the walks and the plain statement that its row needs. No condition. (Merged by a program of this session out of its own texts.) -/
import Derived.ArgAppend
import Derived.Below
import Derived.BigQuiet
import Derived.Deep.AppendLies
import Derived.Deep.CutBlock
import Derived.Deep.DeepCutAuto
import Derived.Deep.Draws
import Derived.Deep.LoopGhost
import Derived.Deep.OwnRows
import Derived.Deep.QuietTactic
import Derived.Deep.RegionHeld3
import Derived.KernelRfl
import Derived.Laws.BitsLemmas
import Derived.Laws.BytesArg
import Derived.Laws.Cover2
import Derived.Laws.Externs
import Derived.Laws.FloatArith
import Derived.Laws.IdiomCopy
import Derived.Laws.MakeOwn
import Derived.Laws.OwnMore
import Derived.Laws.Rows
import Derived.Laws.Slices
import Derived.Laws.StructEq
import Derived.Lib.AppendStr
import Derived.Lib.ConvBytes
import Derived.Maps.AppendAt
import Derived.OrdersHeld
import Derived.OwnWalk
import Derived.RowKit
import Derived.RowKit3
import Derived.Tactics
import Derived.Test.YtmmjpieafbjggaaProg
import Derived.WalkKit
import Derived.WideLaws
import Derived.Test.YtmmjpieafbjggaaQNodeAny4
import Derived.Test.YtmmjpieafbjggaaQNodeAny6
import Derived.Test.YtmmjpieafbjggaaQNodeAny7
section
namespace Go.Proofs.Ytmmjpieafbjggaa.P
open Go.RowKit Go.Proofs.YtmmjpieafbjggaaW.PrintWords Go.Proofs.YtmmjpieafbjggaaW.PrintLast Go.Proofs.YtmmjpieafbjggaaW.PrintMore
attribute [local go_sem] max2_int min2_int max_two min_two max_three min_three max_four min_four   -- for this text's walks alone
attribute [local go_sem] x_str_gtr x_str_leq x_str_geq ext_bits ext_frombits ext_neg x_store_float Instr.field asAgg
set_option linter.unusedVariables false
set_option linter.unusedSimpArgs false
mutual
def engrosslaw11_NodeAny.j0:Nat→List Int→Int→Int→Bool→List (S56)→List ByteArray→List Int→Option (Bool)
 | 0,_,_,_,_,_,_,_=>none
 | k+1,x0,x2,x3,x552000,x552001,x552002,x552003=>(engrosslaw11_tells.f k x0).bind fun t568=>(if t568=true then ((engrosslaw1_Short.f x0 256).bind fun t569=>((engrossref10_Whole.f t569).bind fun t572=>((engrosslaw11_tells.f k t572).bind fun t575=>(engrosslaw11_NodeAny.j1 k x2 x3 (!t575) x552000 x552001 x552002 x552003)))) else (none))
def engrosslaw11_NodeAny.j1:Nat→Int→Int→Bool→Bool→List (S56)→List ByteArray→List Int→Option (Bool)
 | 0,_,_,_,_,_,_,_=>none
 | k+1,x2,x3,x31,x552000,x552001,x552002,x552003=>if x31=true then (none) else ((engrossref10_NodeBytes.f k x552000 x552001 x552002 x552003).bind fun t576=>((engrossref10_Whole.f t576).bind fun t579=>((engrossref10_MayNode.f k x552000 x552001 x552002 x552003).bind fun t582=>(if t582=true then (if (t579.length:Int)=0 then (engrosslaw11_NodeAny.j2 k x2 x3 t579 true) else (engrosslaw11_NodeAny.j2 k x2 x3 t579 (decide (x2<0)))) else (engrosslaw11_NodeAny.j2 k x2 x3 t579 true)))))
def engrosslaw11_NodeAny.j2:Nat→Int→Int→List Int→Bool→Option (Bool)
 | 0,_,_,_,_=>none
 | k+1,x2,x3,x10,x46=>if x46=true then (some true) else (if ([]:List Int).length+x10.length<140737488355328 then ((some (([]:List Int)++x10:List Int)).bind fun y583=>(if 0≤(Int.tmod x2 256) then (if (Int.tmod x2 256)<(y583.length:Int) then ((engrosslaw11_tells.f k (y583.set ((Int.tmod x2 256):Int).toNat (Go.bits .xor .u8 (rd y583 (Int.tmod x2 256)) x3))).bind fun t588=>(if t588=true then (if 255≤(x10.length:Int) then ((engrosslaw11_tells.f k (x10.take 255)).bind fun t593=>(some t593)) else (none)) else (none))) else (none)) else (none))) else (none))
end
def engrosslaw11_NodeAny.f (k:Nat) (l0:List Int) (a1_0:Bool) (l1_1:List (S56)) (l1_2:List ByteArray) (l1_3:List Int) (a2:Int) (a3:Int):Option (Bool):=(engrosslaw11_begun.f k).bind fun t552=>(if t552=true then ((engrosslaw11_Cut.f k a1_0 l1_1 l1_2 l1_3).bind fun bt553=>(if (l0.length:Int)>260 then (if 260≤(l0.length:Int) then (engrosslaw11_NodeAny.j0 k (l0.take 260) a2 a3 bt553.1 bt553.2.1 bt553.2.2.1 bt553.2.2.2) else (none)) else (engrosslaw11_NodeAny.j0 k l0 a2 a3 bt553.1 bt553.2.1 bt553.2.2.1 bt553.2.2.2))) else (none))
set_option maxHeartbeats 8000000 in
set_option maxRecDepth 100000 in
theorem engrosslaw11_NodeAny.calls (k:Nat) (P0_:Nat→Prop) (A0:Option Addr) (c0:Nat) (l0:List Int) (aU:Bool) (bU:Option Addr) (bX:Nat) (aG:List (S56)) (bY:Option Addr) (b8:Nat) (aH:List ByteArray) (b9:Option Addr) (ca:Nat) (aI:List Int) (a2:Int) (a3:Int) (r:Bool) (w:World) (hs0:Kd.V (Kd.int .u8) 5 w w.heap.size (fun k_=>P0_ k_) (.slice A0 l0.length c0) l0) (cu:Kd.C k56 w bU aG.length aG) (cv:aG.length≤bX) (cw:Kd.C Kd.string w bY aH.length aH) (cx:aH.length≤b8) (cz:Kd.C (Kd.int .i64) w b9 aI.length aI) (cA:aI.length≤ca) (h:engrosslaw11_NodeAny.f k l0 aU aG aH aI a2 a3=some r) :
  Calls Try.prog 4 #[.slice A0 l0.length c0,.agg #[.bool aU,.slice bU aG.length bX,.slice bY aH.length b8,.slice b9 aI.length ca],.int .i64 a2,.int .u8 a3] w fun e w'=>e = .returned (.bool r)∧Below w.heap.size w w':=by
 have hu26:=Try.underlying26
 have HO0:=aK (show Kd.V (Kd.int .u8) 5 w w.heap.size (fun k_=>(P0_ k_∨w.heap.size≤k_)) (.slice A0 l0.length c0) l0 from Kd.V_mono hs0 (fun k_ hk=>.inl hk))
 have dy:=aK cu
 have dz:=aK cv
 clear cu cv
 have dB:=aK cw
 have dC:=aK cx
 clear cw cx
 have dD:=aK cz
 have dE:=aK cA
 clear cz cA
 have HB:=aK (Below.refl w.heap.size w)
 have H:((engrosslaw11_begun.f k).bind fun cb=>(if cb=true then ((engrosslaw11_Cut.f k aU aG aH aI).bind fun ak=>(if (l0.length:Int)>260 then (if 260≤(l0.length:Int) then (engrosslaw11_NodeAny.j0 k (l0.take 260) a2 a3 ak.1 ak.2.1 ak.2.2.1 ak.2.2.2) else (none)) else (engrosslaw11_NodeAny.j0 k l0 a2 a3 ak.1 ak.2.1 ak.2.2.1 ak.2.2.2))) else (none)))=some r:=h
 clear h
 replace H:=oS H
 obtain⟨cb,A50,H⟩:=H
 replace H:(if cb=true then ((engrosslaw11_Cut.f k aU aG aH aI).bind fun ak=>(if (l0.length:Int)>260 then (if 260≤(l0.length:Int) then (engrosslaw11_NodeAny.j0 k (l0.take 260) a2 a3 ak.1 ak.2.1 ak.2.2.1 ak.2.2.2) else (none)) else (engrosslaw11_NodeAny.j0 k l0 a2 a3 ak.1 ak.2.1 ak.2.2.1 ak.2.2.2))) else (none))=some r:=H
 have A5:=aK A50
 clear A50
 by_cases c6:cb=true
 rotate_left
 ·replace c6:=Bool.eq_false_iff.mpr c6
  subst c6
  have H1:(none)=some r:=by rw [if_neg (show ¬ (false=true) by decide)] at H;exact H
  clear H
  have H:=H1
  clear H1
  exact absurd H (by simp)
 subst c6
 have H1:((engrosslaw11_Cut.f k aU aG aH aI).bind fun ak=>(if (l0.length:Int)>260 then (if 260≤(l0.length:Int) then (engrosslaw11_NodeAny.j0 k (l0.take 260) a2 a3 ak.1 ak.2.1 ak.2.2.1 ak.2.2.2) else (none)) else (engrosslaw11_NodeAny.j0 k l0 a2 a3 ak.1 ak.2.1 ak.2.2.1 ak.2.2.2)))=some r:=by rw [if_pos rfl] at H;exact H
 clear H
 have H:=H1
 clear H1
 replace H:=oS H
 obtain⟨⟨al,ag,ah,ai⟩,A70,H⟩:=H
 replace H:(if (l0.length:Int)>260 then (if 260≤(l0.length:Int) then (engrosslaw11_NodeAny.j0 k (l0.take 260) a2 a3 al ag ah ai) else (none)) else (engrosslaw11_NodeAny.j0 k l0 a2 a3 al ag ah ai))=some r:=H
 have A7:=aK A70
 clear A70
 have HC8:=aK H
 clear H
 go_enter Try.func4,Try.ntmps4
 go_upto_if 19 with (first|((with_reducible refine gate_dst (N:=5) rfl ?_);(try (refine gate_guard (by rfl) ?_;dsimp only));refine box_event ?hg (N:=5) ?hd (cs:=#[.bool aU,.slice bU aG.length bX,.slice bY aH.length b8,.slice b9 aI.length ca]) (t:=26) ?hr ?_;(case hd=>rfl);(case hg=>rfl);(case hr=>first|(go_simp;done)|(go_simp;rfl));intro aj hg w9 hbox hb;have ae:=aK (hbox);have d4:=bZ HB hg;have dF:=bZ HB hg;replace HO0:=aK (Kd.V_below (Kd.V_elderB (by (with_reducible repeat (first|apply Kd.V_alloc|apply Kd.V_drewN|apply Kd.V_drew));exact HO0.out) aj (Nat.le_of_eq hg.symm)) hb);replace HB:=bW HB hb;clear hb hbox hg)|((with_reducible refine gate_callee (f:=11) rfl ?_);refine gL (some 12) Try.func11 #[] ?_;(with_reducible refine (engrosslaw11_begun.calls k  true _ A5.out).mono ?_);rintro e w10 ⟨rfl,hb⟩;refine⟨_,rfl,?_⟩;replace HO0:=vB HO0 hb;replace ae:=bB ae hb;replace HB:=bW HB hb;(try clear hb);(try clear hb2);(try clear hk);(try clear hi);obtain⟨bj,bk,bl,bm,bn,bo,bp,bq⟩:=bf4 (w:=w10) ae)|((with_reducible refine gate_callee (f:=12) rfl ?_);refine gL (some 16) Try.func12 #[.agg #[.bool aU,.slice bU aG.length bX,.slice bY aH.length b8,.slice b9 aI.length ca]] ?_;(with_reducible refine (engrosslaw11_Cut.calls k aU _ _ aG _ _ aH _ _ aI al ag ah ai _ ?side1 ?side2 ?side3 ?side4 ?side5 ?side6 A7.out).mono ?_);(case side1=>repeat (first|exact (Kd.C_below dy.out HB.out)|(with_reducible refine Kd.C_alloc ?_ _)|(with_reducible refine Kd.C_drewN ?_ _)|(with_reducible refine Kd.C_drew ?_)));(case side2=>exact dz.out);(case side3=>repeat (first|exact (Kd.C_below dB.out HB.out)|(with_reducible refine Kd.C_alloc ?_ _)|(with_reducible refine Kd.C_drewN ?_ _)|(with_reducible refine Kd.C_drew ?_)));(case side4=>exact dC.out);(case side5=>repeat (first|exact (Kd.C_below dD.out HB.out)|(with_reducible refine Kd.C_alloc ?_ _)|(with_reducible refine Kd.C_drewN ?_ _)|(with_reducible refine Kd.C_drew ?_)));(case side6=>exact dE.out);rintro e w12 ⟨eg,eh,ei,rfl,ho0,ho1,ho2,hb⟩;refine⟨_,rfl,?_⟩;have ba:=aK (Kd.R_lower (Kd.R_newM (M:=fun k_=>(w.heap.size≤k_)) ho0 (below_size (bC HB)) (fun k_ h_=>h_)) (below_size (bC HB)));have bb:=aK (Kd.R_lower (Kd.R_newM (M:=fun k_=>(w.heap.size≤k_)) ho1 (below_size (bC HB)) (fun k_ h_=>h_)) (below_size (bC HB)));have bc:=aK (Kd.R_lower (Kd.R_newM (M:=fun k_=>(w.heap.size≤k_)) ho2 (below_size (bC HB)) (fun k_ h_=>h_)) (below_size (bC HB)));replace HO0:=aK (Kd.V_mono (Kd.V_told (Kd.V_told (Kd.V_told (Kd.V_old (by (with_reducible repeat (first|apply Kd.V_alloc|apply Kd.V_drewN|apply Kd.V_drew));exact HO0.out) hb) (Kd.R_base ho0)) (Kd.R_base ho1)) (Kd.R_base ho2)) (fun _ h_=>h_.1));replace ae:=bB ae hb;replace HB:=bW HB hb;(try clear hb);(try clear hb2);(try clear hk);(try clear hi);(try clear ho0);(try clear ho1);(try clear ho2);obtain⟨br,bs,bu,bv,bw,bx,bA,bD⟩:=bf4 (w:=w12) ae;obtain⟨aq,ar,dJ⟩:=Kd.R_slice ba.out;subst dJ;obtain⟨au,av,dK⟩:=Kd.R_slice bb.out;subst dK;obtain⟨aw,ax,dL⟩:=Kd.R_slice bc.out;subst dL)|((with_reducible refine gate_store (t:=26) (p:=5) rfl ?_);refine store_event (t:=26) (p:=5) (v:=?vo_w17) (w1:=((((w12.setCell ⟨aj,0,none⟩ (.bool al)).setCell ⟨aj,1,none⟩ (.slice aq ag.length ar)).setCell ⟨aj,2,none⟩ (.slice au ah.length av)).setCell ⟨aj,3,none⟩ (.slice aw ai.length ax))) ?hg ?ho ?hn ?hr ?_;(case ho=>rfl);(case hg=>rfl);(case hn=>rfl);(case hr=>first|(go_simp;done)|(go_simp;rfl));intro w17 hw;replace HO0:Aside0 (Kd.V (Kd.int .u8) 5 w17 w.heap.size (fun k_=>(P0_ k_∨w.heap.size≤k_)∧some k_≠(.slice aq ag.length ar:Value).ownBlock∧some k_≠(.slice au ah.length av:Value).ownBlock∧some k_≠(.slice aw ai.length ax:Value).ownBlock∧k_≠aj) (.slice A0 l0.length c0) l0):=⟨(by rw [hw];exact (by (with_reducible repeat (first|apply Kd.V_alloc|apply Kd.V_drewN|apply Kd.V_drew));exact Kd.V_mono (Kd.V_far (p:=⟨aj,3,none⟩) (Kd.V_far (p:=⟨aj,2,none⟩) (Kd.V_far (p:=⟨aj,1,none⟩) (Kd.V_far (p:=⟨aj,0,none⟩) (Kd.V_mono HO0.out (fun k_ hk=>(⟨hk,hk.1.1.1.2⟩:_∧k_≠aj))) (fun _ hk=>hk.2) (.bool al)) (fun _ hk=>hk.2) (.slice aq ag.length ar)) (fun _ hk=>hk.2) (.slice au ah.length av)) (fun _ hk=>hk.2) (.slice aw ai.length ax)) (fun _ hk=>⟨hk.1.1.1.1.1,⟨hk.1.1.1.2,⟨hk.1.1.2,⟨hk.1.2,hk.1.1.1.1.2⟩⟩⟩⟩)))⟩;replace ba:Aside0 (Kd.R k56 56 w17 w.heap.size (fun k_=>(w.heap.size≤k_)) (.slice aq ag.length ar) ag):=⟨(by rw [hw];exact (by (with_reducible repeat (first|apply Kd.R_alloc|apply Kd.R_drewN|apply Kd.R_drew));exact Kd.R_mono (Kd.R_far (p:=⟨aj,3,none⟩) (Kd.R_far (p:=⟨aj,2,none⟩) (Kd.R_far (p:=⟨aj,1,none⟩) (Kd.R_far (p:=⟨aj,0,none⟩) (Kd.R_types ba.out ae.out (by decide)) (fun _ hk=>hk.2) (.bool al)) (fun _ hk=>hk.2) (.slice aq ag.length ar)) (fun _ hk=>hk.2) (.slice au ah.length av)) (fun _ hk=>hk.2) (.slice aw ai.length ax)) (fun _ hk=>hk.1.1)))⟩;replace bb:Aside0 (Kd.R Kd.string 9 w17 w.heap.size (fun k_=>(w.heap.size≤k_)) (.slice au ah.length av) ah):=⟨(by rw [hw];exact (by (with_reducible repeat (first|apply Kd.R_alloc|apply Kd.R_drewN|apply Kd.R_drew));exact Kd.R_mono (Kd.R_far (p:=⟨aj,3,none⟩) (Kd.R_far (p:=⟨aj,2,none⟩) (Kd.R_far (p:=⟨aj,1,none⟩) (Kd.R_far (p:=⟨aj,0,none⟩) (Kd.R_types bb.out ae.out (by decide)) (fun _ hk=>hk.2) (.bool al)) (fun _ hk=>hk.2) (.slice aq ag.length ar)) (fun _ hk=>hk.2) (.slice au ah.length av)) (fun _ hk=>hk.2) (.slice aw ai.length ax)) (fun _ hk=>hk.1.1)))⟩;replace bc:Aside0 (Kd.R (Kd.int .i64) 3 w17 w.heap.size (fun k_=>(w.heap.size≤k_)) (.slice aw ai.length ax) ai):=⟨(by rw [hw];exact (by (with_reducible repeat (first|apply Kd.R_alloc|apply Kd.R_drewN|apply Kd.R_drew));exact Kd.R_mono (Kd.R_far (p:=⟨aj,3,none⟩) (Kd.R_far (p:=⟨aj,2,none⟩) (Kd.R_far (p:=⟨aj,1,none⟩) (Kd.R_far (p:=⟨aj,0,none⟩) (Kd.R_types bc.out ae.out (by decide)) (fun _ hk=>hk.2) (.bool al)) (fun _ hk=>hk.2) (.slice aq ag.length ar)) (fun _ hk=>hk.2) (.slice au ah.length av)) (fun _ hk=>hk.2) (.slice aw ai.length ax)) (fun _ hk=>hk.1.1)))⟩;replace ae:Aside0 (w17.heap[aj]? = some (.cells #[.bool al,.slice aq ag.length ar,.slice au ah.length av,.slice aw ai.length ax] 26 (0,0))):=bP ae hw;replace HB:=bH HB hw;clear hw))
 (try simp only [Act.put,List.setIfInBounds_toArray,List.set_cons_zero,List.set_cons_succ])
 go_cut [0] (fun v0 wc=>∃ (kq:Nat) (aV:List Int),Aside0 (engrosslaw11_NodeAny.j0 kq aV a2 a3 al ag ah ai=some r)∧Aside0 (kq≤k)∧Aside0 (Kd.V (Kd.int .u8) 5 wc w.heap.size (fun k_=>(P0_ k_∨w.heap.size≤k_)∧some k_≠((.slice aq ag.length ar):Value).ownBlock∧some k_≠((.slice au ah.length av):Value).ownBlock∧some k_≠((.slice aw ai.length ax):Value).ownBlock∧k_≠aj) v0 aV)∧Aside0 (Kd.R k56 56 wc w.heap.size (fun k_=>(w.heap.size≤k_)) (.slice aq ag.length ar) ag)∧Aside0 (Kd.R Kd.string 9 wc w.heap.size (fun k_=>(w.heap.size≤k_)) (.slice au ah.length av) ah)∧Aside0 (Kd.R (Kd.int .i64) 3 wc w.heap.size (fun k_=>(w.heap.size≤k_)) (.slice aw ai.length ax) ai)∧Aside0 (wc.heap[aj]? = some (.cells #[.bool al,(.slice aq ag.length ar),(.slice au ah.length av),(.slice aw ai.length ax)] 26 (0,0)))∧Aside0 (Below w.heap.size w wc))
 case first =>
  have H:=HC8.out
  clear HC8
  by_cases c18:(l0.length:Int)>260
  rotate_left
  ·rw [if_neg c18] at H
   have aM:decide (260<(l0.length:Int))=false:=decide_eq_false c18
   have bN:decide (260<l0.length)=false:=decide_eq_false (by omega)
   clear c18
   (first|rw [aM]|(simp only [i64_w,i32_w];rw [aM])|skip)
   have H':=aK H
   clear H
   go_wp2
   go_meet
   case rel=>exact⟨_,(l0),H',⟨by first|omega|exact Nat.le_refl _⟩,⟨by (with_reducible repeat (first|apply Kd.V_alloc|apply Kd.V_drewN|apply Kd.V_drew));exact HO0.out⟩,⟨by (with_reducible repeat (first|apply Kd.R_alloc|apply Kd.R_drewN|apply Kd.R_drew));exact ba.out⟩,⟨by (with_reducible repeat (first|apply Kd.R_alloc|apply Kd.R_drewN|apply Kd.R_drew));exact bb.out⟩,⟨by (with_reducible repeat (first|apply Kd.R_alloc|apply Kd.R_drewN|apply Kd.R_drew));exact bc.out⟩,bK ae,bV HB⟩
  rw [if_pos c18] at H
  have aM:decide (260<(l0.length:Int))=true:=decide_eq_true c18
  have bN:decide (260<l0.length)=true:=decide_eq_true (by omega)
  clear c18
  (first|rw [aM]|(simp only [i64_w,i32_w];rw [aM])|skip)
  by_cases c19:260≤(l0.length:Int)
  rotate_left
  ·rw [if_neg c19] at H
   exact absurd H (by simp)
  rw [if_pos c19] at H
  have cd:=eq_true c19
  have cf:decide (260≤(l0.length:Int))=true:=decide_eq_true c19
  clear c19
  obtain⟨bF,hy563⟩:∃ y_:List Int,y_=(l0.take 260):=⟨_,rfl⟩
  replace H:(engrosslaw11_NodeAny.j0 k bF a2 a3 al ag ah ai)=some r:=by first|(rw [hy563];with_reducible exact H)|(have H2_:=(Option.bind_some _ _).symm.trans H;rw [hy563];with_reducible exact H2_)|(have H2_:=(Option.bind_some _ _).symm.trans H;with_reducible exact H2_)|with_reducible exact H|(rw [hy563];exact H)|exact H
  have Ny563:=aK hy563
  clear hy563
  have H':=aK H
  clear H
  have q20:(260:Int)≤((l0.length:Int):Int):=dA
  obtain⟨i020,hi020,_,hsz20,_⟩:=info_parts info5
  have hroom20:l0.length≤c0:=(Kd.V_reads' HO0.out).2.1
  have hC20:Kd.F (Kd.int .u8) _ _ A0 l0.length l0:=(Kd.V_at (base:=w.heap.size) HO0.out).2.2
  have hcut20:=cut_to (P:=Try.prog) 30 5 .i64 Try.underlying30 hi020 A0 l0.length c0 260 (by omega) q20 hroom20
  have ch:=Kd.F_take (m:=260) hC20 (by omega)
  have hy20:bF.length=(260:Int).toNat:=(by rw [Ny563.out,List.length_take];omega)
  rw [← Ny563.out] at ch
  rw [← hy20] at hcut20
  have dG:=aK (show Kd.V (Kd.int .u8) 5 _ w.heap.size _ (.slice A0 bF.length c0) bF from Kd.V_mk (by omega) ch)
  have d5:=aK (show bF.length≤c0 from by omega)
  clear ch hC20 hroom20 hi020 hsz20
  have KY20:=aK hy20
  clear hy20
  replace q20:=eq_true q20
  go_wp2
  go_meet
  case rel=>exact⟨_,(bF),H',⟨by first|omega|exact Nat.le_refl _⟩,⟨by (with_reducible repeat (first|apply Kd.V_alloc|apply Kd.V_drewN|apply Kd.V_drew));exact dG.out⟩,⟨by (with_reducible repeat (first|apply Kd.R_alloc|apply Kd.R_drewN|apply Kd.R_drew));exact ba.out⟩,⟨by (with_reducible repeat (first|apply Kd.R_alloc|apply Kd.R_drewN|apply Kd.R_drew));exact bb.out⟩,⟨by (with_reducible repeat (first|apply Kd.R_alloc|apply Kd.R_drewN|apply Kd.R_drew));exact bc.out⟩,bK ae,bV HB⟩
 case rest =>
  clear HC8
  try clear c1
  try clear p2
  try clear q2
  try clear c4
  try clear c6
  try clear c11
  try clear c12
  try clear c18
  try clear aM
  try clear bN
  try clear c19
  try clear cd
  try clear cf
  try clear q20
  try clear bj bk bl bm
  try clear br bs bu bv
  try clear bn bo bp bq
  try clear bw bx bA bD
  try clear q20
  obtain⟨kq,aV,HA,HJ7,aE,aa,ab,ac,ae,HB⟩:=hcut
  cases kq with
  | zero=>exact absurd HA.out (by simp [engrosslaw11_NodeAny.j0])
  | succ kj7 =>
   have H:=HA.out
   clear HA
   simp only [engrosslaw11_NodeAny.j0] at H
   have cj:=aK H
   clear H
   go_upto_region 7 with (fail)
   go_cut [31] (fun v31 wc=>∃ (kq:Nat) (bf:Bool),v31 = .bool bf∧Aside0 (engrosslaw11_NodeAny.j1 kq a2 a3 bf al ag ah ai=some r)∧Aside0 (kq≤kj7)∧Aside0 (Kd.R k56 56 wc w.heap.size (fun k_=>(w.heap.size≤k_)) (.slice aq ag.length ar) ag)∧Aside0 (Kd.R Kd.string 9 wc w.heap.size (fun k_=>(w.heap.size≤k_)) (.slice au ah.length av) ah)∧Aside0 (Kd.R (Kd.int .i64) 3 wc w.heap.size (fun k_=>(w.heap.size≤k_)) (.slice aw ai.length ax) ai)∧Aside0 (wc.heap[aj]? = some (.cells #[.bool al,(.slice aq ag.length ar),(.slice au ah.length av),(.slice aw ai.length ax)] 26 (0,0)))∧Aside0 (Below w.heap.size w wc))
   case first =>
    have H:=cj.out
    clear cj
    replace H:=oS H
    obtain⟨dk,dl,H⟩:=H
    replace H:(if dk=true then ((engrosslaw1_Short.f aV 256).bind fun aY=>((engrossref10_Whole.f aY).bind fun aQ=>((engrosslaw11_tells.f kj7 aQ).bind fun aJ=>(engrosslaw11_NodeAny.j1 kj7 a2 a3 (!aJ) al ag ah ai)))) else (none))=some r:=H
    have A22:=aK dl
    clear dl
    by_cases c23:dk=true
    rotate_left
    ·replace c23:=Bool.eq_false_iff.mpr c23
     subst c23
     have H1:(none)=some r:=by rw [if_neg (show ¬ (false=true) by decide)] at H;exact H
     clear H
     have H:=H1
     clear H1
     exact absurd H (by simp)
    subst c23
    have H1:((engrosslaw1_Short.f aV 256).bind fun aY=>((engrossref10_Whole.f aY).bind fun aQ=>((engrosslaw11_tells.f kj7 aQ).bind fun aJ=>(engrosslaw11_NodeAny.j1 kj7 a2 a3 (!aJ) al ag ah ai))))=some r:=by rw [if_pos rfl] at H;exact H
    clear H
    have H:=H1
    clear H1
    replace H:=oS H
    obtain⟨aY,dm,H⟩:=H
    replace H:((engrossref10_Whole.f aY).bind fun aQ=>((engrosslaw11_tells.f kj7 aQ).bind fun aJ=>(engrosslaw11_NodeAny.j1 kj7 a2 a3 (!aJ) al ag ah ai)))=some r:=H
    have A24:=aK dm
    clear dm
    replace H:=oS H
    obtain⟨aQ,dn,H⟩:=H
    replace H:((engrosslaw11_tells.f kj7 aQ).bind fun aJ=>(engrosslaw11_NodeAny.j1 kj7 a2 a3 (!aJ) al ag ah ai))=some r:=H
    have A25:=aK dn
    clear dn
    replace H:=oS H
    obtain⟨aJ,dp,H⟩:=H
    replace H:(engrosslaw11_NodeAny.j1 kj7 a2 a3 (!aJ) al ag ah ai)=some r:=H
    have A26:=aK dp
    clear dp
    have H':=aK H
    clear H
    obtain⟨dM,dN,dO⟩:=Kd.V_slice aE.out
    subst dO
    go_wp2_with (first|((with_reducible refine gate_callee (f:=25) rfl ?_);refine gL (some 23) Try.func25 #[.slice dM aV.length dN] ?_;(with_reducible refine (engrosslaw11_tells.calls kj7 _ _ aV true _ ?side1 ?side2 A22.out).mono ?_);(case side1=>exact sC (Kd.V_reads' aE.out).2.2);(case side2=>exact (Kd.V_reads' aE.out).2.1);rintro e w28 ⟨rfl,hb⟩;refine⟨_,rfl,?_⟩;replace aE:=vB aE hb;replace aa:=rB aa hb;replace ab:=rB ab hb;replace ac:=rB ac hb;replace ae:=bB ae hb;replace HB:=bW HB hb;(try clear hb);(try clear hb2);(try clear hk);(try clear hi))|(go_at_call 26;(with_reducible refine (engrosslaw1_Short.calls (fun k_=>((P0_ k_∨w.heap.size≤k_)∧(some k_≠(.slice aq ag.length ar:Value).ownBlock∧(some k_≠(.slice au ah.length av:Value).ownBlock∧(some k_≠(.slice aw ai.length ax:Value).ownBlock∧k_≠aj))))) _ _ aV 256 aY _ ?side1 A24.out).mono ?_);(case side1=>exact aE.out);rintro e w29 ⟨ej,rfl,ho0,hb⟩;have aT:=aK (Kd.V_lower (Kd.V_mono (ok':=fun k_=>(P0_ k_∨w.heap.size≤k_)∧some k_≠(.slice aq ag.length ar:Value).ownBlock∧some k_≠(.slice au ah.length av:Value).ownBlock∧some k_≠(.slice aw ai.length ax:Value).ownBlock∧k_≠aj) ho0 (fun k_ hk_=>⟨Or.elim hk_ (fun hs_=>hs_.1) (fun hn_=>(.inr (Nat.le_trans (below_size (bC HB)) hn_))),Or.elim hk_ (fun hs_=>hs_.2.1) (fun hn_=>(rF aa k_ hn_)),Or.elim hk_ (fun hs_=>hs_.2.2.1) (fun hn_=>(rF ab k_ hn_)),Or.elim hk_ (fun hs_=>hs_.2.2.2.1) (fun hn_=>(rF ac k_ hn_)),Or.elim hk_ (fun hs_=>hs_.2.2.2.2) (fun hn_=>(Kd.freshB (bQ ae) k_ hn_))⟩)) (below_size (bC HB)));replace aE:=vB aE hb;replace aa:=rB aa hb;replace ab:=rB ab hb;replace ac:=rB ac hb;replace ae:=bB ae hb;replace HB:=bW HB hb;(try clear hb);(try clear hb2);(try clear hk);(try clear hi);(try clear ho0);obtain⟨ek,el,dP⟩:=Kd.V_slice aT.out;subst dP)|(go_at_call 22;(with_reducible refine (engrossref10_Whole.calls _ _ aY aQ _ ?side1 ?side2 A25.out).mono ?_);(case side1=>exact sC (Kd.V_reads' aT.out).2.2);(case side2=>exact (Kd.V_reads' aT.out).2.1);rintro e w31 ⟨em,rfl,ho0,hb⟩;have bg:=aK (Kd.R_lower (Kd.R_newM (M:=fun k_=>(w.heap.size≤k_)) ho0 (below_size (bC HB)) (fun k_ h_=>h_)) (below_size (bC HB)));replace aE:=vE aE (Kd.R_base ho0) hb;replace aa:=rB aa hb;replace ab:=rB ab hb;replace ac:=rB ac hb;replace aT:=vE aT (Kd.R_base ho0) hb;replace ae:=bB ae hb;replace HB:=bW HB hb;(try clear hb);(try clear hb2);(try clear hk);(try clear hi);(try clear ho0);obtain⟨ep,er,dQ⟩:=Kd.R_slice bg.out;subst dQ)|(go_at_call 25;(with_reducible refine (engrosslaw11_tells.calls kj7 _ _ aQ aJ _ ?side1 ?side2 A26.out).mono ?_);(case side1=>exact sC (Kd.R_reads' bg.out).2.2);(case side2=>exact (Kd.R_reads' bg.out).2.1);rintro e w33 ⟨rfl,hb⟩;replace aE:=vB aE hb;replace aa:=rB aa hb;replace ab:=rB ab hb;replace ac:=rB ac hb;replace aT:=vB aT hb;replace bg:=rB bg hb;replace ae:=bB ae hb;replace HB:=bW HB hb;(try clear hb);(try clear hb2);(try clear hk);(try clear hi)))
    go_meet
    case rel=>exact⟨_,(!aJ),(by first|rfl|(simp;done)|(simp [*];done)),H',⟨by have:=HJ7.out;first|omega|exact Nat.le_refl _⟩,⟨by (with_reducible repeat (first|apply Kd.R_alloc|apply Kd.R_drewN|apply Kd.R_drew));exact aa.out⟩,⟨by (with_reducible repeat (first|apply Kd.R_alloc|apply Kd.R_drewN|apply Kd.R_drew));exact ab.out⟩,⟨by (with_reducible repeat (first|apply Kd.R_alloc|apply Kd.R_drewN|apply Kd.R_drew));exact ac.out⟩,bK ae,bV HB⟩
   case rest =>
    clear cj
    try clear c1
    try clear c2
    try clear p2
    try clear q2
    try clear c4
    try clear c6
    try clear c11
    try clear c12
    try clear c18
    try clear aM
    try clear bN
    try clear c19
    try clear cd
    try clear cf
    try clear q20
    try clear c23
    try clear c25
    try clear bj bk bl bm
    try clear br bs bu bv
    try clear bn bo bp bq
    try clear bw bx bA bD
    try clear p2
    try clear q2
    try clear q20
    obtain⟨kq,bf,rfl,HA,cm,aa,ab,ac,ae,HB⟩:=hcut
    cases kq with
    | zero=>exact absurd HA.out (by simp [engrosslaw11_NodeAny.j1])
    | succ ao =>
     have H:=HA.out
     clear HA
     simp only [engrosslaw11_NodeAny.j1] at H
     by_cases c34:bf=true
     ·subst c34
      have H1:(none)=some r:=by rw [if_pos rfl] at H;exact H
      clear H
      have H:=H1
      clear H1
      exact absurd H (by simp)
     replace c34:=Bool.eq_false_iff.mpr c34
     subst c34
     have H1:((engrossref10_NodeBytes.f ao al ag ah ai).bind fun bI=>((engrossref10_Whole.f bI).bind fun af=>((engrossref10_MayNode.f ao al ag ah ai).bind fun aW=>(if aW=true then (if (af.length:Int)=0 then (engrosslaw11_NodeAny.j2 ao a2 a3 af true) else (engrosslaw11_NodeAny.j2 ao a2 a3 af (decide (a2<0)))) else (engrosslaw11_NodeAny.j2 ao a2 a3 af true)))))=some r:=by rw [if_neg (show ¬ (false=true) by decide)] at H;exact H
     clear H
     have H:=H1
     clear H1
     replace H:=oS H
     obtain⟨bI,dq,H⟩:=H
     replace H:((engrossref10_Whole.f bI).bind fun af=>((engrossref10_MayNode.f ao al ag ah ai).bind fun aW=>(if aW=true then (if (af.length:Int)=0 then (engrosslaw11_NodeAny.j2 ao a2 a3 af true) else (engrosslaw11_NodeAny.j2 ao a2 a3 af (decide (a2<0)))) else (engrosslaw11_NodeAny.j2 ao a2 a3 af true))))=some r:=H
     have A35:=aK dq
     clear dq
     replace H:=oS H
     obtain⟨af,dr,H⟩:=H
     replace H:((engrossref10_MayNode.f ao al ag ah ai).bind fun aW=>(if aW=true then (if (af.length:Int)=0 then (engrosslaw11_NodeAny.j2 ao a2 a3 af true) else (engrosslaw11_NodeAny.j2 ao a2 a3 af (decide (a2<0)))) else (engrosslaw11_NodeAny.j2 ao a2 a3 af true)))=some r:=H
     have A36:=aK dr
     clear dr
     have cn:=aK H
     clear H
     obtain⟨cC,cD,cE,cF,cG,cH,cI,cJ⟩:=bf4 (w:=wc) ae
     go_upto_region 10 with (first|((with_reducible refine gate_callee (f:=14) rfl ?_);refine gL (some 33) Try.func14 #[.agg #[.bool al,.slice aq ag.length ar,.slice au ah.length av,.slice aw ai.length ax]] ?_;(with_reducible refine (engrossref10_NodeBytes.calls ao al _ _ ag _ _ ah _ _ ai bI _ ?side1 ?side2 ?side3 ?side4 ?side5 ?side6 A35.out).mono ?_);(case side1=>exact sC (Kd.R_reads' aa.out).2.2);(case side2=>exact (Kd.R_reads' aa.out).2.1);(case side3=>exact sC (Kd.R_reads' ab.out).2.2);(case side4=>exact (Kd.R_reads' ab.out).2.1);(case side5=>exact sC (Kd.R_reads' ac.out).2.2);(case side6=>exact (Kd.R_reads' ac.out).2.1);rintro e w39 ⟨es,rfl,ho0,hb⟩;refine⟨_,rfl,?_⟩;have aA:=aK (Kd.R_lower (Kd.R_newM (M:=fun k_=>(w.heap.size≤k_)) ho0 (below_size (bC HB)) (fun k_ h_=>h_)) (below_size (bC HB)));replace aa:=rB aa hb;replace ab:=rB ab hb;replace ac:=rB ac hb;replace ae:=bB ae hb;replace HB:=bW HB hb;(try clear hb);(try clear hb2);(try clear hk);(try clear hi);(try clear ho0);obtain⟨dR,dS,dT⟩:=Kd.R_slice aA.out;subst dT)|((with_reducible refine gate_callee (f:=22) rfl ?_);refine gL (some 34) Try.func22 #[.slice dR bI.length dS] ?_;(with_reducible refine (engrossref10_Whole.calls _ _ bI af _ ?side1 ?side2 A36.out).mono ?_);(case side1=>exact sC (Kd.R_reads' aA.out).2.2);(case side2=>exact (Kd.R_reads' aA.out).2.1);rintro e w41 ⟨dU,rfl,ho0,hb⟩;refine⟨_,rfl,?_⟩;have aC:=aK (Kd.R_lower (Kd.R_new' (Kd.R_newM (M:=fun k_=>(w.heap.size≤k_)) ho0 (below_size (bC HB)) (fun k_ h_=>h_)) (Kd.R_lt (by (with_reducible repeat (first|apply Kd.R_alloc|apply Kd.R_drewN|apply Kd.R_drew));exact aA.out))) (below_size (bC HB)));replace aa:=rB aa hb;replace ab:=rB ab hb;replace ac:=rB ac hb;replace aA:=rE aA (Kd.R_base ho0) hb;replace ae:=bB ae hb;replace HB:=bW HB hb;(try clear hb);(try clear hb2);(try clear hk);(try clear hi);(try clear ho0)))
     (try simp only [Act.put,List.setIfInBounds_toArray,List.set_cons_zero,List.set_cons_succ])
     go_cut [46] (fun v46 wc=>∃ (kq:Nat) (bh:Bool),v46 = .bool bh∧Aside0 (engrosslaw11_NodeAny.j2 kq a2 a3 af bh=some r)∧Aside0 (kq≤ao)∧Aside0 (Kd.R (Kd.int .u8) 5 wc w.heap.size (fun k_=>(w.heap.size≤k_)) dU af)∧Aside0 (Kd.R k56 56 wc w.heap.size (fun k_=>(w.heap.size≤k_)) (.slice aq ag.length ar) ag)∧Aside0 (Kd.R Kd.string 9 wc w.heap.size (fun k_=>(w.heap.size≤k_)) (.slice au ah.length av) ah)∧Aside0 (Kd.R (Kd.int .i64) 3 wc w.heap.size (fun k_=>(w.heap.size≤k_)) (.slice aw ai.length ax) ai)∧Aside0 (wc.heap[aj]? = some (.cells #[.bool al,(.slice aq ag.length ar),(.slice au ah.length av),(.slice aw ai.length ax)] 26 (0,0)))∧Aside0 (Below w.heap.size w wc))
     case first =>
      have H:=cn.out
      clear cn
      replace H:=oS H
      obtain⟨aW,dt,H⟩:=H
      replace H:(if aW=true then (if (af.length:Int)=0 then (engrosslaw11_NodeAny.j2 ao a2 a3 af true) else (engrosslaw11_NodeAny.j2 ao a2 a3 af (decide (a2<0)))) else (engrosslaw11_NodeAny.j2 ao a2 a3 af true))=some r:=H
      have A42:=aK dt
      clear dt
      by_cases c43:aW=true
      rotate_left
      ·replace c43:=Bool.eq_false_iff.mpr c43
       subst c43
       have H1:(engrosslaw11_NodeAny.j2 ao a2 a3 af true)=some r:=by rw [if_neg (show ¬ (false=true) by decide)] at H;exact H
       clear H
       have H:=H1
       clear H1
       have H':=aK H
       clear H
       obtain⟨cK,cL,cM,cN,cO,cP,cQ,cR⟩:=bf4 (w:=w41) ae
       go_wp2_with (first|((with_reducible refine gate_callee (f:=15) rfl ?_);refine gL (some 36) Try.func15 #[.agg #[.bool al,.slice aq ag.length ar,.slice au ah.length av,.slice aw ai.length ax]] ?_;(with_reducible refine (engrossref10_MayNode.calls ao al _ _ ag _ _ ah _ _ ai false _ ?side1 ?side2 ?side3 ?side4 ?side5 ?side6 A42.out).mono ?_);(case side1=>exact sC (Kd.R_reads' aa.out).2.2);(case side2=>exact (Kd.R_reads' aa.out).2.1);(case side3=>exact sC (Kd.R_reads' ab.out).2.2);(case side4=>exact (Kd.R_reads' ab.out).2.1);(case side5=>exact sC (Kd.R_reads' ac.out).2.2);(case side6=>exact (Kd.R_reads' ac.out).2.1);rintro e w52 ⟨rfl,hb⟩;refine⟨_,rfl,?_⟩;replace aa:=rB aa hb;replace ab:=rB ab hb;replace ac:=rB ac hb;replace aA:=rB aA hb;replace aC:=rB aC hb;replace ae:=bB ae hb;replace HB:=bW HB hb;(try clear hb);(try clear hb2);(try clear hk);(try clear hi)))
       go_meet
       case rel=>exact⟨_,(true),(by first|rfl|(simp;done)|(simp [*];done)),H',⟨by have:=HJ7.out;have:=cm.out;first|omega|exact Nat.le_refl _⟩,⟨by (with_reducible repeat (first|apply Kd.R_alloc|apply Kd.R_drewN|apply Kd.R_drew));exact Kd.R_mono aC.out (fun _ hk=>hk.1.1)⟩,⟨by (with_reducible repeat (first|apply Kd.R_alloc|apply Kd.R_drewN|apply Kd.R_drew));exact aa.out⟩,⟨by (with_reducible repeat (first|apply Kd.R_alloc|apply Kd.R_drewN|apply Kd.R_drew));exact ab.out⟩,⟨by (with_reducible repeat (first|apply Kd.R_alloc|apply Kd.R_drewN|apply Kd.R_drew));exact ac.out⟩,bK ae,bV HB⟩
      subst c43
      have H1:(if (af.length:Int)=0 then (engrosslaw11_NodeAny.j2 ao a2 a3 af true) else (engrosslaw11_NodeAny.j2 ao a2 a3 af (decide (a2<0))))=some r:=by rw [if_pos rfl] at H;exact H
      clear H
      have H:=H1
      clear H1
      by_cases c44:(af.length:Int)=0
      ·rw [if_pos c44] at H
       have aX:((af.length:Int) == 0)=true:=beq_iff_eq.mpr c44
       have cB:((af.length:Int) != 0)=false:=bne_eq_false_iff_eq.mpr c44
       clear c44
       (first|rw [aX]|(simp only [i64_w,i32_w];rw [aX])|skip)
       have H':=aK H
       clear H
       obtain⟨cS,cT,cU,cV,cX,cY,cZ,da⟩:=bf4 (w:=w41) ae
       go_wp2_with (first|((with_reducible refine gate_callee (f:=15) rfl ?_);refine gL (some 36) Try.func15 #[.agg #[.bool al,.slice aq ag.length ar,.slice au ah.length av,.slice aw ai.length ax]] ?_;(with_reducible refine (engrossref10_MayNode.calls ao al _ _ ag _ _ ah _ _ ai true _ ?side1 ?side2 ?side3 ?side4 ?side5 ?side6 A42.out).mono ?_);(case side1=>exact sC (Kd.R_reads' aa.out).2.2);(case side2=>exact (Kd.R_reads' aa.out).2.1);(case side3=>exact sC (Kd.R_reads' ab.out).2.2);(case side4=>exact (Kd.R_reads' ab.out).2.1);(case side5=>exact sC (Kd.R_reads' ac.out).2.2);(case side6=>exact (Kd.R_reads' ac.out).2.1);rintro e w46 ⟨rfl,hb⟩;refine⟨_,rfl,?_⟩;replace aa:=rB aa hb;replace ab:=rB ab hb;replace ac:=rB ac hb;replace aA:=rB aA hb;replace aC:=rB aC hb;replace ae:=bB ae hb;replace HB:=bW HB hb;(try clear hb);(try clear hb2);(try clear hk);(try clear hi);obtain⟨et,eu,dV⟩:=Kd.R_slice aC.out;subst dV))
       go_meet
       case rel=>exact⟨_,(true),(by first|rfl|(simp;done)|(simp [*];done)),H',⟨by have:=HJ7.out;have:=cm.out;first|omega|exact Nat.le_refl _⟩,⟨by (with_reducible repeat (first|apply Kd.R_alloc|apply Kd.R_drewN|apply Kd.R_drew));exact Kd.R_mono aC.out (fun _ hk=>hk.1.1)⟩,⟨by (with_reducible repeat (first|apply Kd.R_alloc|apply Kd.R_drewN|apply Kd.R_drew));exact aa.out⟩,⟨by (with_reducible repeat (first|apply Kd.R_alloc|apply Kd.R_drewN|apply Kd.R_drew));exact ab.out⟩,⟨by (with_reducible repeat (first|apply Kd.R_alloc|apply Kd.R_drewN|apply Kd.R_drew));exact ac.out⟩,bK ae,bV HB⟩
      rw [if_neg c44] at H
      have aX:((af.length:Int) == 0)=false:=beq_eq_false_iff_ne.mpr c44
      have cB:((af.length:Int) != 0)=true:=bne_iff_ne.mpr c44
      have dH:¬ (af = []):=fun h_=>c44 (by rw [h_];rfl)
      (first|rw [aX]|(simp only [i64_w,i32_w];rw [aX])|skip)
      have H':=aK H
      clear H
      obtain⟨db,dc,dd,de,df,dg,dh,di⟩:=bf4 (w:=w41) ae
      go_wp2_with (first|((with_reducible refine gate_callee (f:=15) rfl ?_);refine gL (some 36) Try.func15 #[.agg #[.bool al,.slice aq ag.length ar,.slice au ah.length av,.slice aw ai.length ax]] ?_;(with_reducible refine (engrossref10_MayNode.calls ao al _ _ ag _ _ ah _ _ ai true _ ?side1 ?side2 ?side3 ?side4 ?side5 ?side6 A42.out).mono ?_);(case side1=>exact sC (Kd.R_reads' aa.out).2.2);(case side2=>exact (Kd.R_reads' aa.out).2.1);(case side3=>exact sC (Kd.R_reads' ab.out).2.2);(case side4=>exact (Kd.R_reads' ab.out).2.1);(case side5=>exact sC (Kd.R_reads' ac.out).2.2);(case side6=>exact (Kd.R_reads' ac.out).2.1);rintro e w49 ⟨rfl,hb⟩;refine⟨_,rfl,?_⟩;replace aa:=rB aa hb;replace ab:=rB ab hb;replace ac:=rB ac hb;replace aA:=rB aA hb;replace aC:=rB aC hb;replace ae:=bB ae hb;replace HB:=bW HB hb;(try clear hb);(try clear hb2);(try clear hk);(try clear hi);obtain⟨ev,ex,dW⟩:=Kd.R_slice aC.out;subst dW))
      go_meet
      case rel=>exact⟨_,(decide (a2<0)),(by first|rfl|(simp;done)|(simp [*];done)),H',⟨by have:=HJ7.out;have:=cm.out;first|omega|exact Nat.le_refl _⟩,⟨by (with_reducible repeat (first|apply Kd.R_alloc|apply Kd.R_drewN|apply Kd.R_drew));exact Kd.R_mono aC.out (fun _ hk=>hk.1.1)⟩,⟨by (with_reducible repeat (first|apply Kd.R_alloc|apply Kd.R_drewN|apply Kd.R_drew));exact aa.out⟩,⟨by (with_reducible repeat (first|apply Kd.R_alloc|apply Kd.R_drewN|apply Kd.R_drew));exact ab.out⟩,⟨by (with_reducible repeat (first|apply Kd.R_alloc|apply Kd.R_drewN|apply Kd.R_drew));exact ac.out⟩,bK ae,bV HB⟩
     case rest =>
      clear cn
      try clear c1
      try clear c2
      try clear p2
      try clear q2
      try clear c3
      try clear c4
      try clear c6
      try clear c11
      try clear c12
      try clear c14
      try clear c15
      try clear c18
      try clear aM
      try clear bN
      try clear c19
      try clear cd
      try clear cf
      try clear q20
      try clear c22
      try clear c23
      try clear c25
      try clear c34
      try clear c43
      try clear c44
      try clear aX
      try clear cB
      try clear dH
      try clear bj bk bl bm
      try clear br bs bu bv
      try clear cC cD cE cF
      try clear cS cT cU cV
      try clear db dc dd de
      try clear cK cL cM cN
      try clear bn bo bp bq
      try clear bw bx bA bD
      try clear cG cH cI cJ
      try clear cX cY cZ da
      try clear df dg dh di
      try clear cO cP cQ cR
      try clear p2
      try clear q2
      try clear q20
      obtain⟨kq,bh,rfl,HA,ey,ay,aa,ab,ac,ae,HB⟩:=hcut
      cases kq with
      | zero=>exact absurd HA.out (by simp [engrosslaw11_NodeAny.j2])
      | succ aD =>
       have H:=HA.out
       clear HA
       simp only [engrosslaw11_NodeAny.j2] at H
       by_cases c53:bh=true
       ·subst c53
        have H1:(some true)=some r:=by rw [if_pos rfl] at H;exact H
        clear H
        have H:=H1
        clear H1
        obtain rfl:=Option.some.inj H
        go_wp2
        go_ret
        exact xB HB
       replace c53:=Bool.eq_false_iff.mpr c53
       subst c53
       have H1:(if ([]:List Int).length+af.length<140737488355328 then ((some (([]:List Int)++af:List Int)).bind fun am=>(if 0≤(Int.tmod a2 256) then (if (Int.tmod a2 256)<(am.length:Int) then ((engrosslaw11_tells.f aD (am.set ((Int.tmod a2 256):Int).toNat (Go.bits .xor .u8 (rd am (Int.tmod a2 256)) a3))).bind fun aN=>(if aN=true then (if 255≤(af.length:Int) then ((engrosslaw11_tells.f aD (af.take 255)).bind fun az=>(some az)) else (none)) else (none))) else (none)) else (none))) else (none))=some r:=by rw [if_neg (show ¬ (false=true) by decide)] at H;exact H
       clear H
       have H:=H1
       clear H1
       by_cases c54:([]:List Int).length+af.length<140737488355328
       rotate_left
       ·rw [if_neg c54] at H
        exact absurd H (by simp)
       rw [if_pos c54] at H
       have LMc54:=aK c54
       clear c54
       obtain⟨am,hy583⟩:∃ y_:List Int,y_=(([]:List Int)++af):=⟨_,rfl⟩
       replace H:(if 0≤(Int.tmod a2 256) then (if (Int.tmod a2 256)<(am.length:Int) then ((engrosslaw11_tells.f aD (am.set ((Int.tmod a2 256):Int).toNat (Go.bits .xor .u8 (rd am (Int.tmod a2 256)) a3))).bind fun aN=>(if aN=true then (if 255≤(af.length:Int) then ((engrosslaw11_tells.f aD (af.take 255)).bind fun az=>(some az)) else (none)) else (none))) else (none)) else (none))=some r:=by first|(rw [hy583];with_reducible exact H)|(have H2_:=(Option.bind_some _ _).symm.trans H;rw [hy583];with_reducible exact H2_)|(have H2_:=(Option.bind_some _ _).symm.trans H;with_reducible exact H2_)|with_reducible exact H|(rw [hy583];exact H)|exact H
       have Ny583:=aK hy583
       clear hy583
       obtain⟨ji55,hji55⟩:∃ j_:Int,(Int.tmod a2 256)=j_:=⟨_,rfl⟩
       replace H:(if 0≤(ji55) then (if (ji55)<(am.length:Int) then ((engrosslaw11_tells.f aD (am.set ((ji55):Int).toNat (Go.bits .xor .u8 (rd am (ji55)) a3))).bind fun aN=>(if aN=true then (if 255≤(af.length:Int) then ((engrosslaw11_tells.f aD (af.take 255)).bind fun az=>(some az)) else (none)) else (none))) else (none)) else (none))=some r:=by first|(rw [hji55] at H;exact H)|(simp only [hji55] at H ⊢;exact H)
       by_cases c56:0≤(ji55)
       rotate_left
       ·rw [if_neg c56] at H
        exact absurd H (by simp)
       rw [if_pos c56] at H
       have d6:decide (0≤(ji55))=true:=decide_eq_true c56
       clear c56
       by_cases c57:(ji55)<(am.length:Int)
       rotate_left
       ·rw [if_neg c57] at H
        exact absurd H (by simp)
       rw [if_pos c57] at H
       have d7:decide ((ji55)<(am.length:Int))=true:=decide_eq_true c57
       clear c57
       obtain⟨bJ,hy587⟩:∃ y_:List Int,y_=(am.set ((ji55):Int).toNat (Go.bits .xor .u8 (rd am (ji55)) a3)):=⟨_,rfl⟩
       replace H:((engrosslaw11_tells.f aD bJ).bind fun aN=>(if aN=true then (if 255≤(af.length:Int) then ((engrosslaw11_tells.f aD (af.take 255)).bind fun az=>(some az)) else (none)) else (none)))=some r:=by first|(rw [hy587];with_reducible exact H)|(have H2_:=(Option.bind_some _ _).symm.trans H;rw [hy587];with_reducible exact H2_)|(have H2_:=(Option.bind_some _ _).symm.trans H;with_reducible exact H2_)|with_reducible exact H|(rw [hy587];exact H)|exact H
       have Ny587:=aK hy587
       clear hy587
       replace H:=oS H
       obtain⟨aN,du,H⟩:=H
       replace H:(if aN=true then (if 255≤(af.length:Int) then ((engrosslaw11_tells.f aD (af.take 255)).bind fun az=>(some az)) else (none)) else (none))=some r:=H
       have A59:=aK du
       clear du
       by_cases c60:aN=true
       rotate_left
       ·replace c60:=Bool.eq_false_iff.mpr c60
        subst c60
        have H1:(none)=some r:=by rw [if_neg (show ¬ (false=true) by decide)] at H;exact H
        clear H
        have H:=H1
        clear H1
        exact absurd H (by simp)
       subst c60
       have H1:(if 255≤(af.length:Int) then ((engrosslaw11_tells.f aD (af.take 255)).bind fun az=>(some az)) else (none))=some r:=by rw [if_pos rfl] at H;exact H
       clear H
       have H:=H1
       clear H1
       by_cases c61:255≤(af.length:Int)
       rotate_left
       ·rw [if_neg c61] at H
        exact absurd H (by simp)
       rw [if_pos c61] at H
       have d8:=eq_true c61
       have d9:decide (255≤(af.length:Int))=true:=decide_eq_true c61
       clear c61
       obtain⟨cg,hy589⟩:∃ y_:List Int,y_=(af.take 255):=⟨_,rfl⟩
       replace H:((engrosslaw11_tells.f aD cg).bind fun az=>(some az))=some r:=by first|(rw [hy589];with_reducible exact H)|(have H2_:=(Option.bind_some _ _).symm.trans H;rw [hy589];with_reducible exact H2_)|(have H2_:=(Option.bind_some _ _).symm.trans H;with_reducible exact H2_)|with_reducible exact H|(rw [hy589];exact H)|exact H
       have Ny589:=aK hy589
       clear hy589
       replace H:=oS H
       obtain⟨az,dv,H⟩:=H
       replace H:(some az)=some r:=H
       have A62:=aK dv
       clear dv
       obtain rfl:=Option.some.inj H
       obtain⟨bO,bM,dX⟩:=Kd.R_slice ay.out
       subst dX
       go_wp2_with (first|((with_reducible refine gate_builtin (b:=.append) (xs:=#[.const (.slice none 0 0),.tmp 47]) rfl ?_);(try (refine gate_guard (by rfl) ?_;dsimp only));at_builtin;refine Kd.R_append_rows (Kd.int .u8) (w0:=w) w.heap.size rfl (.const (.slice none 0 0)) (.tmp 47) 30 5 (.int .u8 0) 1 rfl Try.underlying30 info5 rfl (by decide) (by omega) (.slice none 0 0) ([]:List Int) af _ _ _ (fun k_=>(w.heap.size≤k_)∧some k_≠(.slice bO af.length bM:Value).ownBlock) (fun _=>False) rfl rfl ?aO ?aR (fun _ _ h=>h) (fun _ h=>h.elim) ?aF ?aB ?aS ?aL ?_;(case aR=>exact sC (Kd.R_reads' ay.out).2.2);(case aB=>exact (bC HB));(case aF=>exact (fun k_ hk=>⟨(Nat.le_trans (below_size (bC HB)) hk),Kd.fresh' (Kd.R_lt (by (with_reducible repeat (first|apply Kd.R_alloc|apply Kd.R_drewN|apply Kd.R_drew));exact ay.out)) k_ hk⟩));(case aO=>exact ((Kd.R_nil _ _ _ _ (fun k_=>(w.heap.size≤k_)∧some k_≠(.slice bO af.length bM:Value).ownBlock))));(case aS=>exact (below_size (bC HB)));(case aL=>have:=LMc54.out;omega);intro ez w63 ho hb hg hat;rw [← Ny583.out] at ho;have ap:=aK (ho);replace ay:=aK (Kd.R_after (Kd.R_apart_nil (by (with_reducible repeat (first|apply Kd.R_alloc|apply Kd.R_drewN|apply Kd.R_drew));exact ay.out)) hg hat);replace aa:=aK (Kd.R_grown (by (with_reducible repeat (first|apply Kd.R_alloc|apply Kd.R_drewN|apply Kd.R_drew));exact aa.out) hg (fun _ _=>by simp [Value.ownBlock]));replace ab:=aK (Kd.R_grown (by (with_reducible repeat (first|apply Kd.R_alloc|apply Kd.R_drewN|apply Kd.R_drew));exact ab.out) hg (fun _ _=>by simp [Value.ownBlock]));replace ac:=aK (Kd.R_grown (by (with_reducible repeat (first|apply Kd.R_alloc|apply Kd.R_drewN|apply Kd.R_drew));exact ac.out) hg (fun _ _=>by simp [Value.ownBlock]));replace ae:=aK (blk_grown (bQ ae) hg (by simp [Value.ownBlock]));replace HB:=aK (hb);clear ho hb hg hat;obtain⟨eA,aZ,dY⟩:=Kd.R_slice ap.out;subst dY;have cp:0≤((ji55):Int):=dA;have cq:(ji55)<(am.length:Int):=dA;obtain⟨ed,e586,dj⟩:=Kd.at_int (Kd.R_reads' ap.out).2.2 (ji55) cp cq;cases e586;replace cp:=eq_true cp;replace cq:=eq_true cq;have p58:0≤((ji55):Int):=dA;have q58:((ji55):Int)<((am.length:Int):Int):=dA;obtain⟨go58,eB,dw,dx,gl58,cl58,HG58⟩:=Kd.R_form ap.out (by omega);(first|cases dw|(injection dw with ea_ en_ ec_;(first|subst ea_|(injection ea_ with ea_;subst ea_));subst ec_;clear en_));have GB58:=aK dx;have GG58:=aK HG58;clear dx gl58 HG58;(first|simp only [add_plain] at dj|skip);obtain⟨dZ,hf58_0⟩:=Kd.R_celln 0 ap.out ((ji55):Int) p58 q58;replace p58:=eq_true p58;replace q58:=eq_true q58;obtain⟨hy66_,hz66_⟩:=Kd.R_celln 0 ap.out ((ji55):Int) (dA) (dA);have HP66:=Kd.R_putg ap.out ((ji55):Int) (Go.bits .xor .u8 (rd am (ji55)) a3))|((with_reducible refine gate_store (t:=5) (p:=56) rfl ?_);refine store_event (t:=5) (p:=56) (v:=?vo_w67) (w1:=(w63.setCell ⟨go58,((ji55):Int).toNat,none⟩ (.int .u8 (Go.bits .xor .u8 (rd am (ji55)) a3)))) ?hg ?ho ?hn ?hr ?_;(case ho=>rfl);(case hg=>rfl);(case hn=>rfl);(case hr=>first|(go_simp;done)|(go_simp;rfl));intro w67 hw;have hg:w63.grownBy w67 (some go58):=(by rw [hw];exact HP66.2);have hp_:Kd.R (Kd.int .u8) 5 w67 w.heap.size (fun k_=>(w.heap.size≤k_)∧some k_≠(.slice bO af.length bM:Value).ownBlock) (.slice (some ⟨go58,0,none⟩) am.length aZ) bJ:=(by rw [hw,Ny587.out];exact HP66.1);clear HP66;replace ay:=aK (Kd.R_after (v:=(.slice (some ⟨go58,0,none⟩) am.length aZ)) (v1:=(.slice (some ⟨go58,0,none⟩) am.length aZ)) (ok:=(fun k_=>(w.heap.size≤k_))) (by (with_reducible repeat (first|apply Kd.R_alloc|apply Kd.R_drewN|apply Kd.R_drew));exact ay.out) hg (.inl rfl));replace aa:=aK (Kd.R_over' (v:=(.slice (some ⟨go58,0,none⟩) am.length aZ)) (by (with_reducible repeat (first|apply Kd.R_alloc|apply Kd.R_drewN|apply Kd.R_drew));exact aa.out) (Kd.R_typed ap.out) (by decide) hg);replace ab:=aK (Kd.R_over' (v:=(.slice (some ⟨go58,0,none⟩) am.length aZ)) (by (with_reducible repeat (first|apply Kd.R_alloc|apply Kd.R_drewN|apply Kd.R_drew));exact ab.out) (Kd.R_typed ap.out) (by decide) hg);replace ac:=aK (Kd.R_over' (v:=(.slice (some ⟨go58,0,none⟩) am.length aZ)) (by (with_reducible repeat (first|apply Kd.R_alloc|apply Kd.R_drewN|apply Kd.R_drew));exact ac.out) (Kd.R_typed ap.out) (by decide) hg);replace ae:=aK (blk_grown (bQ ae) hg (Kd.R_ne ap.out ae.out (by decide)));replace ap:=aK (hp_);replace HB:=aK ((by rw [hw];exact below_set (HB.out) GB58.out:Below w.heap.size w w67));clear hg hw hp_)|((with_reducible refine gate_callee (f:=25) rfl ?_);refine goesL_ (some 58) rfl rfl Try.func25 (by kernel_rfl) rfl #[.slice (some ⟨go58,0,none⟩) bJ.length aZ] rfl (by (try simp only [List.map_toArray,List.map_cons,List.map_nil]);first|done|(rw [show bJ.length=am.length from (Kd.R_reads' ap.out).1.symm] <;> rfl)|rfl|(simp only [List.length_drop,List.length_take];rfl)) ?_;(with_reducible refine (engrosslaw11_tells.calls aD _ _ bJ true _ ?side1 ?side2 A59.out).mono ?_);(case side1=>exact sC (Kd.R_reads' ap.out).2.2);(case side2=>rw [show bJ.length=am.length from (Kd.R_reads' ap.out).1.symm];exact (Kd.R_reads' ap.out).2.1);rintro e w68 ⟨rfl,hb⟩;refine⟨_,rfl,?_⟩;replace ay:=rB ay hb;replace aa:=rB aa hb;replace ab:=rB ab hb;replace ac:=rB ac hb;replace ap:=rB ap hb;replace ae:=bB ae hb;replace HB:=bW HB hb;(try clear hb);(try clear hb2);(try clear hk);(try clear hi);have q69:(255:Int)≤((af.length:Int):Int):=dA;obtain⟨i069,hi069,_,hsz69,_⟩:=info_parts info5;have hroom69:af.length≤bM:=(Kd.R_reads' ay.out).2.1;have hC69:Kd.C (Kd.int .u8) _ bO af.length af:=(Kd.R_reads' ay.out).2.2;have hcut69:=cut_to (P:=Try.prog) 30 5 .i64 Try.underlying30 hi069 bO af.length bM 255 (by omega) q69 hroom69;have ct:=Kd.C_take (m:=255) hC69 (by omega);have hy69:cg.length=(255:Int).toNat:=(by rw [Ny589.out,List.length_take];omega);rw [← Ny589.out] at ct;rw [← hy69] at hcut69;have bi:=aK ct;have dI:=aK (show cg.length≤bM from by omega);clear ct hC69 hroom69 hi069 hsz69;have KY69:=aK hy69;clear hy69;have KL69:=aK (show 255≤af.length from by omega);replace q69:=eq_true q69)|(go_at_call 25;(with_reducible refine (engrosslaw11_tells.calls aD _ _ cg az _ ?side1 ?side2 A62.out).mono ?_);(case side1=>repeat (first|exact (by repeat (first|(with_reducible exact bi.out)|(with_reducible refine Kd.C_alloc ?_ _)|(with_reducible refine Kd.C_drewN ?_ _)|(with_reducible refine Kd.C_drew ?_)|exact bi.out))|(with_reducible refine Kd.C_alloc ?_ _)|(with_reducible refine Kd.C_drewN ?_ _)|(with_reducible refine Kd.C_drew ?_)));(case side2=>exact dI.out);rintro e w70 ⟨rfl,hb⟩;replace ay:=rB ay hb;replace aa:=rB aa hb;replace ab:=rB ab hb;replace ac:=rB ac hb;replace ap:=rB ap hb;replace ae:=bB ae hb;replace bi:=aK (Kd.C_below (by repeat (first|(with_reducible exact bi.out)|(with_reducible refine Kd.C_alloc ?_ _)|(with_reducible refine Kd.C_drewN ?_ _)|(with_reducible refine Kd.C_drew ?_)|exact bi.out)) hb);replace HB:=bW HB hb;(try clear hb);(try clear hb2);(try clear hk);(try clear hi)))
       go_ret
       exact⟨by first|rfl|(simp [errW_none,errW_some] <;> rfl)|(simp only [← hji55];first|rfl|(simp [errW_none,errW_some] <;> rfl))|(simp [*,errW_none,errW_some] <;> rfl),by repeat (first|(with_reducible first|exact HB.out|apply below_alloc|apply pw_below_drewN|apply below_drew1|refine below_set ?_ dF.out)|exact HB.out)⟩
/-- THE ONE PURE STATEMENT of engrosslaw11_NodeAny. -/
def engrosslaw11_NodeAny.Pure:Prop:=∀ (l0:List Int) (x1:S26) (a2:Int) (a3:Int),(l0.length≤9223372036854775807∧∀ y∈l0,(Lit.int .u8 y).wf=true)→wf26 x1→(Lit.int .i64 a2).wf=true→(Lit.int .u8 a3).wf=true→∃ k,engrosslaw11_NodeAny.f k l0 x1.f0 x1.f1 x1.f2 x1.f3 a2 a3=some true
end Go.Proofs.Ytmmjpieafbjggaa.P
end
section
set_option linter.unusedVariables false
set_option linter.unusedSimpArgs false
namespace Go.Proofs.Ytmmjpieafbjggaa.Pure
open Go.RowKit Go.Proofs.Ytmmjpieafbjggaa.P Go.Proofs.YtmmjpieafbjggaaW.PrintWords Go.Proofs.YtmmjpieafbjggaaW.PrintLast Go.Proofs.YtmmjpieafbjggaaW.PrintMore
theorem begun11 {k:Nat} (hk:100≤k):engrosslaw11_begun.f k=some true :=
  at_rounds (g:=fun k=>engrosslaw11_begun.f k) (fun k=>engrosslaw11_begun.mono k) hk (show engrosslaw11_begun.f 100=some true by decide +kernel)
end Go.Proofs.Ytmmjpieafbjggaa.Pure
end
