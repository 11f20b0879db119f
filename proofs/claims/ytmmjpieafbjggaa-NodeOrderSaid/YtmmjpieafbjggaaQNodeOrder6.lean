/- The law NodeOrder returns true for every input: the words, the walks and the plain statement that its row needs. No condition. (Merged by a program of this session out of its own texts.) -/
import Derived.ArgAppend
import Derived.Below
import Derived.BigQuiet
import Derived.Deep.AppendLies
import Derived.Deep.CutBlock
import Derived.Deep.DeepCutAuto
import Derived.Deep.Draws
import Derived.Deep.LoopGhost
import Derived.Deep.OwnRows
import Derived.Deep.QuietTactic
import Derived.Deep.RegionHeld3
import Derived.KernelRfl
import Derived.Laws.BitsLemmas
import Derived.Laws.BytesArg
import Derived.Laws.Cover2
import Derived.Laws.Externs
import Derived.Laws.FloatArith
import Derived.Laws.IdiomCopy
import Derived.Laws.MakeOwn
import Derived.Laws.OwnMore
import Derived.Laws.Rows
import Derived.Laws.Slices
import Derived.Laws.StructEq
import Derived.Lib.AppendStr
import Derived.Lib.ConvBytes
import Derived.Maps.AppendAt
import Derived.OrdersHeld
import Derived.OwnWalk
import Derived.RowKit
import Derived.RowKit3
import Derived.Tactics
import Derived.Test.YtmmjpieafbjggaaProg
import Derived.WalkKit
import Derived.WideLaws
import Derived.Test.YtmmjpieafbjggaaQNodeOrder4
import Derived.Test.YtmmjpieafbjggaaQNodeOrder5
section
set_option linter.unusedVariables false
set_option linter.unusedSimpArgs false
namespace Go.Proofs.Ytmmjpieafbjggaa.P
open Go.RowKit Go.Proofs.YtmmjpieafbjggaaW.PrintWords Go.Proofs.YtmmjpieafbjggaaW.PrintLast Go.Proofs.YtmmjpieafbjggaaW.PrintMore
attribute [local go_sem] max2_int min2_int max_two min_two max_three min_three max_four min_four
attribute [local go_sem] x_str_gtr x_str_leq x_str_geq ext_bits ext_frombits ext_neg x_store_float Instr.field asAgg
/-- The cells of a leaf. -/
def node_Decode.l0:Nat→List Int→Bool→Int→Bool→List S62→Option (List Int × Bool × List S62)
 | 0,_,_,_,_,_=>none
 | k+1,l,bad,kk,leaf,cs=>if kk>0 then (if bad=true then some (l,bad,cs) else (if leaf=true then ((cell_Get.f k l).bind fun t=>((tookF l bad t.2.2.2.2.2.2.2.2.1 t.2.2.2.2.2.2.2.2.2).bind fun s=>(if cs.length<1599289640401 then (node_Decode.l0 k s.1 s.2 (wrap64 (kk - 1)) leaf (cs++[(⟨t.1,(⟨t.2.1,t.2.2.1,t.2.2.2.1⟩:S54),t.2.2.2.2.1,(⟨t.2.2.2.2.2.1,t.2.2.2.2.2.2.1,t.2.2.2.2.2.2.2.1⟩:S54)⟩:S62)])) else none))) else some (l,bad,cs))) else some (l,bad,cs)
/-- The kids of an inner node. -/
def node_Decode.l1:Nat→List Int→Bool→Int→Int→List Int→Option (List Int × Bool × List Int)
 | 0,_,_,_,_,_=>none
 | k+1,l,bad,i,kk,ks=>if i<kk then (if bad=true then some (l,bad,ks) else ((numF k l bad).bind fun t=>(if ks.length<17592186044416 then (node_Decode.l1 k t.2.1 t.2.2 (wrap64 (i+1)) kk (ks++[t.1])) else none))) else some (l,bad,ks)
/-- The keys of an inner node. -/
def node_Decode.l2:Nat→List Int→Bool→Int→Int→List ByteArray→Option (List Int × Bool × List ByteArray)
 | 0,_,_,_,_,_=>none
 | k+1,l,bad,i,kk,ks=>if i<kk then (if bad=true then some (l,bad,ks) else ((num_GetText.f k l).bind fun t=>((tookF l bad t.2.1 t.2.2).bind fun s=>(if ks.length<8796093022208 then (node_Decode.l2 k s.1 s.2 (wrap64 (i+1)) kk (ks++[t.1])) else none)))) else some (l,bad,ks)
/-- What was read is told only if it goes to the same bytes. -/
def node_Decode.fin (k:Nat) (b:List Int) (bad:Bool) (leaf:Bool) (cs:List S62) (keys:List ByteArray) (kids:List Int):Option (Bool × List S62 × List ByteArray × List Int × Int) :=
  (node_Encode.f k leaf cs keys kids).bind fun c=>if bad=true then some (false,[],[],[],8) else (if c.2=0 then ((bytes_Equal.f c.1 b).bind fun q=>(if q=true then some (leaf,cs,keys,kids,0) else some (false,[],[],[],8))) else some (false,[],[],[],8))
def node_Decode.f (k:Nat) (b:List Int):Option (Bool × List S62 × List ByteArray × List Int × Int) :=
  if (b.length:Int)=256 then ((numF k (b.drop 1) false).bind fun t=>((node_Decode.l0 k t.2.1 t.2.2 t.1 (rd b 0 == 1) []).bind fun s=>(if (rd b 0 == 1)=true then (node_Decode.fin k b s.2.1 true s.2.2 [] []) else ((numF k (b.drop 1) false).bind fun u=>((node_Decode.l1 k u.2.1 u.2.2 0 u.1 []).bind fun v=>((node_Decode.l2 k v.1 v.2.1 1 u.1 []).bind fun x=>(node_Decode.fin k b x.2.1 false s.2.2 x.2.2 v.2.2))))))) else some (false,[],[],[],8)
theorem node_Decode.mono_l0:∀ k l bad kk leaf cs,LeO (node_Decode.l0 k l bad kk leaf cs) (node_Decode.l0 (k+1) l bad kk leaf cs)
 | 0=>fun _ _ _ _ _ r h=>by simp [node_Decode.l0] at h
 | k+1=>fun l bad kk leaf cs=>by
  have ih:=node_Decode.mono_l0 k
  unfold node_Decode.l0
  refine LeO.ite (LeO.ite (LeO.refl _) (LeO.ite (LeO.bind (cell_Get.mono _ _) (fun _=>LeO.bind (LeO.refl _) (fun _=>LeO.ite (ih _ _ _ _ _) (LeO.none _)))) (LeO.refl _))) (LeO.refl _)
theorem node_Decode.mono_l1:∀ k l bad i kk ks,LeO (node_Decode.l1 k l bad i kk ks) (node_Decode.l1 (k+1) l bad i kk ks)
 | 0=>fun _ _ _ _ _ r h=>by simp [node_Decode.l1] at h
 | k+1=>fun l bad i kk ks=>by
  have ih:=node_Decode.mono_l1 k
  unfold node_Decode.l1
  refine LeO.ite (LeO.ite (LeO.refl _) (LeO.bind (numF_mono _ _ _) (fun _=>LeO.ite (ih _ _ _ _ _) (LeO.none _)))) (LeO.refl _)
theorem node_Decode.mono_l2:∀ k l bad i kk ks,LeO (node_Decode.l2 k l bad i kk ks) (node_Decode.l2 (k+1) l bad i kk ks)
 | 0=>fun _ _ _ _ _ r h=>by simp [node_Decode.l2] at h
 | k+1=>fun l bad i kk ks=>by
  have ih:=node_Decode.mono_l2 k
  unfold node_Decode.l2
  refine LeO.ite (LeO.ite (LeO.refl _) (LeO.bind (num_GetText.mono _ _) (fun _=>LeO.bind (LeO.refl _) (fun _=>LeO.ite (ih _ _ _ _ _) (LeO.none _))))) (LeO.refl _)
theorem node_Decode.mono_fin (b bad leaf cs keys kids k):LeO (node_Decode.fin k b bad leaf cs keys kids) (node_Decode.fin (k+1) b bad leaf cs keys kids):=by
  unfold node_Decode.fin
  exact LeO.bind (node_Encode.mono _ _ _ _ _) (fun _=>LeO.refl _)
theorem node_Decode.mono (b:List Int) (k:Nat):LeO (node_Decode.f k b) (node_Decode.f (k+1) b):=by
  unfold node_Decode.f
  exact LeO.ite (LeO.bind (numF_mono _ _ _) (fun _=>LeO.bind (node_Decode.mono_l0 _ _ _ _ _ _) (fun _=>LeO.ite (node_Decode.mono_fin _ _ _ _ _ _ _) (LeO.bind (numF_mono _ _ _) (fun _=>LeO.bind (node_Decode.mono_l1 _ _ _ _ _ _) (fun _=>LeO.bind (node_Decode.mono_l2 _ _ _ _ _ _) (fun _=>node_Decode.mono_fin _ _ _ _ _ _ _))))))) (LeO.refl _)
theorem R_elderB2 {α:Type} {d:Kd α} {e base:Nat} {w:World} {ok:Nat→Prop} {v:Value} {xs:List α} (h:d.R e w base ok v xs) (a:Nat) (ha:w.heap.size≤a):d.R e w base (fun k=>ok k∧k≠a) v xs:=Kd.R_mono (Kd.R_bound h) (fun k hk=>⟨hk.1,by have:=hk.2.2.1;omega⟩)
theorem R_apartT {α β:Type} {d:Kd α} {d':Kd β} {e e' base base':Nat} {W:World} {ok ok':Nat→Prop} {u v:Value} {xs:List α} {ys:List β} (h:d.R e W base ok u xs) (hv:d'.R e' W base' ok' v ys) (ht:∀ q,q∈e :: d.E→e'≠q):d.R e W base (fun k=>ok k∧some k≠v.ownBlock) u xs:=Kd.R_mono (Kd.R_bound h) (fun k hk=>⟨hk.1,by obtain⟨_,_,_,q,hq,cells,hc⟩:=hk;exact Kd.R_ne hv hc (ht q hq)⟩)
def node_Decode.T17:Bool × List (List Nat × List Nat):=(true,[([],[]),([0],[0]),([],[]),([2],[2]),([3],[3]),([1,4,3],[1,4]),([0,1,2,3,4,5],[]),([6,5,5,0,1,2,3,4,5],[5,6])])
def node_Decode.B17:List Nat:=[0,1,0,4,12,31,63,127]
theorem node_Decode.tab17:rtab .any (opsOf Try.f21 17)=node_Decode.T17:=by kernel_rfl
theorem node_Decode.bits17:waitsOk node_Decode.T17.2 node_Decode.B17=true:=by kernel_rfl
/-- A new box for the reader. -/
theorem Rdr.mk' {w0 w:World} {g:Nat} {A:Option Addr} {c:Nat} {l:List Int} {bad:Bool} (h:w.heap[g]? = some (.cells #[.slice A l.length c,.bool bad] 75 (0,0))) (hr:Kd.C (Kd.int .u8) w0 A l.length l) (hc:l.length≤c):Rdr w0 w g l bad:=⟨A,c,h,hr,hc⟩
theorem Rdr.out_ {w0 w:World} {g:Nat} {A:Option Addr} {c:Nat} {l:List Int} {bad:Bool} (h:w.heap[g]? = some (.cells #[.slice A l.length c,.bool bad] 75 (0,0))) (hr:Kd.C (Kd.int .u8) w0 A l.length l) (hc:l.length≤c):Aside0 (Rdr w0 w g l bad):=⟨⟨A,c,h,hr,hc⟩⟩
theorem Rdr.kept {w0 w w1:World} {g:Nat} {l:List Int} {bad:Bool} {S:Nat→Prop} (h:Rdr w0 w g l bad) (k:Kept w w1 S) (hs:¬ S g):Rdr w0 w1 g l bad:=by
  obtain⟨A,c,h1,h2,h3⟩:=h
  exact⟨A,c,blk_kept h1 k hs,h2,h3⟩
theorem Rdr.below {w0 w w1:World} {g:Nat} {l:List Int} {bad:Bool} (h:Rdr w0 w g l bad) (k:Below w.heap.size w w1):Rdr w0 w1 g l bad:=by
  obtain⟨A,c,h1,h2,h3⟩:=h
  exact⟨A,c,blk_below h1 k,h2,h3⟩
set_option maxHeartbeats 8000000 in
set_option maxRecDepth 100000 in
theorem node_Decode.calls (k:Nat) (A0:Option Addr) (c0:Nat) (l0:List Int) (r1:Bool) (r2:List S62) (r3:List ByteArray) (r4:List Int) (r5:Int) (w:World) (hr0:Kd.C (Kd.int .u8) w A0 l0.length l0) (hc0:l0.length≤c0) (h:node_Decode.f k l0=some (r1,r2,r3,r4,r5)) :
  Calls Try.prog 21 #[.slice A0 l0.length c0] w fun e w'=>∃ v1_ v2_ v3_:Value,e = .returned (.tuple #[.agg #[.bool r1,v1_,v2_,v3_],.int .i64 r5])∧Kd.R k62 62 w' w.heap.size (fun _=>True) v1_ r2∧Kd.R Kd.string 9 w' w.heap.size (fun _=>True) v2_ r3∧Kd.R (Kd.int .i64) 3 w' w.heap.size (fun _=>True) v3_ r4∧Below w.heap.size w w':=by
  have hu36:=Try.underlying36
  have hu62:=Try.underlying62
  have HR0:=Aside0.mk hr0
  have HC0:=Aside0.mk hc0
  clear hr0 hc0
  have HB:=Aside0.mk (Below.refl w.heap.size w)
  unfold node_Decode.f at h
  by_cases c1:(l0.length:Int)=256
  rotate_left
  · rw [if_neg c1] at h
    have c1b:((l0.length:Int) != 256)=true:=bne_iff_ne.mpr c1
    have ap:(l0.length != 256)=true:=bne_iff_ne.mpr (by omega)
    clear c1
    obtain⟨rfl,rfl,rfl,rfl,rfl⟩:false=r1∧[]=r2∧[]=r3∧[]=r4∧8=r5:=by
      have:=Option.some.inj h
      simpa using this
    clear h
    go_enter Try.func21,Try.ntmps21
    go_wp2_with (first|((with_reducible refine gate_dst (N:=2) rfl ?_);refine box_event ?hg (N:=2) ?hd (cs:=#[.bool false,.slice none 0 0,.slice none 0 0,.slice none 0 0]) (t:=36) ?hr ?_;(case hd=>rfl);(case hg=>rfl);(case hr=>first|(go_simp;done)|(go_simp;rfl));intro gb2 hg w2 hbox hb;have BK2:=Aside0.mk (hbox);have GW2:=bZ HB hg;replace HB:=bW HB hb;clear hb hbox hg;obtain⟨hcz_0,hcz_1,hcz_2,hcz_3,hfz_0,hfz_1,hfz_2,hfz_3⟩:=bf4 (w:=w2) BK2))
    refine bodyPost_ret (results_ct rfl _ _ gb2 36 #[.bool false,.slice none 0 0,.slice none 0 0,.slice none 0 0] (0,0) _ rfl (bR BK2) Try.underlying36 rfl (by kernel_rfl)) rfl ?_
    exact⟨_,_,_,rfl,Kd.R_nil _ _ _ _ _,Kd.R_nil _ _ _ _ _,Kd.R_nil _ _ _ _ _,bC HB⟩
  rw [if_pos c1] at h
  have c1b:((l0.length:Int) != 256)=false:=bne_eq_false_iff_eq.mpr c1
  have ap:(l0.length != 256)=false:=bne_eq_false_iff_eq.mpr (by omega)
  obtain⟨⟨x1,l1,b1⟩,hA1,h⟩:=Option.bind_eq_some_iff.1 h
  obtain⟨⟨l2,b2,cs⟩,hA2,h⟩:=Option.bind_eq_some_iff.1 h
  obtain⟨y,hy⟩:∃ y:List Int,y=l0.drop 1:=⟨_,rfl⟩
  obtain⟨leaf,hleaf⟩:∃ leaf:Bool,leaf=(rd l0 0 == 1):=⟨_,rfl⟩
  rw [← hy] at hA1 h
  rw [← hleaf] at hA2 h
  have hl0:(rd l0 0 == 1)=leaf:=hleaf.symm
  clear hleaf
  have A1:=Aside0.mk hA1
  have A2:=Aside0.mk hA2
  have H:=Aside0.mk h
  clear hA1 hA2 h
  obtain⟨ad,e0,hx0⟩:=Kd.at_int HR0.out 0 (by decide) (by omega)
  cases e0
  replace hx0:w.cell? ad=some (.int .u8 (rd l0 0)):=hx0
  have hcy:∃ (A1:Option Addr) (c1:Nat),(∀ W:World,(Instr.slice 30 (Value.slice (some ad) l0.length c0) (some (Value.int .i64 1)) none none).run Try.prog W = .ok (.slice A1 y.length c1) W)∧Kd.C (Kd.int .u8) w A1 y.length y∧y.length≤c1:=by
    obtain⟨i0,hi0,_,hsz,_⟩:=info_parts (P:=Try.prog) info5
    have hcut:=cut_from (P:=Try.prog) 30 5 .i64 Try.underlying30 hi0 1 hsz (some ad) l0.length c0 1 (by decide) (by omega)
    have hr1:=Kd.C_drop (m:=(1:Int).toNat) (c:=c0) HR0.out (by omega) HC0.out
    have hl:y.length=l0.length - (1:Int).toNat:=by rw [hy];exact List.length_drop
    have he:l0.drop (1:Int).toNat=y:=hy.symm
    rw [he] at hr1
    refine⟨_,c0 - (1:Int).toNat,fun W=>?_,hr1,?_⟩
    · rw [hl];exact hcut W
    · have:=HC0.out
      omega
  obtain⟨Ay,cy,hcut,hry,hcy⟩:=hcy
  have HRY:=Aside0.mk hry
  have HCY:=Aside0.mk hcy
  clear hry hcy hy
  go_enter Try.func21,Try.ntmps21
  go_upto_block 0 with (first|((with_reducible refine gate_dst (N:=2) rfl ?_);refine box_event ?hg (N:=2) ?hd (cs:=#[.bool false,.slice none 0 0,.slice none 0 0,.slice none 0 0]) (t:=36) ?hr ?_;(case hd=>rfl);(case hg=>rfl);(case hr=>first|(go_simp;done)|(go_simp;rfl));intro gb2 hg w2 hbox hb;have BK2:=Aside0.mk (hbox);have GW2:=bZ HB hg;replace HB:=bW HB hb;clear hb hbox hg)|((with_reducible refine gate_dst (N:=25) rfl ?_);refine box_event ?hg (N:=25) ?hd (cs:=#[.slice Ay y.length cy,.bool false]) (t:=75) ?hr ?_;(case hd=>rfl);(case hg=>rfl);(case hr=>first|(go_simp;done)|(go_simp;rfl));intro ae hg w25 hbox hb;have ab:=Aside0.mk (hbox);have am:=bZ HB hg;have ah:=bL BK2 hg;have aq:=bG BK2 hg;replace BK2:=bB BK2 hb;replace HB:=bW HB hb;clear hb hbox hg;have hx1:=(HB.out.cell (World.block_lt_of_cell? w _ hx0)).trans hx0)|((with_reducible refine gate_dst (N:=5) rfl ?_);refine box_event ?hg (N:=5) ?hd (cs:=#[.bool false,.slice none 0 0,.slice none 0 0,.slice none 0 0]) (t:=36) ?hr ?_;(case hd=>rfl);(case hg=>rfl);(case hr=>first|(go_simp;done)|(go_simp;rfl));intro gb5 hg w5 hbox hb;have BK5:=Aside0.mk (hbox);have GW5:=bZ HB hg;have ax:=bL BK2 hg;have ay:=bG BK2 hg;have ar:=bL ab hg;have ai:=bG ab hg;replace BK2:=bB BK2 hb;replace ab:=bB ab hb;replace HB:=bW HB hb;clear hb hbox hg;have hx2:=(HB.out.cell (World.block_lt_of_cell? w _ hx0)).trans hx0;obtain⟨hcz_0,hcz_1,hcz_2,hcz_3,hfz_0,hfz_1,hfz_2,hfz_3⟩:=bf4 (w:=w5) BK5)|((with_reducible refine gate_callee (f:=38) rfl ?_);refine goesL_ (some 32) rfl rfl Try.func38 (by kernel_rfl) rfl #[.pointer (some ⟨ae,0,none⟩)] rfl (by (try simp only [List.map_toArray,List.map_cons,List.map_nil]);first|done|rfl|(simp only [List.length_drop,List.length_take];rfl)) ?_;(with_reducible refine (num_calls (w0:=w) k ae y false ?t1 am.out ?t3 x1 l1 b1 A1.out).mono ?_);(case t1=>exact bC HB);(case t3=>exact Rdr.mk' (bQ ab) HRY.out HCY.out);rintro e w6 ⟨rfl,hr6,hk6,hb6⟩;refine⟨_,rfl,?_⟩;have RD:=Aside0.mk hr6;replace HB:=Aside0.mk hb6;replace BK2:=Aside0.mk (blk_kept (bQ BK2) hk6 ah.out);replace BK5:=Aside0.mk (blk_kept (o:=.cells #[.bool leaf,.slice none 0 0,.slice none 0 0,.slice none 0 0] 36 (0,0)) (bR BK5) hk6 ai.out);clear hr6 hk6 hb6 ab))
  go_cut [6] (fun v6 wc=>∃ vc:Value,Aside0 (Rdr w wc ae l2 b2)∧Aside0 (wc.heap[gb2]? = some (.cells #[.bool false,.slice none 0 0,.slice none 0 0,.slice none 0 0] 36 (0,0)))∧Aside0 (wc.heap[gb5]? = some (.cells #[.bool leaf,vc,.slice none 0 0,.slice none 0 0] 36 (0,0)))∧Aside0 (Kd.R k62 62 wc w.heap.size (fun _=>True) vc cs)∧Aside0 (Below w.heap.size w wc))
  case first =>
    go_wp2_with fail
    go_loopg [6] k (fun kq v6 w'=>∃ (kk:Int) (l:List Int) (bad:Bool) (xs:List S62) (vc:Value),v6 = .int .i64 kk∧Aside0 (node_Decode.l0 kq l bad kk leaf xs=some (l2,b2,cs))∧Aside0 (kq≤k)∧Aside0 (Rdr w w' ae l bad)∧Aside0 (w'.heap[gb2]? = some (.cells #[.bool false,.slice none 0 0,.slice none 0 0,.slice none 0 0] 36 (0,0)))∧Aside0 (w'.heap[gb5]? = some (.cells #[.bool leaf,vc,.slice none 0 0,.slice none 0 0] 36 (0,0)))∧Aside0 (Kd.R k62 62 w' w.heap.size (fun _=>True) vc xs)∧Aside0 (Below w.heap.size w w'))
    case atStart=>exact⟨x1,l1,b1,[],.slice none 0 0,rfl,A2,⟨Nat.le_refl _⟩,RD,BK2,BK5,⟨Kd.R_nil _ _ _ _ _⟩,HB⟩
    case round =>
      obtain⟨kk,l,bad,xs,vc,rfl,HA,HK,RD,BK2,BK5,HO,HB⟩:=hrel
      cases gk with
      | zero=>exact absurd HA.out (by simp [node_Decode.l0])
      | succ k1 =>
        have HF:=HA.out
        clear HA
        simp only [node_Decode.l0] at HF
        obtain⟨Ar,cr,hbr,hrr,hcr⟩:=RD.out
        have ab:=Aside0.mk hbr
        have HRr:=Aside0.mk hrr
        have HCr:=Aside0.mk hcr
        clear hbr hrr hcr RD
        obtain⟨hr_0,hr_1,hrf_0,hrf_1⟩:=bf2 (w:=wr) ab
        obtain⟨hn_0,hn_1,hn_2,hn_3,hnf_0,hnf_1,hnf_2,hnf_3⟩:=bf4 (w:=wr) BK5
        by_cases c2:kk>0
        · rw [if_pos c2] at HF
          have c2b:decide (0<kk)=true:=decide_eq_true c2
          clear c2
          cases bad
          · rw [if_neg (by decide)] at HF
            cases leaf
            · rw [if_neg (by decide)] at HF
              obtain⟨rfl,rfl,rfl⟩:l=l2∧false=b2∧xs=cs:=by
                have:=Option.some.inj HF
                simp only [Prod.mk.injEq] at this
                exact this
              go_wp2_with fail
              go_meet
              exact⟨vc,Rdr.out_ ab.out HRr.out HCr.out,BK2,BK5,HO,HB⟩
            · rw [if_pos rfl] at HF
              obtain⟨⟨t1,t2,t3,t4,t5,t6,t7,t8,t9,t10⟩,hC,HF⟩:=Option.bind_eq_some_iff.1 HF
              obtain⟨⟨l3,b3⟩,hT,HF⟩:=Option.bind_eq_some_iff.1 HF
              by_cases c3:xs.length<1599289640401
              · rw [if_pos c3] at HF
                have AC:=Aside0.mk hC
                have AT:=Aside0.mk hT
                obtain⟨zs,hzs⟩:∃ zs:List S62,zs=xs++[(⟨t1,(⟨t2,t3,t4⟩:S54),t5,(⟨t6,t7,t8⟩:S54)⟩:S62)]:=⟨_,rfl⟩
                have Nz:=Aside0.mk hzs
                have HF':Aside0 (node_Decode.l0 k1 l3 b3 (wrap64 (kk - 1)) true zs=some (l2,b2,cs)):=⟨by rw [hzs];exact HF⟩
                have LM:=Aside0.mk c3
                clear hC hT HF c3 hzs
                go_wp2_with (first|((with_reducible refine gate_callee (f:=39) rfl ?_);refine goesL_ (some 53) rfl rfl Try.func39 (by kernel_rfl) rfl #[.slice Ar l.length cr] rfl (by (try simp only [List.map_toArray,List.map_cons,List.map_nil]);first|done|rfl|(simp only [List.length_drop,List.length_take];rfl)) ?_;(with_reducible refine (cell_Get.calls k1 _ _ l t1 t2 t3 t4 t5 t6 t7 t8 t9 t10 _ ?s1 ?s2 AC.out).mono ?_);(case s1=>exact Kd.C_below HRr.out (bC HB));(case s2=>exact HCr.out);rintro e w11 ⟨rfl,hb⟩;refine⟨_,rfl,?_⟩;replace BK2:=bB BK2 hb;replace ab:=bB ab hb;replace BK5:=bB BK5 hb;replace HO:=Aside0.mk (Kd.R_below (by (with_reducible repeat (first|apply Kd.R_alloc|apply Kd.R_drewN|apply Kd.R_drew));exact HO.out) hb);replace HB:=bW HB hb;clear hb)|((with_reducible refine gate_dst (N:=7) rfl ?_);refine box_event ?hg (N:=7) ?hd (cs:=#[.string (⟨#[]⟩:ByteArray),.int .i64 0,.float .f64 0,.string (⟨#[]⟩:ByteArray),.int .i64 0,.int .i64 0,.float .f64 0,.string (⟨#[]⟩:ByteArray)]) (t:=62) ?hr ?_;(case hd=>rfl);(case hg=>rfl);(case hr=>first|(go_simp;done)|(go_simp;rfl));intro gb7 hg w12 hbox hb;have BK7:=Aside0.mk (hbox);have GW7:=bZ HB hg;have az:=bL BK2 hg;have aA:=bG BK2 hg;have au:=bL ab hg;have ao:=bG ab hg;have aC:=bL BK5 hg;have aD:=bG BK5 hg;replace BK2:=bB BK2 hb;replace ab:=bB ab hb;replace BK5:=bB BK5 hb;replace HO:=Aside0.mk (Kd.R_below (R_elderB2 (by (with_reducible repeat (first|apply Kd.R_alloc|apply Kd.R_drewN|apply Kd.R_drew));exact HO.out) gb7 (Nat.le_of_eq hg.symm)) hb);replace HB:=bW HB hb;clear hb hbox hg;obtain⟨hz_0,hz_1,hz_2,hz_3,hz_4,hz_5,hz_6,hz_7,hzf_0,hzf_1,hzf_2,hzf_3,hzf_4,hzf_5,hzf_6,hzf_7⟩:=bf8 (w:=w12) BK7)|((with_reducible refine gate_callee (f:=40) rfl ?_);refine goesL_ (some 60) rfl rfl Try.func40 (by kernel_rfl) rfl #[.pointer (some ⟨ae,0,none⟩),.int .i64 t9,.int .i64 t10] rfl (by (try simp only [List.map_toArray,List.map_cons,List.map_nil]);first|done|rfl|(simp only [List.length_drop,List.length_take];rfl)) ?_;(with_reducible refine (took_calls (w0:=w) ae l false t9 t10 ?t1 am.out ?t3 (l3,b3) AT.out).mono ?_);(case t1=>exact bC HB);(case t3=>exact Rdr.mk' (bQ ab) HRr.out HCr.out);rintro e w13 ⟨rfl,hr6,hk6,hb6⟩;refine⟨_,rfl,?_⟩;replace HO:=Aside0.mk (Kd.R_mono (ok':=fun _=>True) (Kd.R_kept (Kd.R_far (p:=⟨gb7,7,none⟩) (Kd.R_far (p:=⟨gb7,6,none⟩) (Kd.R_far (p:=⟨gb7,5,none⟩) (Kd.R_far (p:=⟨gb7,4,none⟩) (Kd.R_far (p:=⟨gb7,3,none⟩) (Kd.R_far (p:=⟨gb7,2,none⟩) (Kd.R_far (p:=⟨gb7,1,none⟩) (Kd.R_far (p:=⟨gb7,0,none⟩) (Kd.R_types HO.out ab.out (by decide)) (fun _ hk=>hk.1.2) (.string t1)) (fun _ hk=>hk.1.2) (.int .i64 t2)) (fun _ hk=>hk.1.2) (.float .f64 t3)) (fun _ hk=>hk.1.2) (.string t4)) (fun _ hk=>hk.1.2) (.int .i64 t5)) (fun _ hk=>hk.1.2) (.int .i64 t6)) (fun _ hk=>hk.1.2) (.float .f64 t7)) (fun _ hk=>hk.1.2) (.string t8)) hk6 (fun _ hk=>hk.2)) (fun _ _=>trivial));replace HB:=Aside0.mk hb6;replace BK2:=Aside0.mk (blk_kept (bQ BK2) hk6 ah.out);replace BK5:=Aside0.mk (blk_kept (bQ BK5) hk6 ai.out);replace BK7:=Aside0.mk (blk_kept (o:=.cells #[.string t1,.int .i64 t2,.float .f64 t3,.string t4,.int .i64 t5,.int .i64 t6,.float .f64 t7,.string t8] 62 (0,0)) (bR BK7) hk6 ao.out);clear ab HRr HCr hb6 hk6;obtain⟨Ar2,cr2,hbr2,hrr2,hcr2⟩:=hr6;have ab:=Aside0.mk hbr2;have HRr:=Aside0.mk hrr2;have HCr:=Aside0.mk hcr2;clear hbr2 hrr2 hcr2;obtain⟨hy_0,hy_1,hy_2,hy_3,hyf_0,hyf_1,hyf_2,hyf_3⟩:=bf4 (w:=w13) BK5;obtain⟨hu_0,hu_1,hu_2,hu_3,hu_4,hu_5,hu_6,hu_7,huf_0,huf_1,huf_2,huf_3,huf_4,huf_5,huf_6,huf_7⟩:=bf8 (w:=w13) BK7)|((with_reducible refine gate_builtin (b:=.append) (xs:=#[.tmp 62,.tmp 64]) rfl ?_);at_builtin;refine Kd.R_append k62 (w0:=w) w.heap.size rfl (.tmp 62) (.tmp 64) 34 62 (.agg #[.string (⟨#[]⟩:ByteArray),.int .i64 0,.float .f64 0,.string (⟨#[]⟩:ByteArray),.int .i64 0,.int .i64 0,.float .f64 0,.string (⟨#[]⟩:ByteArray)]) 88 rfl Try.underlying34 info62 rfl (by decide) (by omega) vc xs (⟨t1,(⟨t2,t3,t4⟩:S54),t5,(⟨t6,t7,t8⟩:S54)⟩:S62) [.string t1,.int .i64 t2,.float .f64 t3,.string t4,.int .i64 t5,.int .i64 t6,.float .f64 t7,.string t8] (fun _=>True) (fun _=>False) rfl rfl ?aP (fun _ hk=>hk.elim) ?aF ?aO ?aB ?aS ?aL ?_;(case aP=>exact k62_mkM _ _ _ (⟨t1,(⟨t2,t3,t4⟩:S54),t5,(⟨t6,t7,t8⟩:S54)⟩:S62));(case aB=>exact (bC HB));(case aF=>exact (fun _ _=>trivial));(case aO=>exact (by (with_reducible repeat (first|apply Kd.R_alloc|apply Kd.R_drewN|apply Kd.R_drew));exact HO.out));(case aS=>exact (below_size (bC HB)));(case aL=>have:=LM.out;omega);intro v14 w14 ho hb hg hat;rw [← Nz.out] at ho;have HO2:=Aside0.mk ho;replace BK2:=Aside0.mk (blk_grown (bQ BK2) hg (Kd.R_ne HO.out BK2.out (by decide)));replace BK5:=Aside0.mk (blk_grown (bQ BK5) hg (Kd.R_ne HO.out BK5.out (by decide)));replace ab:=Aside0.mk (blk_grown (bQ ab) hg (Kd.R_ne HO.out ab.out (by decide)));replace HB:=Aside0.mk hb;clear HO;have HO:=HO2;clear HO2 ho hb hg hat;obtain⟨Ao,co,eo⟩:=Kd.R_slice HO.out;subst eo;obtain⟨hv_0,hv_1,hv_2,hv_3,hvf_0,hvf_1,hvf_2,hvf_3⟩:=bf4 (w:=w14) BK5))
                go_roundg k1
                case measure=>have:=HK.out;omega
                case rel =>
                  refine⟨wrap64 (kk - 1),l3,b3,zs,.slice Ao zs.length co,rfl,HF',⟨by have:=HK.out;omega⟩,?_,?_,?_,?_,?_⟩
                  · exact⟨Rdr.mk' (bQ ab) HRr.out HCr.out⟩
                  · exact⟨bQ BK2⟩
                  · exact⟨bR BK5⟩
                  · exact⟨Kd.R_mono (Kd.R_far (p:=⟨gb5,1,none⟩) (Kd.R_types HO.out BK5.out (by decide)) (fun _ hk=>hk.2) _) (fun _ _=>trivial)⟩
                  · exact⟨bC HB⟩
              · rw [if_neg c3] at HF;cases HF
          · rw [if_pos rfl] at HF
            obtain⟨rfl,rfl,rfl⟩:l=l2∧true=b2∧xs=cs:=by
              have:=Option.some.inj HF
              simp only [Prod.mk.injEq] at this
              exact this
            go_wp2_with fail
            go_meet
            exact⟨vc,Rdr.out_ ab.out HRr.out HCr.out,BK2,BK5,HO,HB⟩
        · rw [if_neg c2] at HF
          have c2b:decide (0<kk)=false:=decide_eq_false c2
          clear c2
          obtain⟨rfl,rfl,rfl⟩:l=l2∧bad=b2∧xs=cs:=by
            have:=Option.some.inj HF
            simp only [Prod.mk.injEq] at this
            exact this
          go_wp2_with fail
          go_meet
          exact⟨vc,Rdr.out_ ab.out HRr.out HCr.out,BK2,BK5,HO,HB⟩
  case rest =>
    obtain⟨vc,RD,BK2,BK5,HO,HB⟩:=hcut
    have HF:=H.out
    clear H
    obtain⟨Ar,cr,hbr,hrr,hcr⟩:=RD.out
    have ab:=Aside0.mk hbr
    clear hbr hrr hcr RD
    obtain⟨hr_0,hr_1,hrf_0,hrf_1⟩:=bf2 (w:=wc) ab
    obtain⟨hn_0,hn_1,hn_2,hn_3,hnf_0,hnf_1,hnf_2,hnf_3⟩:=bf4 (w:=wc) BK5
    cases leaf
    · rw [if_neg (by decide)] at HF
      obtain⟨⟨x2,l4,b4⟩,hU,HF⟩:=Option.bind_eq_some_iff.1 HF
      obtain⟨⟨l5,b5,kids⟩,hV,HF⟩:=Option.bind_eq_some_iff.1 HF
      obtain⟨⟨l6,b6,keys⟩,hW,HF⟩:=Option.bind_eq_some_iff.1 HF
      dsimp only at hU hV hW HF
      have AU:=Aside0.mk hU
      have AV:=Aside0.mk hV
      have AW:=Aside0.mk hW
      have HFi:=Aside0.mk HF
      clear hU hV hW HF
      go_upto_block 2 with (first|((with_reducible refine gate_dst (N:=73) rfl ?_);refine box_event ?hg (N:=73) ?hd (cs:=#[.slice Ay y.length cy,.bool false]) (t:=75) ?hr ?_;(case hd=>rfl);(case hg=>rfl);(case hr=>first|(go_simp;done)|(go_simp;rfl));intro ac hg w30 hbox hb;have aa:=Aside0.mk (hbox);have aj:=bZ HB hg;have af:=bL BK2 hg;have av:=bG BK2 hg;have ag:=bL BK5 hg;have aw:=bG BK5 hg;replace BK2:=bB BK2 hb;replace BK5:=bB BK5 hb;replace HO:=Aside0.mk (Kd.R_below (by (with_reducible repeat (first|apply Kd.R_alloc|apply Kd.R_drewN|apply Kd.R_drew));exact HO.out) hb);replace HB:=bW HB hb;clear hb hbox hg)|((with_reducible refine gate_callee (f:=38) rfl ?_);refine goesL_ (some 75) rfl rfl Try.func38 (by kernel_rfl) rfl #[.pointer (some ⟨ac,0,none⟩)] rfl (by (try simp only [List.map_toArray,List.map_cons,List.map_nil]);first|done|rfl|(simp only [List.length_drop,List.length_take];rfl)) ?_;(with_reducible refine (num_calls (w0:=w) k ac y false ?t1 aj.out ?t3 x2 l4 b4 AU.out).mono ?_);(case t1=>exact bC HB);(case t3=>exact Rdr.mk' (bQ aa) HRY.out HCY.out);rintro e w31 ⟨rfl,hr6,hk6,hb6⟩;refine⟨_,rfl,?_⟩;have RD:=Aside0.mk hr6;replace HO:=Aside0.mk (Kd.R_mono (ok':=fun _=>True) (Kd.R_kept (Kd.R_types HO.out aa.out (by decide)) hk6 (fun _ hk=>hk.2)) (fun _ _=>trivial));replace HB:=Aside0.mk hb6;replace BK2:=Aside0.mk (blk_kept (bQ BK2) hk6 af.out);replace BK5:=Aside0.mk (blk_kept (bQ BK5) hk6 ag.out);clear hr6 hk6 hb6 aa))
      clear hr_0 hr_1 hrf_0 hrf_1 hn_0 hn_1 hn_2 hn_3 hnf_0 hnf_1 hnf_2 hnf_3
      go_cut [11] (fun v11 wd=>∃ vi:Value,Aside0 (Rdr w wd ac l5 b5)∧Aside0 (wd.heap[gb2]? = some (.cells #[.bool false,.slice none 0 0,.slice none 0 0,.slice none 0 0] 36 (0,0)))∧Aside0 (wd.heap[gb5]? = some (.cells #[.bool false,vc,.slice none 0 0,vi] 36 (0,0)))∧Aside0 (Kd.R k62 62 wd w.heap.size (fun _=>True) vc cs)∧Aside0 (Kd.R (Kd.int .i64) 3 wd w.heap.size (fun _=>True) vi kids)∧Aside0 (Below w.heap.size w wd))
      case first =>
        go_wp2_with fail
        go_loopg [11] k (fun kq v11 w'=>∃ (ii:Int) (l:List Int) (bad:Bool) (ks:List Int) (vi:Value),v11 = .int .i64 ii∧Aside0 (node_Decode.l1 kq l bad ii x2 ks=some (l5,b5,kids))∧Aside0 (kq≤k)∧Aside0 (Rdr w w' ac l bad)∧Aside0 (w'.heap[gb2]? = some (.cells #[.bool false,.slice none 0 0,.slice none 0 0,.slice none 0 0] 36 (0,0)))∧Aside0 (w'.heap[gb5]? = some (.cells #[.bool false,vc,.slice none 0 0,vi] 36 (0,0)))∧Aside0 (Kd.R k62 62 w' w.heap.size (fun _=>True) vc cs)∧Aside0 (Kd.R (Kd.int .i64) 3 w' w.heap.size (fun _=>True) vi ks)∧Aside0 (Below w.heap.size w w'))
        case atStart=>exact⟨0,l4,b4,[],.slice none 0 0,rfl,AV,⟨Nat.le_refl _⟩,RD,BK2,BK5,HO,⟨Kd.R_nil _ _ _ _ _⟩,HB⟩
        case round =>
          obtain⟨ii,l,bad,ks,vi,rfl,HA,HK,RD,BK2,BK5,HO,HOI,HB⟩:=hrel
          cases gk with
          | zero=>exact absurd HA.out (by simp [node_Decode.l1])
          | succ k1 =>
            have HF:=HA.out
            clear HA
            simp only [node_Decode.l1] at HF
            obtain⟨Ar,cr,hbr,hrr,hcr⟩:=RD.out
            have aa:=Aside0.mk hbr
            have HRr:=Aside0.mk hrr
            have HCr:=Aside0.mk hcr
            clear hbr hrr hcr
            obtain⟨hr_0,hr_1,hrf_0,hrf_1⟩:=bf2 (w:=wr) aa
            obtain⟨hn_0,hn_1,hn_2,hn_3,hnf_0,hnf_1,hnf_2,hnf_3⟩:=bf4 (w:=wr) BK5
            by_cases c2:ii<x2
            · rw [if_pos c2] at HF
              have c2b:decide (ii<x2)=true:=decide_eq_true c2
              clear c2
              cases bad
              · rw [if_neg (by decide)] at HF
                obtain⟨⟨t1,l7,b7⟩,hN,HF⟩:=Option.bind_eq_some_iff.1 HF
                by_cases c3:ks.length<17592186044416
                · rw [if_pos c3] at HF
                  have AN:=Aside0.mk hN
                  have LM:=Aside0.mk c3
                  obtain⟨zs,hzs⟩:∃ zs:List Int,zs=ks++[t1]:=⟨_,rfl⟩
                  have Nz:=Aside0.mk hzs
                  have HF':Aside0 (node_Decode.l1 k1 l7 b7 (wrap64 (ii+1)) x2 zs=some (l5,b5,kids)):=⟨by rw [hzs];exact HF⟩
                  clear hN HF c3 hzs
                  go_upto_region 17 with fail
                  replace HO:=Aside0.mk (Kd.R_drew HO.out)
                  replace HOI:=Aside0.mk (Kd.R_drew HOI.out)
                  replace BK2:=Aside0.mk (blk_drew BK2.out)
                  replace BK5:=Aside0.mk (blk_drew BK5.out)
                  replace aa:=Aside0.mk (blk_drew aa.out)
                  replace HB:=Aside0.mk (below_drew1 HB.out)
                  refine start_ (n:=8) (S:=fun w'=>w'.cell? ⟨gb5,0,none⟩=some (.bool false)∧w'.cell? ⟨gb5,1,none⟩=some vc∧w'.cell? ⟨gb5,2,none⟩=some (.slice none 0 0)∧w'.cell? ⟨gb5,3,none⟩=some vi) (ds:=[7]) #[false,false,false,false,false,false,false,false] (by kernel_rfl) rfl rfl (be4 BK5) (fun hHeld=>?_)
                  refine with_tabW node_Decode.tab17 node_Decode.bits17 (fun HT_ HW_=>?_)
                  generalize wr.drew=w17 at HO HOI BK2 BK5 aa HB hHeld ⊢
                  refine pure_ (i:=0) (N:=some 88) (v:=?_) (a':=?_) #[true,false,false,false,false,false,false,false] rfl rfl (any_of HT_.out (by kernel_rfl)) (fun _ _ _ h=>h) (Or.inl ⟨by rfl,?_⟩) ?_ ?_
                  rotate_left
                  · intro w'
                    go_simp
                    with_reducible rfl
                  rotate_left
                  · simp only [Act.put,List.setIfInBounds_toArray,List.set_cons_zero,List.set_cons_succ,i64_w,i32_w]
                    rfl
                  refine pure_ (i:=2) (N:=some 90) (v:=?_) (a':=?_) #[true,false,true,false,false,false,false,false] rfl rfl (any_of HT_.out (by kernel_rfl)) (fun _ _ _ h=>h) (Or.inl ⟨by rfl,?_⟩) ?_ ?_
                  rotate_left
                  · intro w'
                    go_simp
                    with_reducible rfl
                  rotate_left
                  · simp only [Act.put,List.setIfInBounds_toArray,List.set_cons_zero,List.set_cons_succ,i64_w,i32_w]
                    rfl
                  refine take_ (i:=1) (N:=some 89) (v:=?_) (a':=?_) #[true,true,true,false,false,false,false,false] rfl rfl (take_ofW HT_.out HW_.out (by kernel_rfl)) (fun _ _ _ h=>h) (Or.inl ⟨by rfl,?_⟩) hHeld ?_ ?_
                  rotate_left
                  · rintro w' ⟨s0,s1,s2,s3⟩
                    go_simp
                    with_reducible rfl
                  rotate_left
                  · simp only [Act.put,List.setIfInBounds_toArray,List.set_cons_zero,List.set_cons_succ,i64_w,i32_w]
                    rfl
                  refine one_ (i:=3) (N:=some 91) #[true,true,true,true,false,false,false,false] rfl rfl (one_of HT_.out (by kernel_rfl)) (by decide) (fun K hK=>?_)
                  refine goes_ Try.func38 (by kernel_rfl) rfl #[.pointer (some ⟨ac,0,none⟩)] (by rfl) rfl rfl (by (try simp only [List.map_toArray,List.map_cons,List.map_nil]);first|done|rfl|(simp only [List.length_drop,List.length_take];rfl)) ?_
                  with_reducible refine (num_calls (w0:=w) k1 ac l false HB.out aj.out (Rdr.mk' aa.out HRr.out HCr.out) t1 l7 b7 AN.out).mono ?_
                  rintro e w18 ⟨rfl,hr6,hk6,hb6⟩
                  refine⟨_,rfl,?_⟩
                  replace HO:=Aside0.mk (Kd.R_mono (ok':=fun _=>True) (Kd.R_kept (Kd.R_types HO.out aa.out (by decide)) hk6 (fun _ hk=>hk.2)) (fun _ _=>trivial))
                  replace HOI:=Aside0.mk (Kd.R_mono (ok':=fun _=>True) (Kd.R_kept (Kd.R_types HOI.out aa.out (by decide)) hk6 (fun _ hk=>hk.2)) (fun _ _=>trivial))
                  replace HB:=Aside0.mk hb6
                  replace BK2:=Aside0.mk (blk_kept BK2.out hk6 af.out)
                  replace BK5:=Aside0.mk (blk_kept BK5.out hk6 ag.out)
                  clear aa HRr HCr hk6 hb6
                  obtain⟨Ar2,cr2,hbr2,hrr2,hcr2⟩:=hr6
                  have aa:=Aside0.mk hbr2
                  have HRr:=Aside0.mk hrr2
                  have HCr:=Aside0.mk hcr2
                  clear hbr2 hrr2 hcr2
                  refine hK.out _ _ (be4 BK5) (fun hHeld=>?_)
                  clear hK K
                  refine norm_ (a':=?_) ?_ ?_
                  rotate_left
                  · show Act.put _ (some 91) _=_
                    simp only [Act.put,List.setIfInBounds_toArray,List.set_cons_zero,List.set_cons_succ,i64_w,i32_w]
                    rfl
                  refine one_ (i:=4) (N:=some 92) #[true,true,true,true,true,false,false,false] rfl rfl (one_of HT_.out (by kernel_rfl)) (by decide) (fun K hK=>?_)
                  refine value_ (w1:=?_) (v:=?_) (by rfl) rfl ?_ ?_
                  rotate_left 2
                  · go_simp
                    constructor
                    · rfl
                    · rfl
                  refine hK.out _ _ ⟨(blk_cell (blk_alloc BK5.out _) 0).trans rfl,(blk_cell (blk_alloc BK5.out _) 1).trans rfl,(blk_cell (blk_alloc BK5.out _) 2).trans rfl,(blk_cell (blk_alloc BK5.out _) 3).trans rfl⟩ (fun hHeld=>?_)
                  clear hK K
                  refine norm_ (a':=?_) ?_ ?_
                  rotate_left
                  · show Act.put _ (some 92) _=_
                    simp only [Act.put,List.setIfInBounds_toArray,List.set_cons_zero,List.set_cons_succ,i64_w,i32_w]
                    rfl
                  refine one_ (i:=5) (N:=some 93) #[true,true,true,true,true,true,false,false] rfl rfl (one_of HT_.out (by kernel_rfl)) (by decide) (fun K hK=>?_)
                  refine Kd.R_append_step (Kd.int .i64) (w0:=w) w.heap.size (by rfl) (.tmp 89) (.tmp 92) 24 3 (.int .i64 0) 8 rfl Try.underlying24 info3 rfl (by decide) (by omega) vi ks t1 [.int .i64 t1] (fun _=>True) (fun _=>False) rfl rfl ?aP (fun _ hk=>hk.elim) ?aF ?aO ?aB ?aS ?aL ?_
                  (case aP=>exact rfl)
                  (case aB=>exact HB.out)
                  (case aF=>exact (fun _ _=>trivial))
                  (case aO=>exact HOI.out)
                  (case aS=>exact (below_size HB.out))
                  (case aL=>have:=LM.out;omega)
                  intro v19 w19 ho hb hg hat
                  rw [← Nz.out] at ho
                  have HOI2:=Aside0.mk ho
                  replace HO:=Aside0.mk (Kd.R_mono (ok':=fun _=>True) (Kd.R_after (R_apartT HO.out HOI.out (by decide)) hg hat) (fun _ _=>trivial))
                  replace BK2:=Aside0.mk (blk_grown BK2.out hg (Kd.R_ne HOI.out BK2.out (by decide)))
                  replace BK5:=Aside0.mk (blk_grown BK5.out hg (Kd.R_ne HOI.out BK5.out (by decide)))
                  replace aa:=Aside0.mk (blk_grown aa.out hg (Kd.R_ne HOI.out aa.out (by decide)))
                  replace HB:=Aside0.mk hb
                  clear HOI
                  have HOI:=HOI2
                  clear HOI2 ho hb hg hat
                  obtain⟨Ao,co,eo⟩:=Kd.R_slice HOI.out
                  subst eo
                  refine hK.out _ _ (be4 BK5) (fun hHeld=>?_)
                  clear hK K
                  refine norm_ (a':=?_) ?_ ?_
                  rotate_left
                  · show Act.put _ (some 93) _=_
                    simp only [Act.put,List.setIfInBounds_toArray,List.set_cons_zero,List.set_cons_succ,i64_w,i32_w]
                    rfl
                  refine pure_ (i:=6) (N:=some 94) (v:=?_) (a':=?_) #[true,true,true,true,true,true,true,false] rfl rfl (any_of HT_.out (by kernel_rfl)) (fun _ _ _ h=>h) (Or.inl ⟨by rfl,?_⟩) ?_ ?_
                  rotate_left
                  · intro w'
                    go_simp
                    with_reducible rfl
                  rotate_left
                  · simp only [Act.put,List.setIfInBounds_toArray,List.set_cons_zero,List.set_cons_succ,i64_w,i32_w]
                    rfl
                  refine last_ (i:=7) (N:=none) #[true,true,true,true,true,true,true,true] rfl rfl (one_of HT_.out (by kernel_rfl)) (by decide) (fun K hK=>?_)
                  have aG:w19.cell? ⟨gb5,3,none⟩=some vi:=(blk_cell BK5.out 3).trans rfl
                  have aE:=blk_frozen BK5.out 3
                  with_reducible refine skip_ (w1:=?_) (by with_unfolding_all rfl) (by with_unfolding_all rfl) ?_ ?_
                  rotate_left
                  · go_simp
                    rfl
                  refine hK.out _ _ ?_
                  clear hK K
                  refine done_ (done_of HT_.out (by kernel_rfl)) ?_
                  try go_wp2
                  go_roundg k1
                  case measure=>have:=HK.out;omega
                  case rel =>
                    refine⟨wrap64 (ii+1),l7,b7,zs,.slice Ao zs.length co,rfl,HF',⟨by have:=HK.out;omega⟩,?_,?_,?_,?_,?_,?_⟩
                    · exact⟨Rdr.mk' (bQ aa) HRr.out HCr.out⟩
                    · exact⟨bQ BK2⟩
                    · exact⟨bR BK5⟩
                    · exact⟨Kd.R_mono (Kd.R_far (p:=⟨gb5,3,none⟩) (Kd.R_types HO.out BK5.out (by decide)) (fun _ hk=>hk.2) _) (fun _ _=>trivial)⟩
                    · exact⟨Kd.R_mono (Kd.R_far (p:=⟨gb5,3,none⟩) (Kd.R_types HOI.out BK5.out (by decide)) (fun _ hk=>hk.2) _) (fun _ _=>trivial)⟩
                    · exact⟨bC HB⟩
                · rw [if_neg c3] at HF;cases HF
              · rw [if_pos rfl] at HF
                obtain⟨rfl,rfl,rfl⟩:l=l5∧true=b5∧ks=kids:=by
                  have:=Option.some.inj HF
                  simp only [Prod.mk.injEq] at this
                  exact this
                go_wp2_with fail
                go_meet
                exact⟨vi,Rdr.out_ aa.out HRr.out HCr.out,BK2,BK5,HO,HOI,HB⟩
            · rw [if_neg c2] at HF
              have c2b:decide (ii<x2)=false:=decide_eq_false c2
              clear c2
              obtain⟨rfl,rfl,rfl⟩:l=l5∧bad=b5∧ks=kids:=by
                have:=Option.some.inj HF
                simp only [Prod.mk.injEq] at this
                exact this
              go_wp2_with fail
              go_meet
              exact⟨vi,Rdr.out_ aa.out HRr.out HCr.out,BK2,BK5,HO,HOI,HB⟩
      case rest =>
        obtain⟨vi,RD,BK2,BK5,HO,HOI,HB⟩:=hcut
        go_upto_block 4 with fail
        go_cut [12] (fun v12 we=>∃ vk:Value,Aside0 (Rdr w we ac l6 b6)∧Aside0 (we.heap[gb2]? = some (.cells #[.bool false,.slice none 0 0,.slice none 0 0,.slice none 0 0] 36 (0,0)))∧Aside0 (we.heap[gb5]? = some (.cells #[.bool false,vc,vk,vi] 36 (0,0)))∧Aside0 (Kd.R k62 62 we w.heap.size (fun _=>True) vc cs)∧Aside0 (Kd.R (Kd.int .i64) 3 we w.heap.size (fun _=>True) vi kids)∧Aside0 (Kd.R Kd.string 9 we w.heap.size (fun _=>True) vk keys)∧Aside0 (Below w.heap.size w we))
        case first =>
          go_wp2_with fail
          go_loopg [12] k (fun kq v12 w'=>∃ (ii:Int) (l:List Int) (bad:Bool) (ks:List ByteArray) (vk:Value),v12 = .int .i64 ii∧Aside0 (node_Decode.l2 kq l bad ii x2 ks=some (l6,b6,keys))∧Aside0 (kq≤k)∧Aside0 (Rdr w w' ac l bad)∧Aside0 (w'.heap[gb2]? = some (.cells #[.bool false,.slice none 0 0,.slice none 0 0,.slice none 0 0] 36 (0,0)))∧Aside0 (w'.heap[gb5]? = some (.cells #[.bool false,vc,vk,vi] 36 (0,0)))∧Aside0 (Kd.R k62 62 w' w.heap.size (fun _=>True) vc cs)∧Aside0 (Kd.R (Kd.int .i64) 3 w' w.heap.size (fun _=>True) vi kids)∧Aside0 (Kd.R Kd.string 9 w' w.heap.size (fun _=>True) vk ks)∧Aside0 (Below w.heap.size w w'))
          case atStart=>exact⟨1,l5,b5,[],.slice none 0 0,rfl,AW,⟨Nat.le_refl _⟩,RD,BK2,BK5,HO,HOI,⟨Kd.R_nil _ _ _ _ _⟩,HB⟩
          case round =>
            obtain⟨ii,l,bad,ks,vk,rfl,HA,HK,RD,BK2,BK5,HO,HOI,HOK,HB⟩:=hrel
            cases gk with
            | zero=>exact absurd HA.out (by simp [node_Decode.l2])
            | succ k1 =>
              have HF:=HA.out
              clear HA
              simp only [node_Decode.l2] at HF
              obtain⟨Ar,cr,hbr,hrr,hcr⟩:=RD.out
              have aa:=Aside0.mk hbr
              have HRr:=Aside0.mk hrr
              have HCr:=Aside0.mk hcr
              clear hbr hrr hcr
              obtain⟨hr_0,hr_1,hrf_0,hrf_1⟩:=bf2 (w:=wr) aa
              obtain⟨hn_0,hn_1,hn_2,hn_3,hnf_0,hnf_1,hnf_2,hnf_3⟩:=bf4 (w:=wr) BK5
              by_cases c2:ii<x2
              · rw [if_pos c2] at HF
                have c2b:decide (ii<x2)=true:=decide_eq_true c2
                clear c2
                cases bad
                · rw [if_neg (by decide)] at HF
                  obtain⟨⟨t1,t2,t3⟩,hC,HF⟩:=Option.bind_eq_some_iff.1 HF
                  obtain⟨⟨l3,b3⟩,hT,HF⟩:=Option.bind_eq_some_iff.1 HF
                  dsimp only at hC hT HF
                  by_cases c3:ks.length<8796093022208
                  · rw [if_pos c3] at HF
                    have AC:=Aside0.mk hC
                    have AT:=Aside0.mk hT
                    have LM:=Aside0.mk c3
                    obtain⟨zs,hzs⟩:∃ zs:List ByteArray,zs=ks++[t1]:=⟨_,rfl⟩
                    have Nz:=Aside0.mk hzs
                    have HF':Aside0 (node_Decode.l2 k1 l3 b3 (wrap64 (ii+1)) x2 zs=some (l6,b6,keys)):=⟨by rw [hzs];exact HF⟩
                    clear hC hT HF c3 hzs
                    go_wp2_with (first|((with_reducible refine gate_callee (f:=41) rfl ?_);refine goesL_ (some 112) rfl rfl Try.func41 (by kernel_rfl) rfl #[.slice Ar l.length cr] rfl (by (try simp only [List.map_toArray,List.map_cons,List.map_nil]);first|done|rfl|(simp only [List.length_drop,List.length_take];rfl)) ?_;(with_reducible refine (num_GetText.calls k1 _ _ l t1 t2 t3 _ ?s1 ?s2 AC.out).mono ?_);(case s1=>exact Kd.C_below HRr.out (bC HB));(case s2=>exact HCr.out);rintro e w' ⟨rfl,⟨nd,rfl⟩⟩;refine⟨_,rfl,?_⟩)|((with_reducible refine gate_callee (f:=40) rfl ?_);refine goesL_ (some 119) rfl rfl Try.func40 (by kernel_rfl) rfl #[.pointer (some ⟨ac,0,none⟩),.int .i64 t2,.int .i64 t3] rfl (by (try simp only [List.map_toArray,List.map_cons,List.map_nil]);first|done|rfl|(simp only [List.length_drop,List.length_take];rfl)) ?_;(with_reducible refine (took_calls (w0:=w) ac l false t2 t3 ?t1 aj.out ?t3 (l3,b3) AT.out).mono ?_);(case t1=>exact bC HB);(case t3=>exact Rdr.mk' (bQ aa) HRr.out HCr.out);rintro e w13 ⟨rfl,hr6,hk6,hb6⟩;refine⟨_,rfl,?_⟩;replace HO:=Aside0.mk (Kd.R_mono (ok':=fun _=>True) (Kd.R_kept (ok:=fun k_=>True∧k_≠ac) (by (with_reducible repeat (first|apply Kd.R_alloc|apply Kd.R_drewN|apply Kd.R_drew));exact Kd.R_types HO.out aa.out (by decide)) hk6 (fun _ hk=>hk.2)) (fun _ _=>trivial));replace HOI:=Aside0.mk (Kd.R_mono (ok':=fun _=>True) (Kd.R_kept (ok:=fun k_=>True∧k_≠ac) (by (with_reducible repeat (first|apply Kd.R_alloc|apply Kd.R_drewN|apply Kd.R_drew));exact Kd.R_types HOI.out aa.out (by decide)) hk6 (fun _ hk=>hk.2)) (fun _ _=>trivial));replace HOK:=Aside0.mk (Kd.R_mono (ok':=fun _=>True) (Kd.R_kept (ok:=fun k_=>True∧k_≠ac) (by (with_reducible repeat (first|apply Kd.R_alloc|apply Kd.R_drewN|apply Kd.R_drew));exact Kd.R_types HOK.out aa.out (by decide)) hk6 (fun _ hk=>hk.2)) (fun _ _=>trivial));replace HB:=Aside0.mk hb6;replace BK2:=Aside0.mk (blk_kept (bQ BK2) hk6 af.out);replace BK5:=Aside0.mk (blk_kept (bQ BK5) hk6 ag.out);clear aa HRr HCr hb6 hk6;obtain⟨Ar2,cr2,hbr2,hrr2,hcr2⟩:=hr6;have aa:=Aside0.mk hbr2;have HRr:=Aside0.mk hrr2;have HCr:=Aside0.mk hcr2;clear hbr2 hrr2 hcr2;obtain⟨hy_0,hy_1,hy_2,hy_3,hyf_0,hyf_1,hyf_2,hyf_3⟩:=bf4 (w:=w13) BK5)|((with_reducible refine gate_builtin (b:=.append) (xs:=#[.tmp 121,.tmp 123]) rfl ?_);at_builtin;refine Kd.R_append Kd.string (w0:=w) w.heap.size rfl (.tmp 121) (.tmp 123) 23 9 (.string (⟨#[]⟩:ByteArray)) 16 rfl Try.underlying23 info9 rfl (by decide) (by omega) vk ks t1 [.string t1] (fun _=>True) (fun _=>False) rfl rfl ?aP (fun _ hk=>hk.elim) ?aF ?aO ?aB ?aS ?aL ?_;(case aP=>exact rfl);(case aB=>exact (bC HB));(case aF=>exact (fun _ _=>trivial));(case aO=>exact HOK.out);(case aS=>exact (below_size (bC HB)));(case aL=>have:=LM.out;omega);intro v14 w14 ho hb hg hat;rw [← Nz.out] at ho;have HOK2:=Aside0.mk ho;replace HO:=Aside0.mk (Kd.R_mono (ok':=fun _=>True) (Kd.R_after (R_apartT HO.out HOK.out (by decide)) hg hat) (fun _ _=>trivial));replace HOI:=Aside0.mk (Kd.R_mono (ok':=fun _=>True) (Kd.R_after (R_apartT HOI.out HOK.out (by decide)) hg hat) (fun _ _=>trivial));replace BK2:=Aside0.mk (blk_grown (bQ BK2) hg (Kd.R_ne HOK.out BK2.out (by decide)));replace BK5:=Aside0.mk (blk_grown (bQ BK5) hg (Kd.R_ne HOK.out BK5.out (by decide)));replace aa:=Aside0.mk (blk_grown (bQ aa) hg (Kd.R_ne HOK.out aa.out (by decide)));replace HB:=Aside0.mk hb;clear HOK;have HOK:=HOK2;clear HOK2 ho hb hg hat;obtain⟨Ao,co,eo⟩:=Kd.R_slice HOK.out;subst eo;obtain⟨hv_0,hv_1,hv_2,hv_3,hvf_0,hvf_1,hvf_2,hvf_3⟩:=bf4 (w:=w14) BK5))
                    go_roundg k1
                    case measure=>have:=HK.out;omega
                    case rel =>
                      refine⟨wrap64 (ii+1),l3,b3,zs,.slice Ao zs.length co,rfl,HF',⟨by have:=HK.out;omega⟩,?_,?_,?_,?_,?_,?_,?_⟩
                      · exact⟨Rdr.mk' (bQ aa) HRr.out HCr.out⟩
                      · exact⟨bQ BK2⟩
                      · exact⟨bR BK5⟩
                      · exact⟨Kd.R_mono (Kd.R_far (p:=⟨gb5,2,none⟩) (Kd.R_types HO.out BK5.out (by decide)) (fun _ hk=>hk.2) _) (fun _ _=>trivial)⟩
                      · exact⟨Kd.R_mono (Kd.R_far (p:=⟨gb5,2,none⟩) (Kd.R_types HOI.out BK5.out (by decide)) (fun _ hk=>hk.2) _) (fun _ _=>trivial)⟩
                      · exact⟨Kd.R_mono (Kd.R_far (p:=⟨gb5,2,none⟩) (Kd.R_types HOK.out BK5.out (by decide)) (fun _ hk=>hk.2) _) (fun _ _=>trivial)⟩
                      · exact⟨bC HB⟩
                  · rw [if_neg c3] at HF;cases HF
                · rw [if_pos rfl] at HF
                  obtain⟨rfl,rfl,rfl⟩:l=l6∧true=b6∧ks=keys:=by
                    have:=Option.some.inj HF
                    simp only [Prod.mk.injEq] at this
                    exact this
                  go_wp2_with fail
                  go_meet
                  exact⟨vk,Rdr.out_ aa.out HRr.out HCr.out,BK2,BK5,HO,HOI,HOK,HB⟩
              · rw [if_neg c2] at HF
                have c2b:decide (ii<x2)=false:=decide_eq_false c2
                clear c2
                obtain⟨rfl,rfl,rfl⟩:l=l6∧bad=b6∧ks=keys:=by
                  have:=Option.some.inj HF
                  simp only [Prod.mk.injEq] at this
                  exact this
                go_wp2_with fail
                go_meet
                exact⟨vk,Rdr.out_ aa.out HRr.out HCr.out,BK2,BK5,HO,HOI,HOK,HB⟩
        case rest =>
          obtain⟨vk,RD,BK2,BK5,HO,HOI,HOK,HB⟩:=hcut
          have HF:=HFi.out
          obtain⟨Ar,cr,hbr,hrr,hcr⟩:=RD.out
          have aa:=Aside0.mk hbr
          clear hbr hrr hcr RD
          obtain⟨hr_0,hr_1,hrf_0,hrf_1⟩:=bf2 (w:=wc) aa
          obtain⟨hn_0,hn_1,hn_2,hn_3,hnf_0,hnf_1,hnf_2,hnf_3⟩:=bf4 (w:=wc) BK5
          obtain⟨bz,hbz⟩:∃ bz,bz=b6:=⟨_,rfl⟩
          subst hbz
          unfold node_Decode.fin at HF
          obtain⟨⟨ec,ee⟩,hE,HF⟩:=Option.bind_eq_some_iff.1 HF
          dsimp only at hE HF
          have AE:=Aside0.mk hE
          clear hE
          obtain⟨Ac,cc,eoc⟩:=Kd.R_slice HO.out
          subst eoc
          obtain⟨Ak,ck,eok⟩:=Kd.R_slice HOK.out
          subst eok
          obtain⟨Ai,ci,eoi⟩:=Kd.R_slice HOI.out
          subst eoi
          cases bz
          · rw [if_neg (by decide)] at HF
            by_cases c5:ee=0
            · rw [if_pos c5] at HF
              have ak:(ee == 0)=true:=beq_iff_eq.mpr c5
              have al:(ee != 0)=false:=bne_eq_false_iff_eq.mpr c5
              clear c5
              obtain⟨q,hQ,HF⟩:=Option.bind_eq_some_iff.1 HF
              have AQ:=Aside0.mk hQ
              clear hQ
              cases q
              · rw [if_neg (by decide)] at HF
                obtain⟨rfl,rfl,rfl,rfl,rfl⟩:false=r1∧[]=r2∧[]=r3∧[]=r4∧8=r5:=by
                  have:=Option.some.inj HF
                  simpa using this
                go_wp2_with (first|((with_reducible refine gate_callee (f:=19) rfl ?_);refine goesL_ (some 128) rfl rfl Try.func19 (by kernel_rfl) rfl #[.agg #[.bool false,.slice Ac cs.length cc,.slice Ak keys.length ck,.slice Ai kids.length ci]] rfl (by (try simp only [List.map_toArray,List.map_cons,List.map_nil]);first|done|rfl|(simp only [List.length_drop,List.length_take];rfl)) ?_;refine (node_Encode.calls k false Ac cc cs Ak ck keys Ai ci kids ec ee _ ?e1 ?e2 ?e3 ?e4 ?e5 ?e6 AE.out).mono ?_;(case e1=>exact (Kd.R_reads' (by (with_reducible repeat (first|apply Kd.R_alloc|apply Kd.R_drewN|apply Kd.R_drew));exact HO.out)).2.2);(case e2=>exact (Kd.R_reads' HO.out).2.1);(case e3=>exact (Kd.R_reads' (by (with_reducible repeat (first|apply Kd.R_alloc|apply Kd.R_drewN|apply Kd.R_drew));exact HOK.out)).2.2);(case e4=>exact (Kd.R_reads' HOK.out).2.1);(case e5=>exact (Kd.R_reads' (by (with_reducible repeat (first|apply Kd.R_alloc|apply Kd.R_drewN|apply Kd.R_drew));exact HOI.out)).2.2);(case e6=>exact (Kd.R_reads' HOI.out).2.1);rintro e w21 ⟨v0,rfl,hoc,hb⟩;refine⟨_,rfl,?_⟩;have HOE:=Aside0.mk (Kd.R_lower hoc (below_size (bC HB)));replace HO:=Aside0.mk (Kd.R_below (by (with_reducible repeat (first|apply Kd.R_alloc|apply Kd.R_drewN|apply Kd.R_drew));exact HO.out) hb);replace HOK:=Aside0.mk (Kd.R_below (by (with_reducible repeat (first|apply Kd.R_alloc|apply Kd.R_drewN|apply Kd.R_drew));exact HOK.out) hb);replace HOI:=Aside0.mk (Kd.R_below (by (with_reducible repeat (first|apply Kd.R_alloc|apply Kd.R_drewN|apply Kd.R_drew));exact HOI.out) hb);replace BK2:=bB BK2 hb;replace BK5:=bB BK5 hb;replace aa:=bB aa hb;replace HB:=bW HB hb;clear hb hoc;obtain⟨Ae,ce,eoe⟩:=Kd.R_slice HOE.out;subst eoe;obtain⟨hs_0,hs_1,hsf_0,hsf_1⟩:=bf2 (w:=w21) aa;obtain⟨hi_0,hi_1,hi_2,hi_3,hif_0,hif_1,hif_2,hif_3⟩:=bf4 (w:=w21) BK5;obtain⟨ho_0,ho_1,ho_2,ho_3,hof_0,hof_1,hof_2,hof_3⟩:=bf4 (w:=w21) BK2)|(go_at_call 42;(with_reducible refine (bytes_Equal.calls _ _ ec _ _ l0 _ _ ?q1 ?q2 ?q3 ?q4 AQ.out).mono ?_);(case q1=>exact (Kd.R_reads' (by (with_reducible repeat (first|apply Kd.R_alloc|apply Kd.R_drewN|apply Kd.R_drew));exact HOE.out)).2.2);(case q2=>exact (Kd.R_reads' HOE.out).2.1);(case q3=>exact Kd.C_below HR0.out (bC HB));(case q4=>exact HC0.out);rintro e w' ⟨rfl,⟨nd,rfl⟩⟩;(try clear hk)))
                refine bodyPost_ret (results_ct rfl _ _ gb2 36 #[.bool false,.slice none 0 0,.slice none 0 0,.slice none 0 0] (0,0) _ rfl (bR BK2) Try.underlying36 rfl (by kernel_rfl)) rfl ?_
                exact⟨_,_,_,rfl,Kd.R_nil _ _ _ _ _,Kd.R_nil _ _ _ _ _,Kd.R_nil _ _ _ _ _,bC HB⟩
              · rw [if_pos rfl] at HF
                obtain⟨rfl,rfl,rfl,rfl,rfl⟩:false=r1∧cs=r2∧keys=r3∧kids=r4∧0=r5:=by
                  have:=Option.some.inj HF
                  simpa using this
                go_wp2_with (first|((with_reducible refine gate_callee (f:=19) rfl ?_);refine goesL_ (some 128) rfl rfl Try.func19 (by kernel_rfl) rfl #[.agg #[.bool false,.slice Ac cs.length cc,.slice Ak keys.length ck,.slice Ai kids.length ci]] rfl (by (try simp only [List.map_toArray,List.map_cons,List.map_nil]);first|done|rfl|(simp only [List.length_drop,List.length_take];rfl)) ?_;refine (node_Encode.calls k false Ac cc cs Ak ck keys Ai ci kids ec ee _ ?e1 ?e2 ?e3 ?e4 ?e5 ?e6 AE.out).mono ?_;(case e1=>exact (Kd.R_reads' (by (with_reducible repeat (first|apply Kd.R_alloc|apply Kd.R_drewN|apply Kd.R_drew));exact HO.out)).2.2);(case e2=>exact (Kd.R_reads' HO.out).2.1);(case e3=>exact (Kd.R_reads' (by (with_reducible repeat (first|apply Kd.R_alloc|apply Kd.R_drewN|apply Kd.R_drew));exact HOK.out)).2.2);(case e4=>exact (Kd.R_reads' HOK.out).2.1);(case e5=>exact (Kd.R_reads' (by (with_reducible repeat (first|apply Kd.R_alloc|apply Kd.R_drewN|apply Kd.R_drew));exact HOI.out)).2.2);(case e6=>exact (Kd.R_reads' HOI.out).2.1);rintro e w21 ⟨v0,rfl,hoc,hb⟩;refine⟨_,rfl,?_⟩;have HOE:=Aside0.mk (Kd.R_lower hoc (below_size (bC HB)));replace HO:=Aside0.mk (Kd.R_below (by (with_reducible repeat (first|apply Kd.R_alloc|apply Kd.R_drewN|apply Kd.R_drew));exact HO.out) hb);replace HOK:=Aside0.mk (Kd.R_below (by (with_reducible repeat (first|apply Kd.R_alloc|apply Kd.R_drewN|apply Kd.R_drew));exact HOK.out) hb);replace HOI:=Aside0.mk (Kd.R_below (by (with_reducible repeat (first|apply Kd.R_alloc|apply Kd.R_drewN|apply Kd.R_drew));exact HOI.out) hb);replace BK2:=bB BK2 hb;replace BK5:=bB BK5 hb;replace aa:=bB aa hb;replace HB:=bW HB hb;clear hb hoc;obtain⟨Ae,ce,eoe⟩:=Kd.R_slice HOE.out;subst eoe;obtain⟨hs_0,hs_1,hsf_0,hsf_1⟩:=bf2 (w:=w21) aa;obtain⟨hi_0,hi_1,hi_2,hi_3,hif_0,hif_1,hif_2,hif_3⟩:=bf4 (w:=w21) BK5;obtain⟨ho_0,ho_1,ho_2,ho_3,hof_0,hof_1,hof_2,hof_3⟩:=bf4 (w:=w21) BK2)|(go_at_call 42;(with_reducible refine (bytes_Equal.calls _ _ ec _ _ l0 _ _ ?q1 ?q2 ?q3 ?q4 AQ.out).mono ?_);(case q1=>exact (Kd.R_reads' (by (with_reducible repeat (first|apply Kd.R_alloc|apply Kd.R_drewN|apply Kd.R_drew));exact HOE.out)).2.2);(case q2=>exact (Kd.R_reads' HOE.out).2.1);(case q3=>exact Kd.C_below HR0.out (bC HB));(case q4=>exact HC0.out);rintro e w' ⟨rfl,⟨nd,rfl⟩⟩;(try clear hk)))
                refine bodyPost_ret (results_ct rfl _ _ gb2 36 #[.bool false,.slice Ac cs.length cc,.slice Ak keys.length ck,.slice Ai kids.length ci] (0,0) _ rfl (bR BK2) Try.underlying36 rfl (by kernel_rfl)) rfl ?_
                exact⟨_,_,_,rfl,(by (with_reducible repeat (first|apply Kd.R_alloc|apply Kd.R_drewN|apply Kd.R_drew));exact Kd.R_mono (Kd.R_far (ok:=fun k_=>True∧k_≠gb2) (p:=⟨gb2,3,none⟩) (Kd.R_far (ok:=fun k_=>True∧k_≠gb2) (p:=⟨gb2,2,none⟩) (Kd.R_far (ok:=fun k_=>True∧k_≠gb2) (p:=⟨gb2,1,none⟩) (Kd.R_far (ok:=fun k_=>True∧k_≠gb2) (p:=⟨gb2,0,none⟩) (by (with_reducible repeat (first|apply Kd.R_alloc|apply Kd.R_drewN|apply Kd.R_drew));exact Kd.R_types HO.out BK2.out (by decide)) (fun _ hk=>hk.2) (.bool false)) (fun _ hk=>hk.2) (.slice Ac cs.length cc)) (fun _ hk=>hk.2) (.slice Ak keys.length ck)) (fun _ hk=>hk.2) (.slice Ai kids.length ci)) (fun _ _=>trivial)),(by (with_reducible repeat (first|apply Kd.R_alloc|apply Kd.R_drewN|apply Kd.R_drew));exact Kd.R_mono (Kd.R_far (ok:=fun k_=>True∧k_≠gb2) (p:=⟨gb2,3,none⟩) (Kd.R_far (ok:=fun k_=>True∧k_≠gb2) (p:=⟨gb2,2,none⟩) (Kd.R_far (ok:=fun k_=>True∧k_≠gb2) (p:=⟨gb2,1,none⟩) (Kd.R_far (ok:=fun k_=>True∧k_≠gb2) (p:=⟨gb2,0,none⟩) (by (with_reducible repeat (first|apply Kd.R_alloc|apply Kd.R_drewN|apply Kd.R_drew));exact Kd.R_types HOK.out BK2.out (by decide)) (fun _ hk=>hk.2) (.bool false)) (fun _ hk=>hk.2) (.slice Ac cs.length cc)) (fun _ hk=>hk.2) (.slice Ak keys.length ck)) (fun _ hk=>hk.2) (.slice Ai kids.length ci)) (fun _ _=>trivial)),(by (with_reducible repeat (first|apply Kd.R_alloc|apply Kd.R_drewN|apply Kd.R_drew));exact Kd.R_mono (Kd.R_far (ok:=fun k_=>True∧k_≠gb2) (p:=⟨gb2,3,none⟩) (Kd.R_far (ok:=fun k_=>True∧k_≠gb2) (p:=⟨gb2,2,none⟩) (Kd.R_far (ok:=fun k_=>True∧k_≠gb2) (p:=⟨gb2,1,none⟩) (Kd.R_far (ok:=fun k_=>True∧k_≠gb2) (p:=⟨gb2,0,none⟩) (by (with_reducible repeat (first|apply Kd.R_alloc|apply Kd.R_drewN|apply Kd.R_drew));exact Kd.R_types HOI.out BK2.out (by decide)) (fun _ hk=>hk.2) (.bool false)) (fun _ hk=>hk.2) (.slice Ac cs.length cc)) (fun _ hk=>hk.2) (.slice Ak keys.length ck)) (fun _ hk=>hk.2) (.slice Ai kids.length ci)) (fun _ _=>trivial)),bC HB⟩
            · rw [if_neg c5] at HF
              have ak:(ee == 0)=false:=beq_eq_false_iff_ne.mpr c5
              have al:(ee != 0)=true:=bne_iff_ne.mpr c5
              clear c5
              obtain⟨rfl,rfl,rfl,rfl,rfl⟩:false=r1∧[]=r2∧[]=r3∧[]=r4∧8=r5:=by
                have:=Option.some.inj HF
                simpa using this
              go_wp2_with (first|((with_reducible refine gate_callee (f:=19) rfl ?_);refine goesL_ (some 128) rfl rfl Try.func19 (by kernel_rfl) rfl #[.agg #[.bool false,.slice Ac cs.length cc,.slice Ak keys.length ck,.slice Ai kids.length ci]] rfl (by (try simp only [List.map_toArray,List.map_cons,List.map_nil]);first|done|rfl|(simp only [List.length_drop,List.length_take];rfl)) ?_;refine (node_Encode.calls k false Ac cc cs Ak ck keys Ai ci kids ec ee _ ?e1 ?e2 ?e3 ?e4 ?e5 ?e6 AE.out).mono ?_;(case e1=>exact (Kd.R_reads' (by (with_reducible repeat (first|apply Kd.R_alloc|apply Kd.R_drewN|apply Kd.R_drew));exact HO.out)).2.2);(case e2=>exact (Kd.R_reads' HO.out).2.1);(case e3=>exact (Kd.R_reads' (by (with_reducible repeat (first|apply Kd.R_alloc|apply Kd.R_drewN|apply Kd.R_drew));exact HOK.out)).2.2);(case e4=>exact (Kd.R_reads' HOK.out).2.1);(case e5=>exact (Kd.R_reads' (by (with_reducible repeat (first|apply Kd.R_alloc|apply Kd.R_drewN|apply Kd.R_drew));exact HOI.out)).2.2);(case e6=>exact (Kd.R_reads' HOI.out).2.1);rintro e w21 ⟨v0,rfl,hoc,hb⟩;refine⟨_,rfl,?_⟩;have HOE:=Aside0.mk (Kd.R_lower hoc (below_size (bC HB)));replace HO:=Aside0.mk (Kd.R_below (by (with_reducible repeat (first|apply Kd.R_alloc|apply Kd.R_drewN|apply Kd.R_drew));exact HO.out) hb);replace HOK:=Aside0.mk (Kd.R_below (by (with_reducible repeat (first|apply Kd.R_alloc|apply Kd.R_drewN|apply Kd.R_drew));exact HOK.out) hb);replace HOI:=Aside0.mk (Kd.R_below (by (with_reducible repeat (first|apply Kd.R_alloc|apply Kd.R_drewN|apply Kd.R_drew));exact HOI.out) hb);replace BK2:=bB BK2 hb;replace BK5:=bB BK5 hb;replace aa:=bB aa hb;replace HB:=bW HB hb;clear hb hoc;obtain⟨Ae,ce,eoe⟩:=Kd.R_slice HOE.out;subst eoe;obtain⟨hs_0,hs_1,hsf_0,hsf_1⟩:=bf2 (w:=w21) aa;obtain⟨hi_0,hi_1,hi_2,hi_3,hif_0,hif_1,hif_2,hif_3⟩:=bf4 (w:=w21) BK5;obtain⟨ho_0,ho_1,ho_2,ho_3,hof_0,hof_1,hof_2,hof_3⟩:=bf4 (w:=w21) BK2))
              refine bodyPost_ret (results_ct rfl _ _ gb2 36 #[.bool false,.slice none 0 0,.slice none 0 0,.slice none 0 0] (0,0) _ rfl (bR BK2) Try.underlying36 rfl (by kernel_rfl)) rfl ?_
              exact⟨_,_,_,rfl,Kd.R_nil _ _ _ _ _,Kd.R_nil _ _ _ _ _,Kd.R_nil _ _ _ _ _,bC HB⟩
          · rw [if_pos rfl] at HF
            obtain⟨rfl,rfl,rfl,rfl,rfl⟩:false=r1∧[]=r2∧[]=r3∧[]=r4∧8=r5:=by
              have:=Option.some.inj HF
              simpa using this
            go_wp2_with (first|((with_reducible refine gate_callee (f:=19) rfl ?_);refine goesL_ (some 128) rfl rfl Try.func19 (by kernel_rfl) rfl #[.agg #[.bool false,.slice Ac cs.length cc,.slice Ak keys.length ck,.slice Ai kids.length ci]] rfl (by (try simp only [List.map_toArray,List.map_cons,List.map_nil]);first|done|rfl|(simp only [List.length_drop,List.length_take];rfl)) ?_;refine (node_Encode.calls k false Ac cc cs Ak ck keys Ai ci kids ec ee _ ?e1 ?e2 ?e3 ?e4 ?e5 ?e6 AE.out).mono ?_;(case e1=>exact (Kd.R_reads' (by (with_reducible repeat (first|apply Kd.R_alloc|apply Kd.R_drewN|apply Kd.R_drew));exact HO.out)).2.2);(case e2=>exact (Kd.R_reads' HO.out).2.1);(case e3=>exact (Kd.R_reads' (by (with_reducible repeat (first|apply Kd.R_alloc|apply Kd.R_drewN|apply Kd.R_drew));exact HOK.out)).2.2);(case e4=>exact (Kd.R_reads' HOK.out).2.1);(case e5=>exact (Kd.R_reads' (by (with_reducible repeat (first|apply Kd.R_alloc|apply Kd.R_drewN|apply Kd.R_drew));exact HOI.out)).2.2);(case e6=>exact (Kd.R_reads' HOI.out).2.1);rintro e w21 ⟨v0,rfl,hoc,hb⟩;refine⟨_,rfl,?_⟩;have HOE:=Aside0.mk (Kd.R_lower hoc (below_size (bC HB)));replace HO:=Aside0.mk (Kd.R_below (by (with_reducible repeat (first|apply Kd.R_alloc|apply Kd.R_drewN|apply Kd.R_drew));exact HO.out) hb);replace HOK:=Aside0.mk (Kd.R_below (by (with_reducible repeat (first|apply Kd.R_alloc|apply Kd.R_drewN|apply Kd.R_drew));exact HOK.out) hb);replace HOI:=Aside0.mk (Kd.R_below (by (with_reducible repeat (first|apply Kd.R_alloc|apply Kd.R_drewN|apply Kd.R_drew));exact HOI.out) hb);replace BK2:=bB BK2 hb;replace BK5:=bB BK5 hb;replace aa:=bB aa hb;replace HB:=bW HB hb;clear hb hoc;obtain⟨Ae,ce,eoe⟩:=Kd.R_slice HOE.out;subst eoe;obtain⟨hs_0,hs_1,hsf_0,hsf_1⟩:=bf2 (w:=w21) aa;obtain⟨hi_0,hi_1,hi_2,hi_3,hif_0,hif_1,hif_2,hif_3⟩:=bf4 (w:=w21) BK5;obtain⟨ho_0,ho_1,ho_2,ho_3,hof_0,hof_1,hof_2,hof_3⟩:=bf4 (w:=w21) BK2))
            refine bodyPost_ret (results_ct rfl _ _ gb2 36 #[.bool false,.slice none 0 0,.slice none 0 0,.slice none 0 0] (0,0) _ rfl (bR BK2) Try.underlying36 rfl (by kernel_rfl)) rfl ?_
            exact⟨_,_,_,rfl,Kd.R_nil _ _ _ _ _,Kd.R_nil _ _ _ _ _,Kd.R_nil _ _ _ _ _,bC HB⟩
    · rw [if_pos rfl] at HF
      obtain⟨bz,hbz⟩:∃ bz,bz=b2:=⟨_,rfl⟩
      subst hbz
      unfold node_Decode.fin at HF
      obtain⟨⟨ec,ee⟩,hE,HF⟩:=Option.bind_eq_some_iff.1 HF
      dsimp only at hE HF
      have AE:=Aside0.mk hE
      clear hE
      obtain⟨Ac,cc,eoc⟩:=Kd.R_slice HO.out
      subst eoc
      cases bz
      · rw [if_neg (by decide)] at HF
        by_cases c5:ee=0
        · rw [if_pos c5] at HF
          have ak:(ee == 0)=true:=beq_iff_eq.mpr c5
          have al:(ee != 0)=false:=bne_eq_false_iff_eq.mpr c5
          clear c5
          obtain⟨q,hQ,HF⟩:=Option.bind_eq_some_iff.1 HF
          have AQ:=Aside0.mk hQ
          clear hQ
          cases q
          · rw [if_neg (by decide)] at HF
            obtain⟨rfl,rfl,rfl,rfl,rfl⟩:false=r1∧[]=r2∧[]=r3∧[]=r4∧8=r5:=by
              have:=Option.some.inj HF
              simpa using this
            go_wp2_with (first|((with_reducible refine gate_callee (f:=19) rfl ?_);refine goesL_ (some 128) rfl rfl Try.func19 (by kernel_rfl) rfl #[.agg #[.bool true,.slice Ac cs.length cc,.slice none 0 0,.slice none 0 0]] rfl (by (try simp only [List.map_toArray,List.map_cons,List.map_nil]);first|done|rfl|(simp only [List.length_drop,List.length_take];rfl)) ?_;refine (node_Encode.calls k true Ac cc cs none 0 [] none 0 [] ec ee _ ?e1 ?e2 ?e3 ?e4 ?e5 ?e6 AE.out).mono ?_;(case e1=>exact (Kd.R_reads' (by (with_reducible repeat (first|apply Kd.R_alloc|apply Kd.R_drewN|apply Kd.R_drew));exact HO.out)).2.2);(case e2=>exact (Kd.R_reads' HO.out).2.1);(case e3=>exact Kd.C_nil _ _);(case e4=>exact Nat.le_refl _);(case e5=>exact Kd.C_nil _ _);(case e6=>exact Nat.le_refl _);rintro e w21 ⟨v0,rfl,hoc,hb⟩;refine⟨_,rfl,?_⟩;have HOE:=Aside0.mk (Kd.R_lower hoc (below_size (bC HB)));replace HO:=Aside0.mk (Kd.R_below (by (with_reducible repeat (first|apply Kd.R_alloc|apply Kd.R_drewN|apply Kd.R_drew));exact HO.out) hb);replace BK2:=bB BK2 hb;replace BK5:=bB BK5 hb;replace ab:=bB ab hb;replace HB:=bW HB hb;clear hb hoc;obtain⟨Ae,ce,eoe⟩:=Kd.R_slice HOE.out;subst eoe;obtain⟨hs_0,hs_1,hsf_0,hsf_1⟩:=bf2 (w:=w21) ab;obtain⟨hi_0,hi_1,hi_2,hi_3,hif_0,hif_1,hif_2,hif_3⟩:=bf4 (w:=w21) BK5;obtain⟨ho_0,ho_1,ho_2,ho_3,hof_0,hof_1,hof_2,hof_3⟩:=bf4 (w:=w21) BK2)|(go_at_call 42;(with_reducible refine (bytes_Equal.calls _ _ ec _ _ l0 _ _ ?q1 ?q2 ?q3 ?q4 AQ.out).mono ?_);(case q1=>exact (Kd.R_reads' (by (with_reducible repeat (first|apply Kd.R_alloc|apply Kd.R_drewN|apply Kd.R_drew));exact HOE.out)).2.2);(case q2=>exact (Kd.R_reads' HOE.out).2.1);(case q3=>exact Kd.C_below HR0.out (bC HB));(case q4=>exact HC0.out);rintro e w' ⟨rfl,⟨nd,rfl⟩⟩;(try clear hk)))
            refine bodyPost_ret (results_ct rfl _ _ gb2 36 #[.bool false,.slice none 0 0,.slice none 0 0,.slice none 0 0] (0,0) _ rfl (bR BK2) Try.underlying36 rfl (by kernel_rfl)) rfl ?_
            exact⟨_,_,_,rfl,Kd.R_nil _ _ _ _ _,Kd.R_nil _ _ _ _ _,Kd.R_nil _ _ _ _ _,bC HB⟩
          · rw [if_pos rfl] at HF
            obtain⟨rfl,rfl,rfl,rfl,rfl⟩:true=r1∧cs=r2∧[]=r3∧[]=r4∧0=r5:=by
              have:=Option.some.inj HF
              simpa using this
            go_wp2_with (first|((with_reducible refine gate_callee (f:=19) rfl ?_);refine goesL_ (some 128) rfl rfl Try.func19 (by kernel_rfl) rfl #[.agg #[.bool true,.slice Ac cs.length cc,.slice none 0 0,.slice none 0 0]] rfl (by (try simp only [List.map_toArray,List.map_cons,List.map_nil]);first|done|rfl|(simp only [List.length_drop,List.length_take];rfl)) ?_;refine (node_Encode.calls k true Ac cc cs none 0 [] none 0 [] ec ee _ ?e1 ?e2 ?e3 ?e4 ?e5 ?e6 AE.out).mono ?_;(case e1=>exact (Kd.R_reads' (by (with_reducible repeat (first|apply Kd.R_alloc|apply Kd.R_drewN|apply Kd.R_drew));exact HO.out)).2.2);(case e2=>exact (Kd.R_reads' HO.out).2.1);(case e3=>exact Kd.C_nil _ _);(case e4=>exact Nat.le_refl _);(case e5=>exact Kd.C_nil _ _);(case e6=>exact Nat.le_refl _);rintro e w21 ⟨v0,rfl,hoc,hb⟩;refine⟨_,rfl,?_⟩;have HOE:=Aside0.mk (Kd.R_lower hoc (below_size (bC HB)));replace HO:=Aside0.mk (Kd.R_below (by (with_reducible repeat (first|apply Kd.R_alloc|apply Kd.R_drewN|apply Kd.R_drew));exact HO.out) hb);replace BK2:=bB BK2 hb;replace BK5:=bB BK5 hb;replace ab:=bB ab hb;replace HB:=bW HB hb;clear hb hoc;obtain⟨Ae,ce,eoe⟩:=Kd.R_slice HOE.out;subst eoe;obtain⟨hs_0,hs_1,hsf_0,hsf_1⟩:=bf2 (w:=w21) ab;obtain⟨hi_0,hi_1,hi_2,hi_3,hif_0,hif_1,hif_2,hif_3⟩:=bf4 (w:=w21) BK5;obtain⟨ho_0,ho_1,ho_2,ho_3,hof_0,hof_1,hof_2,hof_3⟩:=bf4 (w:=w21) BK2)|(go_at_call 42;(with_reducible refine (bytes_Equal.calls _ _ ec _ _ l0 _ _ ?q1 ?q2 ?q3 ?q4 AQ.out).mono ?_);(case q1=>exact (Kd.R_reads' (by (with_reducible repeat (first|apply Kd.R_alloc|apply Kd.R_drewN|apply Kd.R_drew));exact HOE.out)).2.2);(case q2=>exact (Kd.R_reads' HOE.out).2.1);(case q3=>exact Kd.C_below HR0.out (bC HB));(case q4=>exact HC0.out);rintro e w' ⟨rfl,⟨nd,rfl⟩⟩;(try clear hk)))
            refine bodyPost_ret (results_ct rfl _ _ gb2 36 #[.bool true,.slice Ac cs.length cc,.slice none 0 0,.slice none 0 0] (0,0) _ rfl (bR BK2) Try.underlying36 rfl (by kernel_rfl)) rfl ?_
            exact⟨_,_,_,rfl,(by (with_reducible repeat (first|apply Kd.R_alloc|apply Kd.R_drewN|apply Kd.R_drew));exact Kd.R_mono (Kd.R_far (ok:=fun k_=>True∧k_≠gb2) (p:=⟨gb2,3,none⟩) (Kd.R_far (ok:=fun k_=>True∧k_≠gb2) (p:=⟨gb2,2,none⟩) (Kd.R_far (ok:=fun k_=>True∧k_≠gb2) (p:=⟨gb2,1,none⟩) (Kd.R_far (ok:=fun k_=>True∧k_≠gb2) (p:=⟨gb2,0,none⟩) (by (with_reducible repeat (first|apply Kd.R_alloc|apply Kd.R_drewN|apply Kd.R_drew));exact Kd.R_types HO.out BK2.out (by decide)) (fun _ hk=>hk.2) (.bool true)) (fun _ hk=>hk.2) (.slice Ac cs.length cc)) (fun _ hk=>hk.2) (.slice none 0 0)) (fun _ hk=>hk.2) (.slice none 0 0)) (fun _ _=>trivial)),Kd.R_nil _ _ _ _ _,Kd.R_nil _ _ _ _ _,bC HB⟩
        · rw [if_neg c5] at HF
          have ak:(ee == 0)=false:=beq_eq_false_iff_ne.mpr c5
          have al:(ee != 0)=true:=bne_iff_ne.mpr c5
          clear c5
          obtain⟨rfl,rfl,rfl,rfl,rfl⟩:false=r1∧[]=r2∧[]=r3∧[]=r4∧8=r5:=by
            have:=Option.some.inj HF
            simpa using this
          go_wp2_with (first|((with_reducible refine gate_callee (f:=19) rfl ?_);refine goesL_ (some 128) rfl rfl Try.func19 (by kernel_rfl) rfl #[.agg #[.bool true,.slice Ac cs.length cc,.slice none 0 0,.slice none 0 0]] rfl (by (try simp only [List.map_toArray,List.map_cons,List.map_nil]);first|done|rfl|(simp only [List.length_drop,List.length_take];rfl)) ?_;refine (node_Encode.calls k true Ac cc cs none 0 [] none 0 [] ec ee _ ?e1 ?e2 ?e3 ?e4 ?e5 ?e6 AE.out).mono ?_;(case e1=>exact (Kd.R_reads' (by (with_reducible repeat (first|apply Kd.R_alloc|apply Kd.R_drewN|apply Kd.R_drew));exact HO.out)).2.2);(case e2=>exact (Kd.R_reads' HO.out).2.1);(case e3=>exact Kd.C_nil _ _);(case e4=>exact Nat.le_refl _);(case e5=>exact Kd.C_nil _ _);(case e6=>exact Nat.le_refl _);rintro e w21 ⟨v0,rfl,hoc,hb⟩;refine⟨_,rfl,?_⟩;have HOE:=Aside0.mk (Kd.R_lower hoc (below_size (bC HB)));replace HO:=Aside0.mk (Kd.R_below (by (with_reducible repeat (first|apply Kd.R_alloc|apply Kd.R_drewN|apply Kd.R_drew));exact HO.out) hb);replace BK2:=bB BK2 hb;replace BK5:=bB BK5 hb;replace ab:=bB ab hb;replace HB:=bW HB hb;clear hb hoc;obtain⟨Ae,ce,eoe⟩:=Kd.R_slice HOE.out;subst eoe;obtain⟨hs_0,hs_1,hsf_0,hsf_1⟩:=bf2 (w:=w21) ab;obtain⟨hi_0,hi_1,hi_2,hi_3,hif_0,hif_1,hif_2,hif_3⟩:=bf4 (w:=w21) BK5;obtain⟨ho_0,ho_1,ho_2,ho_3,hof_0,hof_1,hof_2,hof_3⟩:=bf4 (w:=w21) BK2))
          refine bodyPost_ret (results_ct rfl _ _ gb2 36 #[.bool false,.slice none 0 0,.slice none 0 0,.slice none 0 0] (0,0) _ rfl (bR BK2) Try.underlying36 rfl (by kernel_rfl)) rfl ?_
          exact⟨_,_,_,rfl,Kd.R_nil _ _ _ _ _,Kd.R_nil _ _ _ _ _,Kd.R_nil _ _ _ _ _,bC HB⟩
      · rw [if_pos rfl] at HF
        obtain⟨rfl,rfl,rfl,rfl,rfl⟩:false=r1∧[]=r2∧[]=r3∧[]=r4∧8=r5:=by
          have:=Option.some.inj HF
          simpa using this
        go_wp2_with (first|((with_reducible refine gate_callee (f:=19) rfl ?_);refine goesL_ (some 128) rfl rfl Try.func19 (by kernel_rfl) rfl #[.agg #[.bool true,.slice Ac cs.length cc,.slice none 0 0,.slice none 0 0]] rfl (by (try simp only [List.map_toArray,List.map_cons,List.map_nil]);first|done|rfl|(simp only [List.length_drop,List.length_take];rfl)) ?_;refine (node_Encode.calls k true Ac cc cs none 0 [] none 0 [] ec ee _ ?e1 ?e2 ?e3 ?e4 ?e5 ?e6 AE.out).mono ?_;(case e1=>exact (Kd.R_reads' (by (with_reducible repeat (first|apply Kd.R_alloc|apply Kd.R_drewN|apply Kd.R_drew));exact HO.out)).2.2);(case e2=>exact (Kd.R_reads' HO.out).2.1);(case e3=>exact Kd.C_nil _ _);(case e4=>exact Nat.le_refl _);(case e5=>exact Kd.C_nil _ _);(case e6=>exact Nat.le_refl _);rintro e w21 ⟨v0,rfl,hoc,hb⟩;refine⟨_,rfl,?_⟩;have HOE:=Aside0.mk (Kd.R_lower hoc (below_size (bC HB)));replace HO:=Aside0.mk (Kd.R_below (by (with_reducible repeat (first|apply Kd.R_alloc|apply Kd.R_drewN|apply Kd.R_drew));exact HO.out) hb);replace BK2:=bB BK2 hb;replace BK5:=bB BK5 hb;replace ab:=bB ab hb;replace HB:=bW HB hb;clear hb hoc;obtain⟨Ae,ce,eoe⟩:=Kd.R_slice HOE.out;subst eoe;obtain⟨hs_0,hs_1,hsf_0,hsf_1⟩:=bf2 (w:=w21) ab;obtain⟨hi_0,hi_1,hi_2,hi_3,hif_0,hif_1,hif_2,hif_3⟩:=bf4 (w:=w21) BK5;obtain⟨ho_0,ho_1,ho_2,ho_3,hof_0,hof_1,hof_2,hof_3⟩:=bf4 (w:=w21) BK2))
        refine bodyPost_ret (results_ct rfl _ _ gb2 36 #[.bool false,.slice none 0 0,.slice none 0 0,.slice none 0 0] (0,0) _ rfl (bR BK2) Try.underlying36 rfl (by kernel_rfl)) rfl ?_
        exact⟨_,_,_,rfl,Kd.R_nil _ _ _ _ _,Kd.R_nil _ _ _ _ _,Kd.R_nil _ _ _ _ _,bC HB⟩
end Go.Proofs.Ytmmjpieafbjggaa.P
end
section
namespace Go.Proofs.Ytmmjpieafbjggaa.P
open Go.RowKit Go.Proofs.YtmmjpieafbjggaaW.PrintWords Go.Proofs.YtmmjpieafbjggaaW.PrintLast Go.Proofs.YtmmjpieafbjggaaW.PrintMore
attribute [local go_sem] max2_int min2_int max_two min_two max_three min_three max_four min_four   -- for this text's walks alone
attribute [local go_sem] x_str_gtr x_str_leq x_str_geq ext_bits ext_frombits ext_neg x_store_float Instr.field asAgg
set_option linter.unusedVariables false
set_option linter.unusedSimpArgs false
def engrosslaw11_begun.f (k:Nat)  : Option (Bool):=(some (([(⟨(⟨#[97]⟩:ByteArray),(⟨1,4607182418800017408,(⟨#[]⟩:ByteArray)⟩:S54),0,(⟨0,0,(⟨#[]⟩:ByteArray)⟩:S54)⟩:S62)]:List (S62)):List (S62))).bind fun y285=>((some (([(⟨#[107]⟩:ByteArray)]:List ByteArray):List ByteArray)).bind fun y289=>((some (([2,3]:List Int):List Int)).bind fun y292=>((node_Encode.f k true y285 ([]:List ByteArray) ([]:List Int)).bind fun bt296=>((node_Encode.f k false ([]:List (S62)) y289 y292).bind fun bt300=>((node_Decode.f k bt300.1).bind fun bt304=>(if 256≤281474976710656 then ((node_Decode.f k (List.replicate 256 0)).bind fun bt319=>((node_May.f k true y285 ([]:List ByteArray) ([]:List Int)).bind fun t331=>(if t331=true then ((node_May.f k false ([]:List (S62)) y289 y292).bind fun t332=>(if t332=true then ((node_May.f k false ([]:List (S62)) ([]:List ByteArray) ([]:List Int)).bind fun t333=>(if t333=true then (none) else (if bt296.2=0 then (if bt300.2=0 then (if (bt296.1.length:Int)=256 then (if 0<(bt296.1.length:Int) then (if (rd bt296.1 0)=1 then (if bt304.2.2.2.2=0 then (if (bt304.2.2.2.1.length:Int)=2 then (if bt319.2.2.2.2=8 then ((node_Kid.f k false ([]:List (S62)) y289 y292 (⟨#[107]⟩:ByteArray)).bind fun t335=>(if t335=1 then ((node_Kid.f k false ([]:List (S62)) y289 y292 (⟨#[106]⟩:ByteArray)).bind fun t336=>(if t336=0 then ((node_Kid.f k true y285 ([]:List ByteArray) ([]:List Int) (⟨#[106]⟩:ByteArray)).bind fun t337=>(if t337=(-1) then ((node_Size.f k true y285 ([]:List ByteArray) ([]:List Int)).bind fun t338=>(some (decide (t338>10)))) else (none))) else (none))) else (none))) else (none)) else (none)) else (none)) else (none)) else (none)) else (none)) else (none)) else (none)))) else (none))) else (none)))) else (none)))))))
theorem engrosslaw11_begun.mono:∀ k,LeO (engrosslaw11_begun.f k ) (engrosslaw11_begun.f (k+1) ):=by
 intro  k
 unfold engrosslaw11_begun.f
 repeat' first
   | (with_reducible exact node_Decode.mono _ _)
   | (with_reducible exact node_Encode.mono _ _ _ _ _)
   | (with_reducible exact node_Kid.mono _ _ _ _ _ _)
   | (with_reducible exact node_May.mono _ _ _ _ _)
   | (with_reducible exact node_Size.mono _ _ _ _ _)
   | (with_reducible exact LeO.refl _)
   | (with_reducible exact LeO.none _)
   | (with_reducible refine LeO.ite ?_ ?_)
   | (with_reducible refine LeO.bind ?_ (fun _=>?_))
   | exact node_Decode.mono _ _
   | exact node_Encode.mono _ _ _ _ _
   | exact node_Kid.mono _ _ _ _ _ _
   | exact node_May.mono _ _ _ _ _
   | exact node_Size.mono _ _ _ _ _
   | exact LeO.none _
   | refine LeO.ite ?_ ?_
   | refine LeO.bind ?_ (fun _=>?_)
set_option maxHeartbeats 8000000 in
set_option maxRecDepth 100000 in
theorem engrosslaw11_begun.calls (k:Nat)  (r:Bool) (w:World) (h:engrosslaw11_begun.f k  = some r) :
  Calls Try.prog 11 #[] w fun e w'=>e = .returned (.bool r)∧Below w.heap.size w w':=by
 have hu54:=Try.underlying54
 have hu62:=Try.underlying62
 have hu36:=Try.underlying36
 have HB:=aK (Below.refl w.heap.size w)
 have H:((some (([(⟨(⟨#[97]⟩:ByteArray),(⟨1,4607182418800017408,(⟨#[]⟩:ByteArray)⟩:S54),0,(⟨0,0,(⟨#[]⟩:ByteArray)⟩:S54)⟩:S62)]:List (S62)):List (S62))).bind fun ae=>((some (([(⟨#[107]⟩:ByteArray)]:List ByteArray):List ByteArray)).bind fun ac=>((some (([2,3]:List Int):List Int)).bind fun ab=>((node_Encode.f k true ae ([]:List ByteArray) ([]:List Int)).bind fun aD=>((node_Encode.f k false ([]:List (S62)) ac ab).bind fun aU=>((node_Decode.f k aU.1).bind fun aH=>(if 256≤281474976710656 then ((node_Decode.f k (List.replicate 256 0)).bind fun aT=>((node_May.f k true ae ([]:List ByteArray) ([]:List Int)).bind fun aQ=>(if aQ=true then ((node_May.f k false ([]:List (S62)) ac ab).bind fun aE=>(if aE=true then ((node_May.f k false ([]:List (S62)) ([]:List ByteArray) ([]:List Int)).bind fun aA=>(if aA=true then (none) else (if aD.2=0 then (if aU.2=0 then (if (aD.1.length:Int)=256 then (if 0<(aD.1.length:Int) then (if (rd aD.1 0)=1 then (if aH.2.2.2.2=0 then (if (aH.2.2.2.1.length:Int)=2 then (if aT.2.2.2.2=8 then ((node_Kid.f k false ([]:List (S62)) ac ab (⟨#[107]⟩:ByteArray)).bind fun aw=>(if aw=1 then ((node_Kid.f k false ([]:List (S62)) ac ab (⟨#[106]⟩:ByteArray)).bind fun ar=>(if ar=0 then ((node_Kid.f k true ae ([]:List ByteArray) ([]:List Int) (⟨#[106]⟩:ByteArray)).bind fun ao=>(if ao=(-1) then ((node_Size.f k true ae ([]:List ByteArray) ([]:List Int)).bind fun ap=>(some (decide (ap>10)))) else (none))) else (none))) else (none))) else (none)) else (none)) else (none)) else (none)) else (none)) else (none)) else (none)) else (none)))) else (none))) else (none)))) else (none))))))))=some r:=h
 clear h
 obtain⟨ae,hy285⟩:∃ y_:List (S62),y_=(([(⟨(⟨#[97]⟩:ByteArray),(⟨1,4607182418800017408,(⟨#[]⟩:ByteArray)⟩:S54),0,(⟨0,0,(⟨#[]⟩:ByteArray)⟩:S54)⟩:S62)]:List (S62))):=⟨_,rfl⟩
 replace H:((some (([(⟨#[107]⟩:ByteArray)]:List ByteArray):List ByteArray)).bind fun ac=>((some (([2,3]:List Int):List Int)).bind fun ab=>((node_Encode.f k true ae ([]:List ByteArray) ([]:List Int)).bind fun aD=>((node_Encode.f k false ([]:List (S62)) ac ab).bind fun aU=>((node_Decode.f k aU.1).bind fun aH=>(if 256≤281474976710656 then ((node_Decode.f k (List.replicate 256 0)).bind fun aT=>((node_May.f k true ae ([]:List ByteArray) ([]:List Int)).bind fun aQ=>(if aQ=true then ((node_May.f k false ([]:List (S62)) ac ab).bind fun aE=>(if aE=true then ((node_May.f k false ([]:List (S62)) ([]:List ByteArray) ([]:List Int)).bind fun aA=>(if aA=true then (none) else (if aD.2=0 then (if aU.2=0 then (if (aD.1.length:Int)=256 then (if 0<(aD.1.length:Int) then (if (rd aD.1 0)=1 then (if aH.2.2.2.2=0 then (if (aH.2.2.2.1.length:Int)=2 then (if aT.2.2.2.2=8 then ((node_Kid.f k false ([]:List (S62)) ac ab (⟨#[107]⟩:ByteArray)).bind fun aw=>(if aw=1 then ((node_Kid.f k false ([]:List (S62)) ac ab (⟨#[106]⟩:ByteArray)).bind fun ar=>(if ar=0 then ((node_Kid.f k true ae ([]:List ByteArray) ([]:List Int) (⟨#[106]⟩:ByteArray)).bind fun ao=>(if ao=(-1) then ((node_Size.f k true ae ([]:List ByteArray) ([]:List Int)).bind fun ap=>(some (decide (ap>10)))) else (none))) else (none))) else (none))) else (none)) else (none)) else (none)) else (none)) else (none)) else (none)) else (none)) else (none)))) else (none))) else (none)))) else (none)))))))=some r:=by first|(rw [hy285];with_reducible exact H)|(have H2_:=(Option.bind_some _ _).symm.trans H;rw [hy285];with_reducible exact H2_)|(have H2_:=(Option.bind_some _ _).symm.trans H;with_reducible exact H2_)|with_reducible exact H|(rw [hy285];exact H)|exact H
 have Ny285:=aK hy285
 clear hy285
 obtain⟨ac,hy289⟩:∃ y_:List ByteArray,y_=(([(⟨#[107]⟩:ByteArray)]:List ByteArray)):=⟨_,rfl⟩
 replace H:((some (([2,3]:List Int):List Int)).bind fun ab=>((node_Encode.f k true ae ([]:List ByteArray) ([]:List Int)).bind fun aD=>((node_Encode.f k false ([]:List (S62)) ac ab).bind fun aU=>((node_Decode.f k aU.1).bind fun aH=>(if 256≤281474976710656 then ((node_Decode.f k (List.replicate 256 0)).bind fun aT=>((node_May.f k true ae ([]:List ByteArray) ([]:List Int)).bind fun aQ=>(if aQ=true then ((node_May.f k false ([]:List (S62)) ac ab).bind fun aE=>(if aE=true then ((node_May.f k false ([]:List (S62)) ([]:List ByteArray) ([]:List Int)).bind fun aA=>(if aA=true then (none) else (if aD.2=0 then (if aU.2=0 then (if (aD.1.length:Int)=256 then (if 0<(aD.1.length:Int) then (if (rd aD.1 0)=1 then (if aH.2.2.2.2=0 then (if (aH.2.2.2.1.length:Int)=2 then (if aT.2.2.2.2=8 then ((node_Kid.f k false ([]:List (S62)) ac ab (⟨#[107]⟩:ByteArray)).bind fun aw=>(if aw=1 then ((node_Kid.f k false ([]:List (S62)) ac ab (⟨#[106]⟩:ByteArray)).bind fun ar=>(if ar=0 then ((node_Kid.f k true ae ([]:List ByteArray) ([]:List Int) (⟨#[106]⟩:ByteArray)).bind fun ao=>(if ao=(-1) then ((node_Size.f k true ae ([]:List ByteArray) ([]:List Int)).bind fun ap=>(some (decide (ap>10)))) else (none))) else (none))) else (none))) else (none)) else (none)) else (none)) else (none)) else (none)) else (none)) else (none)) else (none)))) else (none))) else (none)))) else (none))))))=some r:=by first|(rw [hy289];with_reducible exact H)|(have H2_:=(Option.bind_some _ _).symm.trans H;rw [hy289];with_reducible exact H2_)|(have H2_:=(Option.bind_some _ _).symm.trans H;with_reducible exact H2_)|with_reducible exact H|(rw [hy289];exact H)|exact H
 have Ny289:=aK hy289
 clear hy289
 obtain⟨ab,hy292⟩:∃ y_:List Int,y_=(([2,3]:List Int)):=⟨_,rfl⟩
 replace H:((node_Encode.f k true ae ([]:List ByteArray) ([]:List Int)).bind fun aD=>((node_Encode.f k false ([]:List (S62)) ac ab).bind fun aU=>((node_Decode.f k aU.1).bind fun aH=>(if 256≤281474976710656 then ((node_Decode.f k (List.replicate 256 0)).bind fun aT=>((node_May.f k true ae ([]:List ByteArray) ([]:List Int)).bind fun aQ=>(if aQ=true then ((node_May.f k false ([]:List (S62)) ac ab).bind fun aE=>(if aE=true then ((node_May.f k false ([]:List (S62)) ([]:List ByteArray) ([]:List Int)).bind fun aA=>(if aA=true then (none) else (if aD.2=0 then (if aU.2=0 then (if (aD.1.length:Int)=256 then (if 0<(aD.1.length:Int) then (if (rd aD.1 0)=1 then (if aH.2.2.2.2=0 then (if (aH.2.2.2.1.length:Int)=2 then (if aT.2.2.2.2=8 then ((node_Kid.f k false ([]:List (S62)) ac ab (⟨#[107]⟩:ByteArray)).bind fun aw=>(if aw=1 then ((node_Kid.f k false ([]:List (S62)) ac ab (⟨#[106]⟩:ByteArray)).bind fun ar=>(if ar=0 then ((node_Kid.f k true ae ([]:List ByteArray) ([]:List Int) (⟨#[106]⟩:ByteArray)).bind fun ao=>(if ao=(-1) then ((node_Size.f k true ae ([]:List ByteArray) ([]:List Int)).bind fun ap=>(some (decide (ap>10)))) else (none))) else (none))) else (none))) else (none)) else (none)) else (none)) else (none)) else (none)) else (none)) else (none)) else (none)))) else (none))) else (none)))) else (none)))))=some r:=by first|(rw [hy292];with_reducible exact H)|(have H2_:=(Option.bind_some _ _).symm.trans H;rw [hy292];with_reducible exact H2_)|(have H2_:=(Option.bind_some _ _).symm.trans H;with_reducible exact H2_)|with_reducible exact H|(rw [hy292];exact H)|exact H
 have Ny292:=aK hy292
 clear hy292
 replace H:=oS H
 obtain⟨⟨al,aW⟩,A10,H⟩:=H
 replace H:((node_Encode.f k false ([]:List (S62)) ac ab).bind fun aU=>((node_Decode.f k aU.1).bind fun aH=>(if 256≤281474976710656 then ((node_Decode.f k (List.replicate 256 0)).bind fun aT=>((node_May.f k true ae ([]:List ByteArray) ([]:List Int)).bind fun aQ=>(if aQ=true then ((node_May.f k false ([]:List (S62)) ac ab).bind fun aE=>(if aE=true then ((node_May.f k false ([]:List (S62)) ([]:List ByteArray) ([]:List Int)).bind fun aA=>(if aA=true then (none) else (if aW=0 then (if aU.2=0 then (if (al.length:Int)=256 then (if 0<(al.length:Int) then (if (rd al 0)=1 then (if aH.2.2.2.2=0 then (if (aH.2.2.2.1.length:Int)=2 then (if aT.2.2.2.2=8 then ((node_Kid.f k false ([]:List (S62)) ac ab (⟨#[107]⟩:ByteArray)).bind fun aw=>(if aw=1 then ((node_Kid.f k false ([]:List (S62)) ac ab (⟨#[106]⟩:ByteArray)).bind fun ar=>(if ar=0 then ((node_Kid.f k true ae ([]:List ByteArray) ([]:List Int) (⟨#[106]⟩:ByteArray)).bind fun ao=>(if ao=(-1) then ((node_Size.f k true ae ([]:List ByteArray) ([]:List Int)).bind fun ap=>(some (decide (ap>10)))) else (none))) else (none))) else (none))) else (none)) else (none)) else (none)) else (none)) else (none)) else (none)) else (none)) else (none)))) else (none))) else (none)))) else (none))))=some r:=H
 have A1:=aK A10
 clear A10
 replace H:=oS H
 obtain⟨⟨bX,bc⟩,A20,H⟩:=H
 replace H:((node_Decode.f k bX).bind fun aH=>(if 256≤281474976710656 then ((node_Decode.f k (List.replicate 256 0)).bind fun aT=>((node_May.f k true ae ([]:List ByteArray) ([]:List Int)).bind fun aQ=>(if aQ=true then ((node_May.f k false ([]:List (S62)) ac ab).bind fun aE=>(if aE=true then ((node_May.f k false ([]:List (S62)) ([]:List ByteArray) ([]:List Int)).bind fun aA=>(if aA=true then (none) else (if aW=0 then (if bc=0 then (if (al.length:Int)=256 then (if 0<(al.length:Int) then (if (rd al 0)=1 then (if aH.2.2.2.2=0 then (if (aH.2.2.2.1.length:Int)=2 then (if aT.2.2.2.2=8 then ((node_Kid.f k false ([]:List (S62)) ac ab (⟨#[107]⟩:ByteArray)).bind fun aw=>(if aw=1 then ((node_Kid.f k false ([]:List (S62)) ac ab (⟨#[106]⟩:ByteArray)).bind fun ar=>(if ar=0 then ((node_Kid.f k true ae ([]:List ByteArray) ([]:List Int) (⟨#[106]⟩:ByteArray)).bind fun ao=>(if ao=(-1) then ((node_Size.f k true ae ([]:List ByteArray) ([]:List Int)).bind fun ap=>(some (decide (ap>10)))) else (none))) else (none))) else (none))) else (none)) else (none)) else (none)) else (none)) else (none)) else (none)) else (none)) else (none)))) else (none))) else (none)))) else (none)))=some r:=H
 have A2:=aK A20
 clear A20
 replace H:=oS H
 obtain⟨⟨bl,bj,bm,aG,bk⟩,A30,H⟩:=H
 replace H:(if 256≤281474976710656 then ((node_Decode.f k (List.replicate 256 0)).bind fun aT=>((node_May.f k true ae ([]:List ByteArray) ([]:List Int)).bind fun aQ=>(if aQ=true then ((node_May.f k false ([]:List (S62)) ac ab).bind fun aE=>(if aE=true then ((node_May.f k false ([]:List (S62)) ([]:List ByteArray) ([]:List Int)).bind fun aA=>(if aA=true then (none) else (if aW=0 then (if bc=0 then (if (al.length:Int)=256 then (if 0<(al.length:Int) then (if (rd al 0)=1 then (if bk=0 then (if (aG.length:Int)=2 then (if aT.2.2.2.2=8 then ((node_Kid.f k false ([]:List (S62)) ac ab (⟨#[107]⟩:ByteArray)).bind fun aw=>(if aw=1 then ((node_Kid.f k false ([]:List (S62)) ac ab (⟨#[106]⟩:ByteArray)).bind fun ar=>(if ar=0 then ((node_Kid.f k true ae ([]:List ByteArray) ([]:List Int) (⟨#[106]⟩:ByteArray)).bind fun ao=>(if ao=(-1) then ((node_Size.f k true ae ([]:List ByteArray) ([]:List Int)).bind fun ap=>(some (decide (ap>10)))) else (none))) else (none))) else (none))) else (none)) else (none)) else (none)) else (none)) else (none)) else (none)) else (none)) else (none)))) else (none))) else (none)))) else (none))=some r:=H
 have A3:=aK A30
 clear A30
 by_cases c4:256≤281474976710656
 rotate_left
 ·rw [if_neg c4] at H
  exact absurd H (by simp)
 rw [if_pos c4] at H
 have fG:=eq_true c4
 have fH:decide (256≤281474976710656)=true:=decide_eq_true c4
 clear c4
 obtain⟨cp,hy316⟩:∃ y_:List Int,y_=(List.replicate 256 0):=⟨_,rfl⟩
 replace H:((node_Decode.f k cp).bind fun aT=>((node_May.f k true ae ([]:List ByteArray) ([]:List Int)).bind fun aQ=>(if aQ=true then ((node_May.f k false ([]:List (S62)) ac ab).bind fun aE=>(if aE=true then ((node_May.f k false ([]:List (S62)) ([]:List ByteArray) ([]:List Int)).bind fun aA=>(if aA=true then (none) else (if aW=0 then (if bc=0 then (if (al.length:Int)=256 then (if 0<(al.length:Int) then (if (rd al 0)=1 then (if bk=0 then (if (aG.length:Int)=2 then (if aT.2.2.2.2=8 then ((node_Kid.f k false ([]:List (S62)) ac ab (⟨#[107]⟩:ByteArray)).bind fun aw=>(if aw=1 then ((node_Kid.f k false ([]:List (S62)) ac ab (⟨#[106]⟩:ByteArray)).bind fun ar=>(if ar=0 then ((node_Kid.f k true ae ([]:List ByteArray) ([]:List Int) (⟨#[106]⟩:ByteArray)).bind fun ao=>(if ao=(-1) then ((node_Size.f k true ae ([]:List ByteArray) ([]:List Int)).bind fun ap=>(some (decide (ap>10)))) else (none))) else (none))) else (none))) else (none)) else (none)) else (none)) else (none)) else (none)) else (none)) else (none)) else (none)))) else (none))) else (none))))=some r:=by first|(rw [hy316];with_reducible exact H)|(have H2_:=(Option.bind_some _ _).symm.trans H;rw [hy316];with_reducible exact H2_)|(have H2_:=(Option.bind_some _ _).symm.trans H;with_reducible exact H2_)|with_reducible exact H|(rw [hy316];exact H)|exact H
 have Ny316:=aK hy316
 clear hy316
 replace H:=oS H
 obtain⟨⟨aX,aV,aY,aZ,bp⟩,A50,H⟩:=H
 replace H:((node_May.f k true ae ([]:List ByteArray) ([]:List Int)).bind fun aQ=>(if aQ=true then ((node_May.f k false ([]:List (S62)) ac ab).bind fun aE=>(if aE=true then ((node_May.f k false ([]:List (S62)) ([]:List ByteArray) ([]:List Int)).bind fun aA=>(if aA=true then (none) else (if aW=0 then (if bc=0 then (if (al.length:Int)=256 then (if 0<(al.length:Int) then (if (rd al 0)=1 then (if bk=0 then (if (aG.length:Int)=2 then (if bp=8 then ((node_Kid.f k false ([]:List (S62)) ac ab (⟨#[107]⟩:ByteArray)).bind fun aw=>(if aw=1 then ((node_Kid.f k false ([]:List (S62)) ac ab (⟨#[106]⟩:ByteArray)).bind fun ar=>(if ar=0 then ((node_Kid.f k true ae ([]:List ByteArray) ([]:List Int) (⟨#[106]⟩:ByteArray)).bind fun ao=>(if ao=(-1) then ((node_Size.f k true ae ([]:List ByteArray) ([]:List Int)).bind fun ap=>(some (decide (ap>10)))) else (none))) else (none))) else (none))) else (none)) else (none)) else (none)) else (none)) else (none)) else (none)) else (none)) else (none)))) else (none))) else (none)))=some r:=H
 have A5:=aK A50
 clear A50
 replace H:=oS H
 obtain⟨aQ,A60,H⟩:=H
 replace H:(if aQ=true then ((node_May.f k false ([]:List (S62)) ac ab).bind fun aE=>(if aE=true then ((node_May.f k false ([]:List (S62)) ([]:List ByteArray) ([]:List Int)).bind fun aA=>(if aA=true then (none) else (if aW=0 then (if bc=0 then (if (al.length:Int)=256 then (if 0<(al.length:Int) then (if (rd al 0)=1 then (if bk=0 then (if (aG.length:Int)=2 then (if bp=8 then ((node_Kid.f k false ([]:List (S62)) ac ab (⟨#[107]⟩:ByteArray)).bind fun aw=>(if aw=1 then ((node_Kid.f k false ([]:List (S62)) ac ab (⟨#[106]⟩:ByteArray)).bind fun ar=>(if ar=0 then ((node_Kid.f k true ae ([]:List ByteArray) ([]:List Int) (⟨#[106]⟩:ByteArray)).bind fun ao=>(if ao=(-1) then ((node_Size.f k true ae ([]:List ByteArray) ([]:List Int)).bind fun ap=>(some (decide (ap>10)))) else (none))) else (none))) else (none))) else (none)) else (none)) else (none)) else (none)) else (none)) else (none)) else (none)) else (none)))) else (none))) else (none))=some r:=H
 have A6:=aK A60
 clear A60
 by_cases c7:aQ=true
 rotate_left
 ·replace c7:=Bool.eq_false_iff.mpr c7
  subst c7
  have H1:(none)=some r:=by rw [if_neg (show ¬ (false=true) by decide)] at H;exact H
  clear H
  have H:=H1
  clear H1
  exact absurd H (by simp)
 subst c7
 have H1:((node_May.f k false ([]:List (S62)) ac ab).bind fun aE=>(if aE=true then ((node_May.f k false ([]:List (S62)) ([]:List ByteArray) ([]:List Int)).bind fun aA=>(if aA=true then (none) else (if aW=0 then (if bc=0 then (if (al.length:Int)=256 then (if 0<(al.length:Int) then (if (rd al 0)=1 then (if bk=0 then (if (aG.length:Int)=2 then (if bp=8 then ((node_Kid.f k false ([]:List (S62)) ac ab (⟨#[107]⟩:ByteArray)).bind fun aw=>(if aw=1 then ((node_Kid.f k false ([]:List (S62)) ac ab (⟨#[106]⟩:ByteArray)).bind fun ar=>(if ar=0 then ((node_Kid.f k true ae ([]:List ByteArray) ([]:List Int) (⟨#[106]⟩:ByteArray)).bind fun ao=>(if ao=(-1) then ((node_Size.f k true ae ([]:List ByteArray) ([]:List Int)).bind fun ap=>(some (decide (ap>10)))) else (none))) else (none))) else (none))) else (none)) else (none)) else (none)) else (none)) else (none)) else (none)) else (none)) else (none)))) else (none)))=some r:=by rw [if_pos rfl] at H;exact H
 clear H
 have H:=H1
 clear H1
 replace H:=oS H
 obtain⟨aE,A80,H⟩:=H
 replace H:(if aE=true then ((node_May.f k false ([]:List (S62)) ([]:List ByteArray) ([]:List Int)).bind fun aA=>(if aA=true then (none) else (if aW=0 then (if bc=0 then (if (al.length:Int)=256 then (if 0<(al.length:Int) then (if (rd al 0)=1 then (if bk=0 then (if (aG.length:Int)=2 then (if bp=8 then ((node_Kid.f k false ([]:List (S62)) ac ab (⟨#[107]⟩:ByteArray)).bind fun aw=>(if aw=1 then ((node_Kid.f k false ([]:List (S62)) ac ab (⟨#[106]⟩:ByteArray)).bind fun ar=>(if ar=0 then ((node_Kid.f k true ae ([]:List ByteArray) ([]:List Int) (⟨#[106]⟩:ByteArray)).bind fun ao=>(if ao=(-1) then ((node_Size.f k true ae ([]:List ByteArray) ([]:List Int)).bind fun ap=>(some (decide (ap>10)))) else (none))) else (none))) else (none))) else (none)) else (none)) else (none)) else (none)) else (none)) else (none)) else (none)) else (none)))) else (none))=some r:=H
 have A8:=aK A80
 clear A80
 by_cases c9:aE=true
 rotate_left
 ·replace c9:=Bool.eq_false_iff.mpr c9
  subst c9
  have H1:(none)=some r:=by rw [if_neg (show ¬ (false=true) by decide)] at H;exact H
  clear H
  have H:=H1
  clear H1
  exact absurd H (by simp)
 subst c9
 have H1:((node_May.f k false ([]:List (S62)) ([]:List ByteArray) ([]:List Int)).bind fun aA=>(if aA=true then (none) else (if aW=0 then (if bc=0 then (if (al.length:Int)=256 then (if 0<(al.length:Int) then (if (rd al 0)=1 then (if bk=0 then (if (aG.length:Int)=2 then (if bp=8 then ((node_Kid.f k false ([]:List (S62)) ac ab (⟨#[107]⟩:ByteArray)).bind fun aw=>(if aw=1 then ((node_Kid.f k false ([]:List (S62)) ac ab (⟨#[106]⟩:ByteArray)).bind fun ar=>(if ar=0 then ((node_Kid.f k true ae ([]:List ByteArray) ([]:List Int) (⟨#[106]⟩:ByteArray)).bind fun ao=>(if ao=(-1) then ((node_Size.f k true ae ([]:List ByteArray) ([]:List Int)).bind fun ap=>(some (decide (ap>10)))) else (none))) else (none))) else (none))) else (none)) else (none)) else (none)) else (none)) else (none)) else (none)) else (none)) else (none))))=some r:=by rw [if_pos rfl] at H;exact H
 clear H
 have H:=H1
 clear H1
 replace H:=oS H
 obtain⟨aA,cu,H⟩:=H
 replace H:(if aA=true then (none) else (if aW=0 then (if bc=0 then (if (al.length:Int)=256 then (if 0<(al.length:Int) then (if (rd al 0)=1 then (if bk=0 then (if (aG.length:Int)=2 then (if bp=8 then ((node_Kid.f k false ([]:List (S62)) ac ab (⟨#[107]⟩:ByteArray)).bind fun aw=>(if aw=1 then ((node_Kid.f k false ([]:List (S62)) ac ab (⟨#[106]⟩:ByteArray)).bind fun ar=>(if ar=0 then ((node_Kid.f k true ae ([]:List ByteArray) ([]:List Int) (⟨#[106]⟩:ByteArray)).bind fun ao=>(if ao=(-1) then ((node_Size.f k true ae ([]:List ByteArray) ([]:List Int)).bind fun ap=>(some (decide (ap>10)))) else (none))) else (none))) else (none))) else (none)) else (none)) else (none)) else (none)) else (none)) else (none)) else (none)) else (none)))=some r:=H
 have A10:=aK cu
 clear cu
 by_cases c11:aA=true
 ·subst c11
  have H1:(none)=some r:=by rw [if_pos rfl] at H;exact H
  clear H
  have H:=H1
  clear H1
  exact absurd H (by simp)
 replace c11:=Bool.eq_false_iff.mpr c11
 subst c11
 have H1:(if aW=0 then (if bc=0 then (if (al.length:Int)=256 then (if 0<(al.length:Int) then (if (rd al 0)=1 then (if bk=0 then (if (aG.length:Int)=2 then (if bp=8 then ((node_Kid.f k false ([]:List (S62)) ac ab (⟨#[107]⟩:ByteArray)).bind fun aw=>(if aw=1 then ((node_Kid.f k false ([]:List (S62)) ac ab (⟨#[106]⟩:ByteArray)).bind fun ar=>(if ar=0 then ((node_Kid.f k true ae ([]:List ByteArray) ([]:List Int) (⟨#[106]⟩:ByteArray)).bind fun ao=>(if ao=(-1) then ((node_Size.f k true ae ([]:List ByteArray) ([]:List Int)).bind fun ap=>(some (decide (ap>10)))) else (none))) else (none))) else (none))) else (none)) else (none)) else (none)) else (none)) else (none)) else (none)) else (none)) else (none))=some r:=by rw [if_neg (show ¬ (false=true) by decide)] at H;exact H
 clear H
 have H:=H1
 clear H1
 by_cases c12:aW=0
 rotate_left
 ·rw [if_neg c12] at H
  exact absurd H (by simp)
 rw [if_pos c12] at H
 have eW:(aW == 0)=true:=beq_iff_eq.mpr c12
 have eX:(aW != 0)=false:=bne_eq_false_iff_eq.mpr c12
 clear c12
 by_cases c13:bc=0
 rotate_left
 ·rw [if_neg c13] at H
  exact absurd H (by simp)
 rw [if_pos c13] at H
 have eY:(bc == 0)=true:=beq_iff_eq.mpr c13
 have eZ:(bc != 0)=false:=bne_eq_false_iff_eq.mpr c13
 clear c13
 by_cases c14:(al.length:Int)=256
 rotate_left
 ·rw [if_neg c14] at H
  exact absurd H (by simp)
 rw [if_pos c14] at H
 have e8:((al.length:Int) == 256)=true:=beq_iff_eq.mpr c14
 have e9:((al.length:Int) != 256)=false:=bne_eq_false_iff_eq.mpr c14
 clear c14
 by_cases c15:0<(al.length:Int)
 rotate_left
 ·rw [if_neg c15] at H
  exact absurd H (by simp)
 rw [if_pos c15] at H
 have fa:decide (0<(al.length:Int))=true:=decide_eq_true c15
 have fb:decide (0<al.length)=true:=decide_eq_true (by omega)
 clear c15
 by_cases c16:(rd al 0)=1
 rotate_left
 ·rw [if_neg c16] at H
  exact absurd H (by simp)
 rw [if_pos c16] at H
 have fd:((rd al 0) == 1)=true:=beq_iff_eq.mpr c16
 have fe:((rd al 0) != 1)=false:=bne_eq_false_iff_eq.mpr c16
 clear c16
 by_cases c17:bk=0
 rotate_left
 ·rw [if_neg c17] at H
  exact absurd H (by simp)
 rw [if_pos c17] at H
 have ff:(bk == 0)=true:=beq_iff_eq.mpr c17
 have fg:(bk != 0)=false:=bne_eq_false_iff_eq.mpr c17
 clear c17
 by_cases c18:(aG.length:Int)=2
 rotate_left
 ·rw [if_neg c18] at H
  exact absurd H (by simp)
 rw [if_pos c18] at H
 have fh:((aG.length:Int) == 2)=true:=beq_iff_eq.mpr c18
 have fi:((aG.length:Int) != 2)=false:=bne_eq_false_iff_eq.mpr c18
 clear c18
 by_cases c19:bp=8
 rotate_left
 ·rw [if_neg c19] at H
  exact absurd H (by simp)
 rw [if_pos c19] at H
 have fj:(bp == 8)=true:=beq_iff_eq.mpr c19
 have fk:(bp != 8)=false:=bne_eq_false_iff_eq.mpr c19
 clear c19
 replace H:=oS H
 obtain⟨aw,cv,H⟩:=H
 replace H:(if aw=1 then ((node_Kid.f k false ([]:List (S62)) ac ab (⟨#[106]⟩:ByteArray)).bind fun ar=>(if ar=0 then ((node_Kid.f k true ae ([]:List ByteArray) ([]:List Int) (⟨#[106]⟩:ByteArray)).bind fun ao=>(if ao=(-1) then ((node_Size.f k true ae ([]:List ByteArray) ([]:List Int)).bind fun ap=>(some (decide (ap>10)))) else (none))) else (none))) else (none))=some r:=H
 have A20:=aK cv
 clear cv
 by_cases c21:aw=1
 rotate_left
 ·rw [if_neg c21] at H
  exact absurd H (by simp)
 rw [if_pos c21] at H
 have fl:(aw == 1)=true:=beq_iff_eq.mpr c21
 have fm:(aw != 1)=false:=bne_eq_false_iff_eq.mpr c21
 clear c21
 replace H:=oS H
 obtain⟨ar,cw,H⟩:=H
 replace H:(if ar=0 then ((node_Kid.f k true ae ([]:List ByteArray) ([]:List Int) (⟨#[106]⟩:ByteArray)).bind fun ao=>(if ao=(-1) then ((node_Size.f k true ae ([]:List ByteArray) ([]:List Int)).bind fun ap=>(some (decide (ap>10)))) else (none))) else (none))=some r:=H
 have A22:=aK cw
 clear cw
 by_cases c23:ar=0
 rotate_left
 ·rw [if_neg c23] at H
  exact absurd H (by simp)
 rw [if_pos c23] at H
 have fp:(ar == 0)=true:=beq_iff_eq.mpr c23
 have fq:(ar != 0)=false:=bne_eq_false_iff_eq.mpr c23
 clear c23
 replace H:=oS H
 obtain⟨ao,cx,H⟩:=H
 replace H:(if ao=(-1) then ((node_Size.f k true ae ([]:List ByteArray) ([]:List Int)).bind fun ap=>(some (decide (ap>10)))) else (none))=some r:=H
 have A24:=aK cx
 clear cx
 by_cases c25:ao=(-1)
 rotate_left
 ·rw [if_neg c25] at H
  exact absurd H (by simp)
 rw [if_pos c25] at H
 have ft:(ao == (-1))=true:=beq_iff_eq.mpr c25
 have fu:(ao != (-1))=false:=bne_eq_false_iff_eq.mpr c25
 clear c25
 replace H:=oS H
 obtain⟨ap,cz,H⟩:=H
 replace H:(some (decide (ap>10)))=some r:=H
 have A26:=aK cz
 clear cz
 obtain rfl:=Option.some.inj H
 go_enter Try.func11,Try.ntmps11
 go_wp2_with (first|((with_reducible refine gate_dst (N:=13) rfl ?_);(try (refine gate_guard (by rfl) ?_;dsimp only));refine Kd.R_lit k62 _ 62 ?hg (N:=13) ?hd (xs:=([(⟨(⟨#[97]⟩:ByteArray),(⟨1,4607182418800017408,(⟨#[]⟩:ByteArray)⟩:S54),0,(⟨0,0,(⟨#[]⟩:ByteArray)⟩:S54)⟩:S62)]:List (S62))) (inner:=[.string (⟨#[97]⟩:ByteArray),.int .i64 1,.float .f64 4607182418800017408,.string (⟨#[]⟩:ByteArray),.int .i64 0,.int .i64 0,.float .f64 0,.string (⟨#[]⟩:ByteArray)]) (ok:=fun _=>True) (okp:=fun _=>True) ?hr ?hp (fun _ hk=>hk) trivial (Below.refl _ _) (Nat.le_refl _) (by simp) ?_;(case hd=>rfl);(case hg=>rfl);(case hr=>first|(go_simp;done)|(go_simp;rfl));(case hp=>exact (Reps.c8 (show Kd.M k62 _ _ _ (⟨(⟨#[97]⟩:ByteArray),(⟨1,4607182418800017408,(⟨#[]⟩:ByteArray)⟩:S54),0,(⟨0,0,(⟨#[]⟩:ByteArray)⟩:S54)⟩:S62) [.string (⟨#[97]⟩:ByteArray),.int .i64 1,.float .f64 4607182418800017408,.string (⟨#[]⟩:ByteArray),.int .i64 0,.int .i64 0,.float .f64 0,.string (⟨#[]⟩:ByteArray)] from (k62_mkM _ _ _ (⟨(⟨#[97]⟩:ByteArray),(⟨1,4607182418800017408,(⟨#[]⟩:ByteArray)⟩:S54),0,(⟨0,0,(⟨#[]⟩:ByteArray)⟩:S54)⟩:S62) )) (Reps.none _ _)));intro fI w27 bM hb hg_ hnew_;clear hg_ hnew_;(first|rw [← Ny285.out] at bM|(simp only [Int.reduceToNat] at bM;rw [← Ny285.out] at bM));have af:=aK (Kd.R_lower bM (below_size (bC HB)));replace HB:=bW HB hb;clear hb bM;obtain⟨bJ,bD,cA⟩:=Kd.R_slice af.out;subst cA)|((with_reducible refine gate_dst (N:=1) rfl ?_);(try (refine gate_guard (by rfl) ?_;dsimp only));refine box_event ?hg (N:=1) ?hd (cs:=#[.bool false,.slice none 0 0,.slice none 0 0,.slice none 0 0]) (t:=36) ?hr ?_;(case hd=>rfl);(case hg=>rfl);(case hr=>first|(go_simp;done)|(go_simp;rfl));intro bI hg w30 hbox hb;have ag:=aK (hbox);have fv:=bZ HB hg;have fw:=bZ HB hg;replace af:=rB af hb;replace HB:=bW HB hb;clear hb hbox hg;obtain⟨cQ,cR,cS,cT,cU,cV,cX,cY⟩:=bf4 (w:=w30) ag)|((with_reducible refine gate_dst (N:=15) rfl ?_);(try (refine gate_guard (by rfl) ?_;dsimp only));refine Kd.R_lit Kd.string _ 9 ?hg (N:=15) ?hd (xs:=([(⟨#[107]⟩:ByteArray)]:List ByteArray)) (inner:=[.string (⟨#[107]⟩:ByteArray)]) (ok:=fun _=>True) (okp:=fun _=>True) ?hr ?hp (fun _ hk=>hk) trivial (Below.refl _ _) (Nat.le_refl _) (by simp) ?_;(case hd=>rfl);(case hg=>rfl);(case hr=>first|(go_simp;done)|(go_simp;rfl));(case hp=>exact (Reps.one (show Kd.M Kd.string _ _ _ (⟨#[107]⟩:ByteArray) [.string (⟨#[107]⟩:ByteArray)] from rfl) (Reps.none _ _)));intro fJ w32 bN hb hg_ hnew_;clear hg_ hnew_;(first|rw [← Ny289.out] at bN|(simp only [Int.reduceToNat] at bN;rw [← Ny289.out] at bN));have ah:=aK (Kd.R_lower bN (below_size (bC HB)));replace af:=aK (Kd.R_below (by (with_reducible repeat (first|apply Kd.R_alloc|apply Kd.R_drewN|apply Kd.R_drew));exact (Kd.R_mono (Kd.R_far (p:=⟨bI,3,none⟩) (Kd.R_far (p:=⟨bI,2,none⟩) (Kd.R_far (p:=⟨bI,1,none⟩) (Kd.R_far (p:=⟨bI,0,none⟩) (Kd.R_types af.out ag.out (by decide)) (fun _ hk=>hk.2) (.bool true)) (fun _ hk=>hk.2) (.slice bJ ae.length bD)) (fun _ hk=>hk.2) (.slice none 0 0)) (fun _ hk=>hk.2) (.slice none 0 0)) (fun _ h_=>h_.1))) hb);replace ag:=aK (blk_below (g:=bI) (o:=.cells #[.bool true,.slice bJ ae.length bD,.slice none 0 0,.slice none 0 0] 36 (0,0)) (bR ag) hb);replace HB:=bW HB hb;clear hb bN)|((with_reducible refine gate_dst (N:=16) rfl ?_);(try (refine gate_guard (by rfl) ?_;dsimp only));refine Kd.R_lit (Kd.int .i64) _ 3 ?hg (N:=16) ?hd (xs:=([2,3]:List Int)) (inner:=[.int .i64 2,.int .i64 3]) (ok:=fun _=>True) (okp:=fun _=>True) ?hr ?hp (fun _ hk=>hk) trivial (Below.refl _ _) (Nat.le_refl _) (by simp) ?_;(case hd=>rfl);(case hg=>rfl);(case hr=>first|(go_simp;done)|(go_simp;rfl));(case hp=>exact (Reps.one (show Kd.M (Kd.int .i64) _ _ _ 2 [.int .i64 2] from rfl) (Reps.one (show Kd.M (Kd.int .i64) _ _ _ 3 [.int .i64 3] from rfl) (Reps.none _ _))));intro fK w34 bO hb hg_ hnew_;clear hg_ hnew_;(first|rw [← Ny292.out] at bO|(simp only [Int.reduceToNat] at bO;rw [← Ny292.out] at bO));have ai:=aK (Kd.R_lower bO (below_size (bC HB)));replace af:=rB af hb;replace ah:=rB ah hb;replace ag:=bB ag hb;replace HB:=bW HB hb;clear hb bO;obtain⟨bv,bw,cB⟩:=Kd.R_slice ai.out;subst cB;obtain⟨bx,bA,cC⟩:=Kd.R_slice ah.out;subst cC)|((with_reducible refine gate_dst (N:=2) rfl ?_);(try (refine gate_guard (by rfl) ?_;dsimp only));refine box_event ?hg (N:=2) ?hd (cs:=#[.bool false,.slice none 0 0,.slice none 0 0,.slice none 0 0]) (t:=36) ?hr ?_;(case hd=>rfl);(case hg=>rfl);(case hr=>first|(go_simp;done)|(go_simp;rfl));intro aI hg w38 hbox hb;have aj:=aK (hbox);have fz:=bZ HB hg;have fA:=bZ HB hg;have bY:=bL ag hg;have b8:=bG ag hg;replace af:=rB af hb;replace ah:=rB ah hb;replace ai:=rB ai hb;replace ag:=bB ag hb;replace HB:=bW HB hb;clear hb hbox hg;have hnb39:=b8.out;have hnc39:=bY.out;obtain⟨cZ,da,db,dc,dd,de,df,dg⟩:=bf4 (w:=w38) aj;obtain⟨dh,di,dj,dk,dl,dm,dn,dp⟩:=bf4 (w:=w38) ag)|(go_at_call 19;refine calls_of_args (args':=#[.agg #[.bool true,.slice bJ ae.length bD,.slice none ([]:List ByteArray).length 0,.slice none ([]:List Int).length 0]]) (by first|rfl|((try simp only [List.map_toArray,List.map_cons,List.map_nil]);rfl)) ?_;(with_reducible refine (node_Encode.calls k true _ _ ae _ _ ([]:List ByteArray) _ _ ([]:List Int) al aW _ ?side1 ?side2 ?side3 ?side4 ?side5 ?side6 A1.out).mono ?_);(case side1=>refine (Kd.R_reads' (e:=62) (base:=w.heap.size) (ok:=fun k_=>True) (n:=ae.length) (c:=bD) ?_).2.2;exact (by (with_reducible repeat (first|apply Kd.R_alloc|apply Kd.R_drewN|apply Kd.R_drew));exact (Kd.R_mono (Kd.R_far (p:=⟨aI,3,none⟩) (Kd.R_far (p:=⟨aI,2,none⟩) (Kd.R_far (p:=⟨aI,1,none⟩) (Kd.R_far (p:=⟨aI,0,none⟩) (Kd.R_types af.out aj.out (by decide)) (fun _ hk=>hk.2) (.bool false)) (fun _ hk=>hk.2) (.slice none 0 0)) (fun _ hk=>hk.2) (.slice bx ac.length bA)) (fun _ hk=>hk.2) (.slice bv ab.length bw)) (fun _ h_=>h_.1))));(case side2=>exact (Kd.R_reads' af.out).2.1);(case side3=>exact Kd.C_nil _ _);(case side4=>exact Nat.le_refl _);(case side5=>exact Kd.C_nil _ _);(case side6=>exact Nat.le_refl _);rintro e w42 ⟨fL,rfl,ho0,hb⟩;have aq:=aK (Kd.R_lower ho0 (below_size (bC HB)));replace af:=aK (Kd.R_below (by (with_reducible repeat (first|apply Kd.R_alloc|apply Kd.R_drewN|apply Kd.R_drew));exact (Kd.R_mono (Kd.R_far (p:=⟨aI,3,none⟩) (Kd.R_far (p:=⟨aI,2,none⟩) (Kd.R_far (p:=⟨aI,1,none⟩) (Kd.R_far (p:=⟨aI,0,none⟩) (Kd.R_types af.out aj.out (by decide)) (fun _ hk=>hk.2) (.bool false)) (fun _ hk=>hk.2) (.slice none 0 0)) (fun _ hk=>hk.2) (.slice bx ac.length bA)) (fun _ hk=>hk.2) (.slice bv ab.length bw)) (fun _ h_=>h_.1))) hb);replace ah:=aK (Kd.R_below (by (with_reducible repeat (first|apply Kd.R_alloc|apply Kd.R_drewN|apply Kd.R_drew));exact (Kd.R_mono (Kd.R_far (p:=⟨aI,3,none⟩) (Kd.R_far (p:=⟨aI,2,none⟩) (Kd.R_far (p:=⟨aI,1,none⟩) (Kd.R_far (p:=⟨aI,0,none⟩) (Kd.R_types ah.out aj.out (by decide)) (fun _ hk=>hk.2) (.bool false)) (fun _ hk=>hk.2) (.slice none 0 0)) (fun _ hk=>hk.2) (.slice bx ac.length bA)) (fun _ hk=>hk.2) (.slice bv ab.length bw)) (fun _ h_=>h_.1))) hb);replace ai:=aK (Kd.R_below (by (with_reducible repeat (first|apply Kd.R_alloc|apply Kd.R_drewN|apply Kd.R_drew));exact (Kd.R_mono (Kd.R_far (p:=⟨aI,3,none⟩) (Kd.R_far (p:=⟨aI,2,none⟩) (Kd.R_far (p:=⟨aI,1,none⟩) (Kd.R_far (p:=⟨aI,0,none⟩) (Kd.R_types ai.out aj.out (by decide)) (fun _ hk=>hk.2) (.bool false)) (fun _ hk=>hk.2) (.slice none 0 0)) (fun _ hk=>hk.2) (.slice bx ac.length bA)) (fun _ hk=>hk.2) (.slice bv ab.length bw)) (fun _ h_=>h_.1))) hb);replace ag:=bB ag hb;replace aj:=aK (blk_below (g:=aI) (o:=.cells #[.bool false,.slice none 0 0,.slice bx ac.length bA,.slice bv ab.length bw] 36 (0,0)) (bR aj) hb);replace HB:=bW HB hb;(try clear hb);(try clear hb2);(try clear hk);(try clear hi);(try clear ho0);obtain⟨dq,dr,dt,du,dv,dw,dx,dy⟩:=bf4 (w:=w42) aj)|(go_at_call 19;refine calls_of_args (args':=#[.agg #[.bool false,.slice none ([]:List (S62)).length 0,.slice bx ac.length bA,.slice bv ab.length bw]]) (by first|rfl|((try simp only [List.map_toArray,List.map_cons,List.map_nil]);rfl)) ?_;(with_reducible refine (node_Encode.calls k false _ _ ([]:List (S62)) _ _ ac _ _ ab bX bc _ ?side1 ?side2 ?side3 ?side4 ?side5 ?side6 A2.out).mono ?_);(case side1=>exact Kd.C_nil _ _);(case side2=>exact Nat.le_refl _);(case side3=>exact sC (Kd.R_reads' ah.out).2.2);(case side4=>exact (Kd.R_reads' ah.out).2.1);(case side5=>exact sC (Kd.R_reads' ai.out).2.2);(case side6=>exact (Kd.R_reads' ai.out).2.1);rintro e w44 ⟨fM,rfl,ho0,hb⟩;have au:=aK (Kd.R_lower (Kd.R_new' ho0 (Kd.R_lt (by (with_reducible repeat (first|apply Kd.R_alloc|apply Kd.R_drewN|apply Kd.R_drew));exact aq.out))) (below_size (bC HB)));replace af:=rB af hb;replace ah:=rB ah hb;replace ai:=rB ai hb;replace aq:=rE aq (Kd.R_base ho0) hb;replace ag:=bB ag hb;replace aj:=bB aj hb;replace HB:=bW HB hb;(try clear hb);(try clear hb2);(try clear hk);(try clear hi);(try clear ho0);obtain⟨cD,cE,cF⟩:=Kd.R_slice au.out;subst cF)|((with_reducible refine gate_callee (f:=21) rfl ?_);refine gL (some 30) Try.func21 #[.slice cD bX.length cE] ?_;(with_reducible refine (node_Decode.calls k _ _ bX bl bj bm aG bk _ ?side1 ?side2 A3.out).mono ?_);(case side1=>exact sC (Kd.R_reads' au.out).2.2);(case side2=>exact (Kd.R_reads' au.out).2.1);rintro e w46 ⟨fN,fO,fP,rfl,ho0,ho1,ho2,hb⟩;refine⟨_,rfl,?_⟩;have ax:=aK (Kd.R_lower (Kd.R_new' ho0 (Kd.R_lt (by (with_reducible repeat (first|apply Kd.R_alloc|apply Kd.R_drewN|apply Kd.R_drew));exact af.out))) (below_size (bC HB)));have ay:=aK (Kd.R_lower (Kd.R_new' ho1 (Kd.R_lt (by (with_reducible repeat (first|apply Kd.R_alloc|apply Kd.R_drewN|apply Kd.R_drew));exact ah.out))) (below_size (bC HB)));have az:=aK (Kd.R_lower (Kd.R_new' ho2 (Kd.R_lt (by (with_reducible repeat (first|apply Kd.R_alloc|apply Kd.R_drewN|apply Kd.R_drew));exact ai.out))) (below_size (bC HB)));replace af:=rE af (Kd.R_base ho0) hb;replace ah:=rE ah (Kd.R_base ho1) hb;replace ai:=rE ai (Kd.R_base ho2) hb;replace aq:=rB aq hb;replace au:=rB au hb;replace ag:=bB ag hb;replace aj:=bB aj hb;replace HB:=bW HB hb;(try clear hb);(try clear hb2);(try clear hk);(try clear hi);(try clear ho0);(try clear ho1);(try clear ho2))|((with_reducible refine gate_dst (N:=7) rfl ?_);(try (refine gate_guard (by rfl) ?_;dsimp only));refine box_event ?hg (N:=7) ?hd (cs:=#[.bool false,.slice none 0 0,.slice none 0 0,.slice none 0 0]) (t:=36) ?hr ?_;(case hd=>rfl);(case hg=>rfl);(case hr=>first|(go_simp;done)|(go_simp;rfl));intro ak hg w47 hbox hb;have am:=aK (hbox);have fB:=bZ HB hg;have fC:=bZ HB hg;have b9:=bL ag hg;have ca:=bG ag hg;have cb:=bL aj hg;have cd:=bG aj hg;replace af:=rB af hb;replace ah:=rB ah hb;replace ai:=rB ai hb;replace aq:=rB aq hb;replace au:=rB au hb;replace ax:=rB ax hb;replace ay:=rB ay hb;replace az:=rB az hb;replace ag:=bB ag hb;replace aj:=bB aj hb;replace HB:=bW HB hb;clear hb hbox hg;have hnb48:=ca.out;have hnc48:=b9.out;have hnb49:=cd.out;have hnc49:=cb.out;obtain⟨dz,dB,dC,dD,dE,dF,dG,dH⟩:=bf4 (w:=w47) am;obtain⟨bn,bo,cG⟩:=Kd.R_slice ax.out;subst cG;obtain⟨bq,br,cH⟩:=Kd.R_slice ay.out;subst cH;obtain⟨bs,bu,cI⟩:=Kd.R_slice az.out;subst cI)|((with_reducible refine gate_dst (N:=34) rfl ?_);(try (refine gate_guard (by rfl) ?_;dsimp only));refine Kd.R_make (Kd.int .u8) _ 5 rfl (N:=34) rfl 30 _ _ rfl 256 rfl rfl Try.underlying30 (.int .u8 0) 1 info5 rfl (by decide) (by omega) 0 (ok:=fun _=>True) (okp:=fun _=>True) rfl (fun _ hk=>hk) trivial (by omega) (by omega) (Below.refl _ _) (Nat.le_refl _) ?_;intro fQ w54 bF hb hg_ hnew_;clear hg_ hnew_;(first|rw [← Ny316.out] at bF|(simp only [Int.reduceToNat] at bF;rw [← Ny316.out] at bF));have aC:=aK (Kd.R_lower (Kd.R_new' (Kd.R_new' bF (Kd.R_lt (by (with_reducible repeat (first|apply Kd.R_alloc|apply Kd.R_drewN|apply Kd.R_drew));exact (Kd.R_mono (Kd.R_far (p:=⟨ak,3,none⟩) (Kd.R_far (p:=⟨ak,2,none⟩) (Kd.R_far (p:=⟨ak,1,none⟩) (Kd.R_far (p:=⟨ak,0,none⟩) (Kd.R_types aq.out am.out (by decide)) (fun _ hk=>hk.2) (.bool bl)) (fun _ hk=>hk.2) (.slice bn bj.length bo)) (fun _ hk=>hk.2) (.slice bq bm.length br)) (fun _ hk=>hk.2) (.slice bs aG.length bu)) (fun _ h_=>h_.1))))) (Kd.R_lt (by (with_reducible repeat (first|apply Kd.R_alloc|apply Kd.R_drewN|apply Kd.R_drew));exact (Kd.R_mono (Kd.R_far (p:=⟨ak,3,none⟩) (Kd.R_far (p:=⟨ak,2,none⟩) (Kd.R_far (p:=⟨ak,1,none⟩) (Kd.R_far (p:=⟨ak,0,none⟩) (Kd.R_types au.out am.out (by decide)) (fun _ hk=>hk.2) (.bool bl)) (fun _ hk=>hk.2) (.slice bn bj.length bo)) (fun _ hk=>hk.2) (.slice bq bm.length br)) (fun _ hk=>hk.2) (.slice bs aG.length bu)) (fun _ h_=>h_.1))))) (below_size (bC HB)));replace af:=aK (Kd.R_below (by (with_reducible repeat (first|apply Kd.R_alloc|apply Kd.R_drewN|apply Kd.R_drew));exact (Kd.R_mono (Kd.R_far (p:=⟨ak,3,none⟩) (Kd.R_far (p:=⟨ak,2,none⟩) (Kd.R_far (p:=⟨ak,1,none⟩) (Kd.R_far (p:=⟨ak,0,none⟩) (Kd.R_types af.out am.out (by decide)) (fun _ hk=>hk.2) (.bool bl)) (fun _ hk=>hk.2) (.slice bn bj.length bo)) (fun _ hk=>hk.2) (.slice bq bm.length br)) (fun _ hk=>hk.2) (.slice bs aG.length bu)) (fun _ h_=>h_.1))) hb);replace ah:=aK (Kd.R_below (by (with_reducible repeat (first|apply Kd.R_alloc|apply Kd.R_drewN|apply Kd.R_drew));exact (Kd.R_mono (Kd.R_far (p:=⟨ak,3,none⟩) (Kd.R_far (p:=⟨ak,2,none⟩) (Kd.R_far (p:=⟨ak,1,none⟩) (Kd.R_far (p:=⟨ak,0,none⟩) (Kd.R_types ah.out am.out (by decide)) (fun _ hk=>hk.2) (.bool bl)) (fun _ hk=>hk.2) (.slice bn bj.length bo)) (fun _ hk=>hk.2) (.slice bq bm.length br)) (fun _ hk=>hk.2) (.slice bs aG.length bu)) (fun _ h_=>h_.1))) hb);replace ai:=aK (Kd.R_below (by (with_reducible repeat (first|apply Kd.R_alloc|apply Kd.R_drewN|apply Kd.R_drew));exact (Kd.R_mono (Kd.R_far (p:=⟨ak,3,none⟩) (Kd.R_far (p:=⟨ak,2,none⟩) (Kd.R_far (p:=⟨ak,1,none⟩) (Kd.R_far (p:=⟨ak,0,none⟩) (Kd.R_types ai.out am.out (by decide)) (fun _ hk=>hk.2) (.bool bl)) (fun _ hk=>hk.2) (.slice bn bj.length bo)) (fun _ hk=>hk.2) (.slice bq bm.length br)) (fun _ hk=>hk.2) (.slice bs aG.length bu)) (fun _ h_=>h_.1))) hb);replace aq:=aK (Kd.R_elder' (by (with_reducible repeat (first|apply Kd.R_alloc|apply Kd.R_drewN|apply Kd.R_drew));exact (Kd.R_mono (Kd.R_far (p:=⟨ak,3,none⟩) (Kd.R_far (p:=⟨ak,2,none⟩) (Kd.R_far (p:=⟨ak,1,none⟩) (Kd.R_far (p:=⟨ak,0,none⟩) (Kd.R_types aq.out am.out (by decide)) (fun _ hk=>hk.2) (.bool bl)) (fun _ hk=>hk.2) (.slice bn bj.length bo)) (fun _ hk=>hk.2) (.slice bq bm.length br)) (fun _ hk=>hk.2) (.slice bs aG.length bu)) (fun _ h_=>h_.1))) (Kd.R_base bF) hb);replace au:=aK (Kd.R_elder' (by (with_reducible repeat (first|apply Kd.R_alloc|apply Kd.R_drewN|apply Kd.R_drew));exact (Kd.R_mono (Kd.R_far (p:=⟨ak,3,none⟩) (Kd.R_far (p:=⟨ak,2,none⟩) (Kd.R_far (p:=⟨ak,1,none⟩) (Kd.R_far (p:=⟨ak,0,none⟩) (Kd.R_types au.out am.out (by decide)) (fun _ hk=>hk.2) (.bool bl)) (fun _ hk=>hk.2) (.slice bn bj.length bo)) (fun _ hk=>hk.2) (.slice bq bm.length br)) (fun _ hk=>hk.2) (.slice bs aG.length bu)) (fun _ h_=>h_.1))) (Kd.R_base bF) hb);replace ax:=aK (Kd.R_below (by (with_reducible repeat (first|apply Kd.R_alloc|apply Kd.R_drewN|apply Kd.R_drew));exact (Kd.R_mono (Kd.R_far (p:=⟨ak,3,none⟩) (Kd.R_far (p:=⟨ak,2,none⟩) (Kd.R_far (p:=⟨ak,1,none⟩) (Kd.R_far (p:=⟨ak,0,none⟩) (Kd.R_types ax.out am.out (by decide)) (fun _ hk=>hk.2) (.bool bl)) (fun _ hk=>hk.2) (.slice bn bj.length bo)) (fun _ hk=>hk.2) (.slice bq bm.length br)) (fun _ hk=>hk.2) (.slice bs aG.length bu)) (fun _ h_=>h_.1))) hb);replace ay:=aK (Kd.R_below (by (with_reducible repeat (first|apply Kd.R_alloc|apply Kd.R_drewN|apply Kd.R_drew));exact (Kd.R_mono (Kd.R_far (p:=⟨ak,3,none⟩) (Kd.R_far (p:=⟨ak,2,none⟩) (Kd.R_far (p:=⟨ak,1,none⟩) (Kd.R_far (p:=⟨ak,0,none⟩) (Kd.R_types ay.out am.out (by decide)) (fun _ hk=>hk.2) (.bool bl)) (fun _ hk=>hk.2) (.slice bn bj.length bo)) (fun _ hk=>hk.2) (.slice bq bm.length br)) (fun _ hk=>hk.2) (.slice bs aG.length bu)) (fun _ h_=>h_.1))) hb);replace az:=aK (Kd.R_below (by (with_reducible repeat (first|apply Kd.R_alloc|apply Kd.R_drewN|apply Kd.R_drew));exact (Kd.R_mono (Kd.R_far (p:=⟨ak,3,none⟩) (Kd.R_far (p:=⟨ak,2,none⟩) (Kd.R_far (p:=⟨ak,1,none⟩) (Kd.R_far (p:=⟨ak,0,none⟩) (Kd.R_types az.out am.out (by decide)) (fun _ hk=>hk.2) (.bool bl)) (fun _ hk=>hk.2) (.slice bn bj.length bo)) (fun _ hk=>hk.2) (.slice bq bm.length br)) (fun _ hk=>hk.2) (.slice bs aG.length bu)) (fun _ h_=>h_.1))) hb);replace ag:=bB ag hb;replace aj:=bB aj hb;replace am:=aK (blk_below (g:=ak) (o:=.cells #[.bool bl,.slice bn bj.length bo,.slice bq bm.length br,.slice bs aG.length bu] 36 (0,0)) (bR am) hb);replace HB:=bW HB hb;clear hb bF;obtain⟨cJ,cK,cL⟩:=Kd.R_slice aC.out;subst cL)|((with_reducible refine gate_callee (f:=21) rfl ?_);refine gL (some 35) Try.func21 #[.slice cJ cp.length cK] ?_;(with_reducible refine (node_Decode.calls k _ _ cp aX aV aY aZ bp _ ?side1 ?side2 A5.out).mono ?_);(case side1=>exact sC (Kd.R_reads' aC.out).2.2);(case side2=>exact (Kd.R_reads' aC.out).2.1);rintro e w57 ⟨fR,fS,fT,rfl,ho0,ho1,ho2,hb⟩;refine⟨_,rfl,?_⟩;have aJ:=aK (Kd.R_lower (Kd.R_new' (Kd.R_new' ho0 (Kd.R_lt (by (with_reducible repeat (first|apply Kd.R_alloc|apply Kd.R_drewN|apply Kd.R_drew));exact af.out))) (Kd.R_lt (by (with_reducible repeat (first|apply Kd.R_alloc|apply Kd.R_drewN|apply Kd.R_drew));exact ax.out))) (below_size (bC HB)));have aM:=aK (Kd.R_lower (Kd.R_new' (Kd.R_new' ho1 (Kd.R_lt (by (with_reducible repeat (first|apply Kd.R_alloc|apply Kd.R_drewN|apply Kd.R_drew));exact ah.out))) (Kd.R_lt (by (with_reducible repeat (first|apply Kd.R_alloc|apply Kd.R_drewN|apply Kd.R_drew));exact ay.out))) (below_size (bC HB)));have aN:=aK (Kd.R_lower (Kd.R_new' (Kd.R_new' ho2 (Kd.R_lt (by (with_reducible repeat (first|apply Kd.R_alloc|apply Kd.R_drewN|apply Kd.R_drew));exact ai.out))) (Kd.R_lt (by (with_reducible repeat (first|apply Kd.R_alloc|apply Kd.R_drewN|apply Kd.R_drew));exact az.out))) (below_size (bC HB)));replace af:=rE af (Kd.R_base ho0) hb;replace ah:=rE ah (Kd.R_base ho1) hb;replace ai:=rE ai (Kd.R_base ho2) hb;replace aq:=rB aq hb;replace au:=rB au hb;replace ax:=rE ax (Kd.R_base ho0) hb;replace ay:=rE ay (Kd.R_base ho1) hb;replace az:=rE az (Kd.R_base ho2) hb;replace aC:=rB aC hb;replace ag:=bB ag hb;replace aj:=bB aj hb;replace am:=bB am hb;replace HB:=bW HB hb;(try clear hb);(try clear hb2);(try clear hk);(try clear hi);(try clear ho0);(try clear ho1);(try clear ho2))|((with_reducible refine gate_dst (N:=9) rfl ?_);(try (refine gate_guard (by rfl) ?_;dsimp only));refine box_event ?hg (N:=9) ?hd (cs:=#[.bool false,.slice none 0 0,.slice none 0 0,.slice none 0 0]) (t:=36) ?hr ?_;(case hd=>rfl);(case hg=>rfl);(case hr=>first|(go_simp;done)|(go_simp;rfl));intro aa hg w58 hbox hb;have av:=aK (hbox);have fD:=bZ HB hg;have fE:=bZ HB hg;have cf:=bL ag hg;have cg:=bG ag hg;have ch:=bL aj hg;have cj:=bG aj hg;have cm:=bL am hg;have cn:=bG am hg;replace af:=rB af hb;replace ah:=rB ah hb;replace ai:=rB ai hb;replace aq:=rB aq hb;replace au:=rB au hb;replace ax:=rB ax hb;replace ay:=rB ay hb;replace az:=rB az hb;replace aC:=rB aC hb;replace aJ:=rB aJ hb;replace aM:=rB aM hb;replace aN:=rB aN hb;replace ag:=bB ag hb;replace aj:=bB aj hb;replace am:=bB am hb;replace HB:=bW HB hb;clear hb hbox hg;have hnb59:=cg.out;have hnc59:=cf.out;have hnb60:=cj.out;have hnc60:=ch.out;have hnb61:=cn.out;have hnc61:=cm.out;obtain⟨dI,dJ,dK,dL,dM,dN,dO,dP⟩:=bf4 (w:=w58) av;obtain⟨ba,bb,cM⟩:=Kd.R_slice aJ.out;subst cM;obtain⟨bf,bg,cN⟩:=Kd.R_slice aM.out;subst cN;obtain⟨bh,bi,cO⟩:=Kd.R_slice aN.out;subst cO;obtain⟨dQ,dR,dS,dT,dU,dV,dW,dX⟩:=bf4 (w:=w58) ag)|(go_at_call 16;refine calls_of_args (args':=#[.agg #[.bool true,.slice bJ ae.length bD,.slice none ([]:List ByteArray).length 0,.slice none ([]:List Int).length 0]]) (by first|rfl|((try simp only [List.map_toArray,List.map_cons,List.map_nil]);rfl)) ?_;(with_reducible refine (node_May.calls k true _ _ ae _ _ ([]:List ByteArray) _ _ ([]:List Int) true _ ?side1 ?side2 ?side3 ?side4 ?side5 ?side6 A6.out).mono ?_);(case side1=>refine (Kd.R_reads' (e:=62) (base:=w.heap.size) (ok:=fun k_=>((True∧some k_≠(.slice bn bj.length bo:Value).ownBlock)∧some k_≠(.slice ba aV.length bb:Value).ownBlock)) (n:=ae.length) (c:=bD) ?_).2.2;exact (by (with_reducible repeat (first|apply Kd.R_alloc|apply Kd.R_drewN|apply Kd.R_drew));exact (Kd.R_mono (Kd.R_far (p:=⟨aa,3,none⟩) (Kd.R_far (p:=⟨aa,2,none⟩) (Kd.R_far (p:=⟨aa,1,none⟩) (Kd.R_far (p:=⟨aa,0,none⟩) (Kd.R_types af.out av.out (by decide)) (fun _ hk=>hk.2) (.bool aX)) (fun _ hk=>hk.2) (.slice ba aV.length bb)) (fun _ hk=>hk.2) (.slice bf aY.length bg)) (fun _ hk=>hk.2) (.slice bh aZ.length bi)) (fun _ h_=>h_.1))));(case side2=>exact (Kd.R_reads' af.out).2.1);(case side3=>exact Kd.C_nil _ _);(case side4=>exact Nat.le_refl _);(case side5=>exact Kd.C_nil _ _);(case side6=>exact Nat.le_refl _);rintro e w67 ⟨rfl,hb⟩;replace af:=aK (Kd.R_below (by (with_reducible repeat (first|apply Kd.R_alloc|apply Kd.R_drewN|apply Kd.R_drew));exact (Kd.R_mono (Kd.R_far (p:=⟨aa,3,none⟩) (Kd.R_far (p:=⟨aa,2,none⟩) (Kd.R_far (p:=⟨aa,1,none⟩) (Kd.R_far (p:=⟨aa,0,none⟩) (Kd.R_types af.out av.out (by decide)) (fun _ hk=>hk.2) (.bool aX)) (fun _ hk=>hk.2) (.slice ba aV.length bb)) (fun _ hk=>hk.2) (.slice bf aY.length bg)) (fun _ hk=>hk.2) (.slice bh aZ.length bi)) (fun _ h_=>h_.1))) hb);replace ah:=aK (Kd.R_below (by (with_reducible repeat (first|apply Kd.R_alloc|apply Kd.R_drewN|apply Kd.R_drew));exact (Kd.R_mono (Kd.R_far (p:=⟨aa,3,none⟩) (Kd.R_far (p:=⟨aa,2,none⟩) (Kd.R_far (p:=⟨aa,1,none⟩) (Kd.R_far (p:=⟨aa,0,none⟩) (Kd.R_types ah.out av.out (by decide)) (fun _ hk=>hk.2) (.bool aX)) (fun _ hk=>hk.2) (.slice ba aV.length bb)) (fun _ hk=>hk.2) (.slice bf aY.length bg)) (fun _ hk=>hk.2) (.slice bh aZ.length bi)) (fun _ h_=>h_.1))) hb);replace ai:=aK (Kd.R_below (by (with_reducible repeat (first|apply Kd.R_alloc|apply Kd.R_drewN|apply Kd.R_drew));exact (Kd.R_mono (Kd.R_far (p:=⟨aa,3,none⟩) (Kd.R_far (p:=⟨aa,2,none⟩) (Kd.R_far (p:=⟨aa,1,none⟩) (Kd.R_far (p:=⟨aa,0,none⟩) (Kd.R_types ai.out av.out (by decide)) (fun _ hk=>hk.2) (.bool aX)) (fun _ hk=>hk.2) (.slice ba aV.length bb)) (fun _ hk=>hk.2) (.slice bf aY.length bg)) (fun _ hk=>hk.2) (.slice bh aZ.length bi)) (fun _ h_=>h_.1))) hb);replace aq:=aK (Kd.R_below (by (with_reducible repeat (first|apply Kd.R_alloc|apply Kd.R_drewN|apply Kd.R_drew));exact (Kd.R_mono (Kd.R_far (p:=⟨aa,3,none⟩) (Kd.R_far (p:=⟨aa,2,none⟩) (Kd.R_far (p:=⟨aa,1,none⟩) (Kd.R_far (p:=⟨aa,0,none⟩) (Kd.R_types aq.out av.out (by decide)) (fun _ hk=>hk.2) (.bool aX)) (fun _ hk=>hk.2) (.slice ba aV.length bb)) (fun _ hk=>hk.2) (.slice bf aY.length bg)) (fun _ hk=>hk.2) (.slice bh aZ.length bi)) (fun _ h_=>h_.1))) hb);replace au:=aK (Kd.R_below (by (with_reducible repeat (first|apply Kd.R_alloc|apply Kd.R_drewN|apply Kd.R_drew));exact (Kd.R_mono (Kd.R_far (p:=⟨aa,3,none⟩) (Kd.R_far (p:=⟨aa,2,none⟩) (Kd.R_far (p:=⟨aa,1,none⟩) (Kd.R_far (p:=⟨aa,0,none⟩) (Kd.R_types au.out av.out (by decide)) (fun _ hk=>hk.2) (.bool aX)) (fun _ hk=>hk.2) (.slice ba aV.length bb)) (fun _ hk=>hk.2) (.slice bf aY.length bg)) (fun _ hk=>hk.2) (.slice bh aZ.length bi)) (fun _ h_=>h_.1))) hb);replace ax:=aK (Kd.R_below (by (with_reducible repeat (first|apply Kd.R_alloc|apply Kd.R_drewN|apply Kd.R_drew));exact (Kd.R_mono (Kd.R_far (p:=⟨aa,3,none⟩) (Kd.R_far (p:=⟨aa,2,none⟩) (Kd.R_far (p:=⟨aa,1,none⟩) (Kd.R_far (p:=⟨aa,0,none⟩) (Kd.R_types ax.out av.out (by decide)) (fun _ hk=>hk.2) (.bool aX)) (fun _ hk=>hk.2) (.slice ba aV.length bb)) (fun _ hk=>hk.2) (.slice bf aY.length bg)) (fun _ hk=>hk.2) (.slice bh aZ.length bi)) (fun _ h_=>h_.1))) hb);replace ay:=aK (Kd.R_below (by (with_reducible repeat (first|apply Kd.R_alloc|apply Kd.R_drewN|apply Kd.R_drew));exact (Kd.R_mono (Kd.R_far (p:=⟨aa,3,none⟩) (Kd.R_far (p:=⟨aa,2,none⟩) (Kd.R_far (p:=⟨aa,1,none⟩) (Kd.R_far (p:=⟨aa,0,none⟩) (Kd.R_types ay.out av.out (by decide)) (fun _ hk=>hk.2) (.bool aX)) (fun _ hk=>hk.2) (.slice ba aV.length bb)) (fun _ hk=>hk.2) (.slice bf aY.length bg)) (fun _ hk=>hk.2) (.slice bh aZ.length bi)) (fun _ h_=>h_.1))) hb);replace az:=aK (Kd.R_below (by (with_reducible repeat (first|apply Kd.R_alloc|apply Kd.R_drewN|apply Kd.R_drew));exact (Kd.R_mono (Kd.R_far (p:=⟨aa,3,none⟩) (Kd.R_far (p:=⟨aa,2,none⟩) (Kd.R_far (p:=⟨aa,1,none⟩) (Kd.R_far (p:=⟨aa,0,none⟩) (Kd.R_types az.out av.out (by decide)) (fun _ hk=>hk.2) (.bool aX)) (fun _ hk=>hk.2) (.slice ba aV.length bb)) (fun _ hk=>hk.2) (.slice bf aY.length bg)) (fun _ hk=>hk.2) (.slice bh aZ.length bi)) (fun _ h_=>h_.1))) hb);replace aC:=aK (Kd.R_below (by (with_reducible repeat (first|apply Kd.R_alloc|apply Kd.R_drewN|apply Kd.R_drew));exact (Kd.R_mono (Kd.R_far (p:=⟨aa,3,none⟩) (Kd.R_far (p:=⟨aa,2,none⟩) (Kd.R_far (p:=⟨aa,1,none⟩) (Kd.R_far (p:=⟨aa,0,none⟩) (Kd.R_types aC.out av.out (by decide)) (fun _ hk=>hk.2) (.bool aX)) (fun _ hk=>hk.2) (.slice ba aV.length bb)) (fun _ hk=>hk.2) (.slice bf aY.length bg)) (fun _ hk=>hk.2) (.slice bh aZ.length bi)) (fun _ h_=>h_.1))) hb);replace aJ:=aK (Kd.R_below (by (with_reducible repeat (first|apply Kd.R_alloc|apply Kd.R_drewN|apply Kd.R_drew));exact (Kd.R_mono (Kd.R_far (p:=⟨aa,3,none⟩) (Kd.R_far (p:=⟨aa,2,none⟩) (Kd.R_far (p:=⟨aa,1,none⟩) (Kd.R_far (p:=⟨aa,0,none⟩) (Kd.R_types aJ.out av.out (by decide)) (fun _ hk=>hk.2) (.bool aX)) (fun _ hk=>hk.2) (.slice ba aV.length bb)) (fun _ hk=>hk.2) (.slice bf aY.length bg)) (fun _ hk=>hk.2) (.slice bh aZ.length bi)) (fun _ h_=>h_.1))) hb);replace aM:=aK (Kd.R_below (by (with_reducible repeat (first|apply Kd.R_alloc|apply Kd.R_drewN|apply Kd.R_drew));exact (Kd.R_mono (Kd.R_far (p:=⟨aa,3,none⟩) (Kd.R_far (p:=⟨aa,2,none⟩) (Kd.R_far (p:=⟨aa,1,none⟩) (Kd.R_far (p:=⟨aa,0,none⟩) (Kd.R_types aM.out av.out (by decide)) (fun _ hk=>hk.2) (.bool aX)) (fun _ hk=>hk.2) (.slice ba aV.length bb)) (fun _ hk=>hk.2) (.slice bf aY.length bg)) (fun _ hk=>hk.2) (.slice bh aZ.length bi)) (fun _ h_=>h_.1))) hb);replace aN:=aK (Kd.R_below (by (with_reducible repeat (first|apply Kd.R_alloc|apply Kd.R_drewN|apply Kd.R_drew));exact (Kd.R_mono (Kd.R_far (p:=⟨aa,3,none⟩) (Kd.R_far (p:=⟨aa,2,none⟩) (Kd.R_far (p:=⟨aa,1,none⟩) (Kd.R_far (p:=⟨aa,0,none⟩) (Kd.R_types aN.out av.out (by decide)) (fun _ hk=>hk.2) (.bool aX)) (fun _ hk=>hk.2) (.slice ba aV.length bb)) (fun _ hk=>hk.2) (.slice bf aY.length bg)) (fun _ hk=>hk.2) (.slice bh aZ.length bi)) (fun _ h_=>h_.1))) hb);replace ag:=bB ag hb;replace aj:=bB aj hb;replace am:=bB am hb;replace av:=aK (blk_below (g:=aa) (o:=.cells #[.bool aX,.slice ba aV.length bb,.slice bf aY.length bg,.slice bh aZ.length bi] 36 (0,0)) (bR av) hb);replace HB:=bW HB hb;(try clear hb);(try clear hb2);(try clear hk);(try clear hi);obtain⟨dY,dZ,d3,d4,d5,d6,d7,d8⟩:=bf4 (w:=w67) aj)|(go_at_call 16;refine calls_of_args (args':=#[.agg #[.bool false,.slice none ([]:List (S62)).length 0,.slice bx ac.length bA,.slice bv ab.length bw]]) (by first|rfl|((try simp only [List.map_toArray,List.map_cons,List.map_nil]);rfl)) ?_;(with_reducible refine (node_May.calls k false _ _ ([]:List (S62)) _ _ ac _ _ ab true _ ?side1 ?side2 ?side3 ?side4 ?side5 ?side6 A8.out).mono ?_);(case side1=>exact Kd.C_nil _ _);(case side2=>exact Nat.le_refl _);(case side3=>exact sC (Kd.R_reads' ah.out).2.2);(case side4=>exact (Kd.R_reads' ah.out).2.1);(case side5=>exact sC (Kd.R_reads' ai.out).2.2);(case side6=>exact (Kd.R_reads' ai.out).2.1);rintro e w69 ⟨rfl,hb⟩;replace af:=rB af hb;replace ah:=rB ah hb;replace ai:=rB ai hb;replace aq:=rB aq hb;replace au:=rB au hb;replace ax:=rB ax hb;replace ay:=rB ay hb;replace az:=rB az hb;replace aC:=rB aC hb;replace aJ:=rB aJ hb;replace aM:=rB aM hb;replace aN:=rB aN hb;replace ag:=bB ag hb;replace aj:=bB aj hb;replace am:=bB am hb;replace av:=bB av hb;replace HB:=bW HB hb;(try clear hb);(try clear hb2);(try clear hk);(try clear hi))|(go_at_call 16;refine calls_of_args (args':=#[.agg #[.bool false,.slice none ([]:List (S62)).length 0,.slice none ([]:List ByteArray).length 0,.slice none ([]:List Int).length 0]]) (by first|rfl|((try simp only [List.map_toArray,List.map_cons,List.map_nil]);rfl)) ?_;(with_reducible refine (node_May.calls k false _ _ ([]:List (S62)) _ _ ([]:List ByteArray) _ _ ([]:List Int) false _ ?side1 ?side2 ?side3 ?side4 ?side5 ?side6 A10.out).mono ?_);(case side1=>exact Kd.C_nil _ _);(case side2=>exact Nat.le_refl _);(case side3=>exact Kd.C_nil _ _);(case side4=>exact Nat.le_refl _);(case side5=>exact Kd.C_nil _ _);(case side6=>exact Nat.le_refl _);rintro e w70 ⟨rfl,hb⟩;replace af:=rB af hb;replace ah:=rB ah hb;replace ai:=rB ai hb;replace aq:=rB aq hb;replace au:=rB au hb;replace ax:=rB ax hb;replace ay:=rB ay hb;replace az:=rB az hb;replace aC:=rB aC hb;replace aJ:=rB aJ hb;replace aM:=rB aM hb;replace aN:=rB aN hb;replace ag:=bB ag hb;replace aj:=bB aj hb;replace am:=bB am hb;replace av:=bB av hb;replace HB:=bW HB hb;(try clear hb);(try clear hb2);(try clear hk);(try clear hi);obtain⟨fU,fV,cP⟩:=Kd.R_slice aq.out;subst cP;have cq:0≤(0:Int):=(by omega);have ct:0<(al.length:Int):=dA;obtain⟨fF,e334,bU⟩:=Kd.at_int (Kd.R_reads' aq.out).2.2 0 cq ct;cases e334;have qi334:(0<al.length)=True:=eq_true (by omega);(try rw [show ((0:Int)).toNat=0 from rfl] at bU);(try rw [Addr.add_zero'] at bU);replace cq:=eq_true cq;replace ct:=eq_true ct;obtain⟨d9,ed,eg,eh,ei,ej,ek,el⟩:=bf4 (w:=w70) am;obtain⟨em,ep,er,es,et,eu,ev,ex⟩:=bf4 (w:=w70) aj)|(go_at_call 20;refine calls_of_args (args':=#[.agg #[.bool false,.slice none ([]:List (S62)).length 0,.slice bx ac.length bA,.slice bv ab.length bw],.string (⟨#[107]⟩:ByteArray)]) (by first|rfl|((try simp only [List.map_toArray,List.map_cons,List.map_nil]);rfl)) ?_;(with_reducible refine (node_Kid.calls k false _ _ ([]:List (S62)) _ _ ac _ _ ab (⟨#[107]⟩:ByteArray) aw _ ?side1 ?side2 ?side3 ?side4 ?side5 ?side6 A20.out).mono ?_);(case side1=>exact Kd.C_nil _ _);(case side2=>exact Nat.le_refl _);(case side3=>exact sC (Kd.R_reads' ah.out).2.2);(case side4=>exact (Kd.R_reads' ah.out).2.1);(case side5=>exact sC (Kd.R_reads' ai.out).2.2);(case side6=>exact (Kd.R_reads' ai.out).2.1);rintro e w74 ⟨rfl,hb⟩;replace af:=rB af hb;replace ah:=rB ah hb;replace ai:=rB ai hb;replace aq:=rB aq hb;replace au:=rB au hb;replace ax:=rB ax hb;replace ay:=rB ay hb;replace az:=rB az hb;replace aC:=rB aC hb;replace aJ:=rB aJ hb;replace aM:=rB aM hb;replace aN:=rB aN hb;replace ag:=bB ag hb;replace aj:=bB aj hb;replace am:=bB am hb;replace av:=bB av hb;replace HB:=bW HB hb;(try clear hb);(try clear hb2);(try clear hk);(try clear hi);obtain⟨ey,ez,eA,eB,eC,eD,eE,eF⟩:=bf4 (w:=w74) aj)|(go_at_call 20;refine calls_of_args (args':=#[.agg #[.bool false,.slice none ([]:List (S62)).length 0,.slice bx ac.length bA,.slice bv ab.length bw],.string (⟨#[106]⟩:ByteArray)]) (by first|rfl|((try simp only [List.map_toArray,List.map_cons,List.map_nil]);rfl)) ?_;(with_reducible refine (node_Kid.calls k false _ _ ([]:List (S62)) _ _ ac _ _ ab (⟨#[106]⟩:ByteArray) ar _ ?side1 ?side2 ?side3 ?side4 ?side5 ?side6 A22.out).mono ?_);(case side1=>exact Kd.C_nil _ _);(case side2=>exact Nat.le_refl _);(case side3=>exact sC (Kd.R_reads' ah.out).2.2);(case side4=>exact (Kd.R_reads' ah.out).2.1);(case side5=>exact sC (Kd.R_reads' ai.out).2.2);(case side6=>exact (Kd.R_reads' ai.out).2.1);rintro e w76 ⟨rfl,hb⟩;replace af:=rB af hb;replace ah:=rB ah hb;replace ai:=rB ai hb;replace aq:=rB aq hb;replace au:=rB au hb;replace ax:=rB ax hb;replace ay:=rB ay hb;replace az:=rB az hb;replace aC:=rB aC hb;replace aJ:=rB aJ hb;replace aM:=rB aM hb;replace aN:=rB aN hb;replace ag:=bB ag hb;replace aj:=bB aj hb;replace am:=bB am hb;replace av:=bB av hb;replace HB:=bW HB hb;(try clear hb);(try clear hb2);(try clear hk);(try clear hi);obtain⟨eG,eH,eI,eJ,eK,eL,eM,eN⟩:=bf4 (w:=w76) ag)|(go_at_call 20;refine calls_of_args (args':=#[.agg #[.bool true,.slice bJ ae.length bD,.slice none ([]:List ByteArray).length 0,.slice none ([]:List Int).length 0],.string (⟨#[106]⟩:ByteArray)]) (by first|rfl|((try simp only [List.map_toArray,List.map_cons,List.map_nil]);rfl)) ?_;(with_reducible refine (node_Kid.calls k true _ _ ae _ _ ([]:List ByteArray) _ _ ([]:List Int) (⟨#[106]⟩:ByteArray) ao _ ?side1 ?side2 ?side3 ?side4 ?side5 ?side6 A24.out).mono ?_);(case side1=>exact sC (Kd.R_reads' af.out).2.2);(case side2=>exact (Kd.R_reads' af.out).2.1);(case side3=>exact Kd.C_nil _ _);(case side4=>exact Nat.le_refl _);(case side5=>exact Kd.C_nil _ _);(case side6=>exact Nat.le_refl _);rintro e w78 ⟨rfl,hb⟩;replace af:=rB af hb;replace ah:=rB ah hb;replace ai:=rB ai hb;replace aq:=rB aq hb;replace au:=rB au hb;replace ax:=rB ax hb;replace ay:=rB ay hb;replace az:=rB az hb;replace aC:=rB aC hb;replace aJ:=rB aJ hb;replace aM:=rB aM hb;replace aN:=rB aN hb;replace ag:=bB ag hb;replace aj:=bB aj hb;replace am:=bB am hb;replace av:=bB av hb;replace HB:=bW HB hb;(try clear hb);(try clear hb2);(try clear hk);(try clear hi);obtain⟨eO,eP,eQ,eR,eS,eT,eU,eV⟩:=bf4 (w:=w78) ag)|(go_at_call 18;refine calls_of_args (args':=#[.agg #[.bool true,.slice bJ ae.length bD,.slice none ([]:List ByteArray).length 0,.slice none ([]:List Int).length 0]]) (by first|rfl|((try simp only [List.map_toArray,List.map_cons,List.map_nil]);rfl)) ?_;(with_reducible refine (node_Size.calls k true _ _ ae _ _ ([]:List ByteArray) _ _ ([]:List Int) ap _ ?side1 ?side2 ?side3 ?side4 ?side5 ?side6 A26.out).mono ?_);(case side1=>exact sC (Kd.R_reads' af.out).2.2);(case side2=>exact (Kd.R_reads' af.out).2.1);(case side3=>exact Kd.C_nil _ _);(case side4=>exact Nat.le_refl _);(case side5=>exact Kd.C_nil _ _);(case side6=>exact Nat.le_refl _);rintro e w80 ⟨rfl,hb⟩;replace af:=rB af hb;replace ah:=rB ah hb;replace ai:=rB ai hb;replace aq:=rB aq hb;replace au:=rB au hb;replace ax:=rB ax hb;replace ay:=rB ay hb;replace az:=rB az hb;replace aC:=rB aC hb;replace aJ:=rB aJ hb;replace aM:=rB aM hb;replace aN:=rB aN hb;replace ag:=bB ag hb;replace aj:=bB aj hb;replace am:=bB am hb;replace av:=bB av hb;replace HB:=bW HB hb;(try clear hb);(try clear hb2);(try clear hk);(try clear hi)))
 go_ret
 exact xB HB
def engrosslaw1_Cut.f (a0:ByteArray) (a1:Int):Option (ByteArray):=if (a0.size:Int)>a1 then (if 0≤a1 then (if a1≤(a0.size:Int) then (some (a0.extract 0 (a1:Int).toNat)) else (none)) else (none)) else (some a0)
set_option maxHeartbeats 8000000 in
set_option maxRecDepth 100000 in
theorem engrosslaw1_Cut.calls (a0:ByteArray) (a1:Int) (r:ByteArray) (w:World) (h:engrosslaw1_Cut.f a0 a1=some r) :
  Calls Try.prog 13 #[.string a0,.int .i64 a1] w fun e w'=>e = .returned (.string r)∧Drawn0 w w':=by
 have H:(if (a0.size:Int)>a1 then (if 0≤a1 then (if a1≤(a0.size:Int) then (some (a0.extract 0 (a1:Int).toNat)) else (none)) else (none)) else (some a0))=some r:=h
 clear h
 by_cases c3:(a0.size:Int)>a1
 rotate_left
 ·rw [if_neg c3] at H
  have aa:decide (a1<(a0.size:Int))=false:=decide_eq_false c3
  clear c3
  obtain rfl:=Option.some.inj H
  go_enter Try.func13,Try.ntmps13
  go_wp2
  go_ret
  exact⟨by first|rfl|(simp;done)|(simp [*];done),by repeat (first|exact Drawn0.refl _|apply Drawn0.step)⟩
 rw [if_pos c3] at H
 have aa:decide (a1<(a0.size:Int))=true:=decide_eq_true c3
 clear c3
 by_cases c4:0≤a1
 rotate_left
 ·rw [if_neg c4] at H
  exact absurd H (by simp)
 rw [if_pos c4] at H
 have ab:=eq_true c4
 have ac:decide (0≤a1)=true:=decide_eq_true c4
 clear c4
 by_cases c5:a1≤(a0.size:Int)
 rotate_left
 ·rw [if_neg c5] at H
  exact absurd H (by simp)
 rw [if_pos c5] at H
 have ae:=eq_true c5
 have af:decide (a1≤(a0.size:Int))=true:=decide_eq_true c5
 clear c5
 obtain rfl:=Option.some.inj H
 go_enter Try.func13,Try.ntmps13
 go_wp2
 go_ret
 exact⟨by first|rfl|(simp;done)|(simp [*];done),by repeat (first|exact Drawn0.refl _|apply Drawn0.step)⟩
def engrosslaw10_Val.f (a0_0:Int) (a0_1:Nat) (a0_2:ByteArray):Option (Int × Nat × ByteArray):=(engrosslaw1_Cut.f a0_2 25).bind fun t341=>(some (a0_0,a0_1,t341))
set_option maxHeartbeats 8000000 in
set_option maxRecDepth 100000 in
theorem engrosslaw10_Val.calls (ac:Int) (ae:Nat) (af:ByteArray) (r1:Int) (r2:Nat) (r3:ByteArray) (w:World) (h:engrosslaw10_Val.f ac ae af=some (r1,r2,r3)) :
  Calls Try.prog 45 #[.agg #[.int .i64 ac,.float .f64 ae,.string af]] w fun e w'=>e = .returned (.agg #[.int .i64 r1,.float .f64 r2,.string r3])∧Below w.heap.size w w':=by
 have hu54:=Try.underlying54
 have HB:=aK (Below.refl w.heap.size w)
 have H:((engrosslaw1_Cut.f af 25).bind fun ag=>(some (ac,ae,ag)))=some (r1,r2,r3):=h
 clear h
 replace H:=oS H
 obtain⟨ag,A20,H⟩:=H
 replace H:(some (ac,ae,ag))=some (r1,r2,r3):=H
 have A2:=aK A20
 clear A20
 simp only [Option.some.injEq,Prod.mk.injEq] at H
 obtain⟨rfl,rfl,rfl⟩:=H
 go_enter Try.func45,Try.ntmps45
 go_wp2_with (first|((with_reducible refine gate_dst (N:=1) rfl ?_);refine box_event ?hg (N:=1) ?hd (cs:=#[.int .i64 ac,.float .f64 ae,.string af]) (t:=54) ?hr ?_;(case hd=>rfl);(case hg=>rfl);(case hr=>first|(go_simp;done)|(go_simp;rfl));intro aH hg w3 hbox hb;have aa:=aK (hbox);have aI:=bZ HB hg;have aJ:=bZ HB hg;replace HB:=bW HB hb;clear hb hbox hg)|((with_reducible refine gate_dst (N:=2) rfl ?_);refine box_event ?hg (N:=2) ?hd (cs:=#[.int .i64 0,.float .f64 0,.string (⟨#[]⟩:ByteArray)]) (t:=54) ?hr ?_;(case hd=>rfl);(case hg=>rfl);(case hr=>first|(go_simp;done)|(go_simp;rfl));intro aj hg w4 hbox hb;have ab:=aK (hbox);have aM:=bZ HB hg;have aN:=bZ HB hg;have ah:=bL aa hg;have ai:=bG aa hg;replace aa:=bB aa hb;replace HB:=bW HB hb;clear hb hbox hg;have hnb5:=ah.out;have hnc5:=ai.out;obtain⟨ak,al,am,ao,ap,aq⟩:=bf3 (w:=w4) aa)|((with_reducible refine gate_callee (f:=13) rfl ?_);refine gL (some 5) Try.func13 #[.string af,.int .i64 25] ?_;(with_reducible refine (engrosslaw1_Cut.calls af 25 ag _ A2.out).mono ?_);rintro e w' ⟨rfl,⟨nd,rfl⟩⟩;refine⟨_,rfl,?_⟩;(try (rw [drewN_self w4];generalize hq_:World.drewN w4 _=w4;have n0_:=bE aa hq_.symm;have n1_:=bE ab hq_.symm;have n2_:=bH HB hq_.symm;clear aa ab HB hq_;have aa:=n0_;have ab:=n1_;have HB:=n2_;clear n0_ n1_ n2_));obtain⟨ar,au,av,aw,ax,ay⟩:=bf3 (w:=w4) aa;obtain⟨az,aA,aC,aD,aE,aG⟩:=bf3 (w:=w4) ab))
 refine bodyPost_ret (results_cell_row rfl _ _ aj 54 #[.int .i64 ac,.float .f64 ae,.string ag] (0,0) _ rfl (bR ab) Try.underlying54 rfl (by kernel_rfl)) rfl ?_
 exact xB HB
def engrosslaw10_Cut.f (a0_0:ByteArray) (a0_1:Int) (a0_2:Nat) (a0_3:ByteArray) (a0_4:Int) (a0_5:Int) (a0_6:Nat) (a0_7:ByteArray):Option (ByteArray × Int × Nat × ByteArray × Int × Int × Nat × ByteArray):=(engrosslaw1_Cut.f a0_0 20).bind fun t344=>((engrosslaw10_Val.f a0_1 a0_2 a0_3).bind fun bt345=>((engrosslaw10_Val.f a0_5 a0_6 a0_7).bind fun bt348=>(some (t344,bt345.1,bt345.2.1,bt345.2.2,a0_4,bt348.1,bt348.2.1,bt348.2.2))))
def engrosslaw10_Cut.T1:Bool × List (List Nat × List Nat):=(true,[([],[]),([0],[0]),([1],[1]),([],[]),([3],[3]),([4,2],[4]),([],[]),([6],[6]),([7,5],[7]),([0,1,2,3,4,6,7],[]),([9,2,8,0,1,2,3,4,6,7],[2,9]),([0,1,2,3,4,5,6,7,9,10],[]),([11,5,10,0,1,2,3,4,5,6,7,9,10],[5,11]),([0,1,2,3,4,5,6,7,8,9,10,11,12],[]),([13,8,12,0,1,2,3,4,5,6,7,8,9,10,11,12],[8,13])])
def engrosslaw10_Cut.B1:List Nat:=[0,1,3,0,8,31,0,64,255,223,1023,2047,4095,8191,16383]
theorem engrosslaw10_Cut.tab1:rtab .any (opsOf Try.f27 1)=engrosslaw10_Cut.T1:=by kernel_rfl
theorem engrosslaw10_Cut.bits1:waitsOk engrosslaw10_Cut.T1.2 engrosslaw10_Cut.B1=true:=by kernel_rfl
set_option maxHeartbeats 8000000 in
set_option maxRecDepth 100000 in
theorem engrosslaw10_Cut.calls (aq:ByteArray) (ak:Int) (al:Nat) (am:ByteArray) (ao:Int) (ah:Int) (ai:Nat) (aj:ByteArray) (r1:ByteArray) (r2:Int) (r3:Nat) (r4:ByteArray) (r5:Int) (r6:Int) (r7:Nat) (r8:ByteArray) (w:World) (h:engrosslaw10_Cut.f aq ak al am ao ah ai aj=some (r1,r2,r3,r4,r5,r6,r7,r8)) :
  Calls Try.prog 27 #[.agg #[.string aq,.int .i64 ak,.float .f64 al,.string am,.int .i64 ao,.int .i64 ah,.float .f64 ai,.string aj]] w fun e w'=>e = .returned (.agg #[.string r1,.int .i64 r2,.float .f64 r3,.string r4,.int .i64 r5,.int .i64 r6,.float .f64 r7,.string r8])∧Below w.heap.size w w':=by
 have hu56:=Try.underlying56
 have hu54:=Try.underlying54
 have HB:=aK (Below.refl w.heap.size w)
 have H:((engrosslaw1_Cut.f aq 20).bind fun ar=>((engrosslaw10_Val.f ak al am).bind fun ap=>((engrosslaw10_Val.f ah ai aj).bind fun af=>(some (ar,ap.1,ap.2.1,ap.2.2,ao,af.1,af.2.1,af.2.2)))))=some (r1,r2,r3,r4,r5,r6,r7,r8):=h
 clear h
 replace H:=oS H
 obtain⟨ar,A20,H⟩:=H
 replace H:((engrosslaw10_Val.f ak al am).bind fun ap=>((engrosslaw10_Val.f ah ai aj).bind fun af=>(some (ar,ap.1,ap.2.1,ap.2.2,ao,af.1,af.2.1,af.2.2))))=some (r1,r2,r3,r4,r5,r6,r7,r8):=H
 have A2:=aK A20
 clear A20
 replace H:=oS H
 obtain⟨⟨au,av,aw⟩,A30,H⟩:=H
 replace H:((engrosslaw10_Val.f ah ai aj).bind fun af=>(some (ar,au,av,aw,ao,af.1,af.2.1,af.2.2)))=some (r1,r2,r3,r4,r5,r6,r7,r8):=H
 have A3:=aK A30
 clear A30
 replace H:=oS H
 obtain⟨⟨ax,ay,az⟩,A40,H⟩:=H
 replace H:(some (ar,au,av,aw,ao,ax,ay,az))=some (r1,r2,r3,r4,r5,r6,r7,r8):=H
 have A4:=aK A40
 clear A40
 simp only [Option.some.injEq,Prod.mk.injEq] at H
 obtain⟨rfl,rfl,rfl,rfl,rfl,rfl,rfl,rfl⟩:=H
 go_enter Try.func27,Try.ntmps27
 try go_wp2_with (first|((with_reducible refine gate_dst (N:=1) rfl ?_);refine box_event ?hg (N:=1) ?hd (cs:=#[.string aq,.int .i64 ak,.float .f64 al,.string am,.int .i64 ao,.int .i64 ah,.float .f64 ai,.string aj]) (t:=56) ?hr ?_;(case hd=>rfl);(case hg=>rfl);(case hr=>first|(go_simp;done)|(go_simp;rfl));intro ae hg w5 hbox hb;have aa:=aK (hbox);have bU:=bZ HB hg;have bX:=bZ HB hg;replace HB:=bW HB hb;clear hb hbox hg)|((with_reducible refine gate_dst (N:=2) rfl ?_);refine box_event ?hg (N:=2) ?hd (cs:=#[.string (⟨#[]⟩:ByteArray),.int .i64 0,.float .f64 0,.string (⟨#[]⟩:ByteArray),.int .i64 0,.int .i64 0,.float .f64 0,.string (⟨#[]⟩:ByteArray)]) (t:=56) ?hr ?_;(case hd=>rfl);(case hg=>rfl);(case hr=>first|(go_simp;done)|(go_simp;rfl));intro aA hg w6 hbox hb;have ag:=aK (hbox);have bY:=bZ HB hg;have b8:=bZ HB hg;have ab:=bL aa hg;have ac:=bG aa hg;replace aa:=bB aa hb;replace HB:=bW HB hb;clear hb hbox hg))
 replace aa:=aK (blk_drew aa.out)
 replace ag:=aK (blk_drew ag.out)
 replace HB:=aK (below_drew1 HB.out)
 refine start_ (n:=15) (S:=fun w'=>w'.cell? ⟨ae,0,none⟩=some (.string aq)∧w'.cell? ⟨ae,1,none⟩=some (.int .i64 ak)∧w'.cell? ⟨ae,2,none⟩=some (.float .f64 al)∧w'.cell? ⟨ae,3,none⟩=some (.string am)∧w'.cell? ⟨ae,4,none⟩=some (.int .i64 ao)∧w'.cell? ⟨ae,5,none⟩=some (.int .i64 ah)∧w'.cell? ⟨ae,6,none⟩=some (.float .f64 ai)∧w'.cell? ⟨ae,7,none⟩=some (.string aj)) (ds:=[10,12,14]) #[false,false,false,false,false,false,false,false,false,false,false,false,false,false,false] (by kernel_rfl) rfl rfl (be8 aa) (fun hHeld=>?_);refine with_tabW engrosslaw10_Cut.tab1 engrosslaw10_Cut.bits1 (fun HT_ HW_=>?_)
 generalize w6.drew=w7 at aa ag HB hHeld ⊢
 refine pA 0 3 HT_ ?_
 refine pA 3 6 HT_ ?_
 refine pA 6 9 HT_ ?_
 refine tA 1 4 HT_ HW_ hHeld ?_ (hy:=by rintro w' ⟨s0,s1,s2,s3,s4,s5,s6,s7⟩;go_simp;with_reducible rfl)
 refine tA 4 7 HT_ HW_ hHeld ?_ (hy:=by rintro w' ⟨s0,s1,s2,s3,s4,s5,s6,s7⟩;go_simp;with_reducible rfl)
 refine tA 7 10 HT_ HW_ hHeld ?_ (hy:=by rintro w' ⟨s0,s1,s2,s3,s4,s5,s6,s7⟩;go_simp;with_reducible rfl)
 refine oA 2 (some 5) HT_ (fun K hK=>?_)
 refine goes_ Try.func13 (by kernel_rfl) rfl #[.string aq,.int .i64 20] (by rfl) rfl rfl (by (try simp only [List.map_toArray,List.map_cons,List.map_nil]);first|done|rfl|(simp only [List.length_drop,List.length_take];rfl)) ?_
 with_reducible refine (engrosslaw1_Cut.calls aq 20 ar _ A2.out).mono ?_
 rintro e w' ⟨rfl,⟨nd,rfl⟩⟩
 refine⟨_,rfl,?_⟩
 refine hK.out _ _ (be8 aa) (fun hHeld=>?_)
 clear hK K
 refine norm_ (a':=?_) ?_ ?_
 rotate_left
 ·show Act.put _ (some 5) _=_
  simp only [Act.put,List.setIfInBounds_toArray,List.set_cons_zero,List.set_cons_succ,i64_w,i32_w]
  rfl
 refine pA 9 12 HT_ ?_
 refine oA 5 (some 8) HT_ (fun K hK=>?_)
 refine goes_ Try.func45 (by kernel_rfl) rfl #[.agg #[.int .i64 ak,.float .f64 al,.string am]] (by rfl) rfl rfl (by (try simp only [List.map_toArray,List.map_cons,List.map_nil]);first|done|rfl|(simp only [List.length_drop,List.length_take];rfl)) ?_
 with_reducible refine (engrosslaw10_Val.calls ak al am au av aw _ A3.out).mono ?_
 rintro e w8 ⟨rfl,hb⟩
 refine⟨_,rfl,?_⟩
 replace aa:=bB aa hb
 replace ag:=bB ag hb
 replace HB:=bW HB hb
 (try clear hb)
 (try clear hb2)
 (try clear hk)
 (try clear hi)
 refine hK.out _ _ (be8 aa) (fun hHeld=>?_)
 clear hK K
 refine norm_ (a':=?_) ?_ ?_
 rotate_left
 ·show Act.put _ (some 8) _=_
  simp only [Act.put,List.setIfInBounds_toArray,List.set_cons_zero,List.set_cons_succ,i64_w,i32_w]
  rfl
 refine oA 8 (some 11) HT_ (fun K hK=>?_)
 refine goes_ Try.func45 (by kernel_rfl) rfl #[.agg #[.int .i64 ah,.float .f64 ai,.string aj]] (by rfl) rfl rfl (by (try simp only [List.map_toArray,List.map_cons,List.map_nil]);first|done|rfl|(simp only [List.length_drop,List.length_take];rfl)) ?_
 with_reducible refine (engrosslaw10_Val.calls ah ai aj ax ay az _ A4.out).mono ?_
 rintro e w9 ⟨rfl,hb⟩
 refine⟨_,rfl,?_⟩
 replace aa:=bB aa hb
 replace ag:=bB ag hb
 replace HB:=bW HB hb
 (try clear hb)
 (try clear hb2)
 (try clear hk)
 (try clear hi)
 refine hK.out _ _ (be8 aa) (fun hHeld=>?_)
 clear hK K
 refine norm_ (a':=?_) ?_ ?_
 rotate_left
 ·show Act.put _ (some 11) _=_
  simp only [Act.put,List.setIfInBounds_toArray,List.set_cons_zero,List.set_cons_succ,i64_w,i32_w]
  rfl
 refine last_ (i:=10) (N:=none) #[true,true,true,true,true,true,true,true,true,true,true,false,false,false,false] rfl rfl (one_of HT_.out (by kernel_rfl)) (by decide) (fun K hK=>?_)
 have cj:w9.cell? ⟨ae,0,none⟩=some (.string aq):=(blk_cell aa.out 0).trans rfl
 have b9:=blk_frozen aa.out 0
 have aC:=ac.out
 have aD:=ab.out
 with_reducible refine skip_ (w1:=?_) (by with_unfolding_all rfl) (by with_unfolding_all rfl) ?_ ?_
 rotate_left
 ·go_simp
  rfl
 refine hK.out _ _ ?_
 clear hK K
 refine pA 11 13 HT_ ?_
 refine last_ (i:=12) (N:=none) #[true,true,true,true,true,true,true,true,true,true,true,true,true,false,false] rfl rfl (one_of HT_.out (by kernel_rfl)) (by decide) (fun K hK=>?_)
 have cm:w9.cell? ⟨ae,1,none⟩=some (.int .i64 ak):=(blk_cell aa.out 1).trans rfl
 have ca:=blk_frozen aa.out 1
 have aE:=ac.out
 have aG:=ab.out
 have cn:w9.cell? ⟨ae,2,none⟩=some (.float .f64 al):=(blk_cell aa.out 2).trans rfl
 have cb:=blk_frozen aa.out 2
 have aH:=ac.out
 have aI:=ab.out
 have cp:w9.cell? ⟨ae,3,none⟩=some (.string am):=(blk_cell aa.out 3).trans rfl
 have cd:=blk_frozen aa.out 3
 have aJ:=ac.out
 have aM:=ab.out
 with_reducible refine skip_ (w1:=?_) (by with_unfolding_all rfl) (by with_unfolding_all rfl) ?_ ?_
 rotate_left
 ·go_simp
  rfl
 refine hK.out _ _ ?_
 clear hK K
 refine pA 13 14 HT_ ?_
 refine last_ (i:=14) (N:=none) #[true,true,true,true,true,true,true,true,true,true,true,true,true,true,true] rfl rfl (one_of HT_.out (by kernel_rfl)) (by decide) (fun K hK=>?_)
 have cq:w9.cell? ⟨ae,5,none⟩=some (.int .i64 ah):=(blk_cell aa.out 5).trans rfl
 have cf:=blk_frozen aa.out 5
 have aN:=ac.out
 have aQ:=ab.out
 have ct:w9.cell? ⟨ae,6,none⟩=some (.float .f64 ai):=(blk_cell aa.out 6).trans rfl
 have cg:=blk_frozen aa.out 6
 have aT:=ac.out
 have aU:=ab.out
 have cu:w9.cell? ⟨ae,7,none⟩=some (.string aj):=(blk_cell aa.out 7).trans rfl
 have ch:=blk_frozen aa.out 7
 have aV:=ac.out
 have aW:=ab.out
 with_reducible refine skip_ (w1:=?_) (by with_unfolding_all rfl) (by with_unfolding_all rfl) ?_ ?_
 rotate_left
 ·go_simp
  rfl
 refine hK.out _ _ ?_
 clear hK K
 refine done_ (done_of HT_.out (by kernel_rfl)) ?_
 have hnb17:=ab.out
 have hnc17:=ac.out
 obtain⟨aX,aY,aZ,ba,bb,bc,bf,bg,bh,bi,bj,bk,bl,bm,bn,bo⟩:=bf8 (w:=w9) aa
 obtain⟨bp,bq,br,bs,bu,bv,bw,bx,bA,bD,bF,bI,bJ,bM,bN,bO⟩:=bf8 (w:=w9) ag
 try go_wp2
 refine bodyPost_ret (results_cell_row rfl _ _ aA 56 #[.string ar,.int .i64 au,.float .f64 av,.string aw,.int .i64 ao,.int .i64 ax,.float .f64 ay,.string az] (0,0) _ rfl (bR ag) Try.underlying56 rfl (by kernel_rfl)) rfl ?_
 exact xB HB
end Go.Proofs.Ytmmjpieafbjggaa.P
end
section
namespace Go.Proofs.Ytmmjpieafbjggaa.P
open Go.RowKit Go.Proofs.YtmmjpieafbjggaaW.PrintWords Go.Proofs.YtmmjpieafbjggaaW.PrintLast Go.Proofs.YtmmjpieafbjggaaW.PrintMore
attribute [local go_sem] max2_int min2_int max_two min_two max_three min_three max_four min_four   -- for this text's walks alone
attribute [local go_sem] x_str_gtr x_str_leq x_str_geq ext_bits ext_frombits ext_neg x_store_float Instr.field asAgg
set_option linter.unusedVariables false
set_option linter.unusedSimpArgs false
mutual
def engrosslaw11_Cut.j1:Nat→Bool→List (S56)→List ByteArray→List Int→Bool→List (S56)→Option (Bool × (List (S56)) × List ByteArray × List Int)
 | 0,_,_,_,_,_,_=>none
 | k+1,x352000,x352001,x352002,x352003,x354000,x354001=>engrosslaw11_Cut.l1 k 0 x352000 x352001 x352002 x352003 x354000 x354001 ([]:List ByteArray)
def engrosslaw11_Cut.j3:Nat→Bool→List (S56)→List ByteArray→List Int→Bool→List (S56)→List ByteArray→Option (Bool × (List (S56)) × List ByteArray × List Int)
 | 0,_,_,_,_,_,_,_=>none
 | k+1,x352000,x352001,x352002,x352003,x354000,x354001,x354002=>engrosslaw11_Cut.l2 k 0 x352000 x352001 x352002 x352003 x354000 x354001 x354002 ([]:List Int)
def engrosslaw11_Cut.l2:Nat→Int→Bool→List (S56)→List ByteArray→List Int→Bool→List (S56)→List ByteArray→List Int→Option (Bool × (List (S56)) × List ByteArray × List Int)
 | 0,_,_,_,_,_,_,_,_,_=>none
 | k+1,x6,x352000,x352001,x352002,x352003,x354000,x354001,x354002,x354003=>if x6<(x352003.length:Int) then (if x6<40 then (if 0≤x6 then (if x354003.length<17592186044416 then (engrosslaw11_Cut.l2 k (wrap64 (x6+1)) x352000 x352001 x352002 x352003 x354000 x354001 x354002 (x354003++[rd x352003 x6])) else (none)) else (none)) else (some (x354000,x354001,x354002,x354003))) else (some (x354000,x354001,x354002,x354003))
def engrosslaw11_Cut.l1:Nat→Int→Bool→List (S56)→List ByteArray→List Int→Bool→List (S56)→List ByteArray→Option (Bool × (List (S56)) × List ByteArray × List Int)
 | 0,_,_,_,_,_,_,_,_=>none
 | k+1,x5,x352000,x352001,x352002,x352003,x354000,x354001,x354002=>if x5<(x352002.length:Int) then (if x5<40 then (if 0≤x5 then ((engrosslaw1_Cut.f (rdOf ByteArray.empty x352002 x5) 20).bind fun t367=>(if x354002.length<8796093022208 then (engrosslaw11_Cut.l1 k (wrap64 (x5+1)) x352000 x352001 x352002 x352003 x354000 x354001 (x354002++[t367])) else (none))) else (none)) else (engrosslaw11_Cut.j3 k x352000 x352001 x352002 x352003 x354000 x354001 x354002)) else (engrosslaw11_Cut.j3 k x352000 x352001 x352002 x352003 x354000 x354001 x354002)
def engrosslaw11_Cut.l0:Nat→Int→Bool→List (S56)→List ByteArray→List Int→Bool→List (S56)→Option (Bool × (List (S56)) × List ByteArray × List Int)
 | 0,_,_,_,_,_,_,_=>none
 | k+1,x4,x352000,x352001,x352002,x352003,x354000,x354001=>if x4<(x352001.length:Int) then (if x4<40 then (if 0≤x4 then ((engrosslaw10_Cut.f ((rd_T56 x352001 x4).f0) ((rd_T56 x352001 x4).f1.f0) ((rd_T56 x352001 x4).f1.f1) ((rd_T56 x352001 x4).f1.f2) ((rd_T56 x352001 x4).f2) ((rd_T56 x352001 x4).f3.f0) ((rd_T56 x352001 x4).f3.f1) ((rd_T56 x352001 x4).f3.f2)).bind fun bt355=>(if x354001.length<1599289640401 then (engrosslaw11_Cut.l0 k (wrap64 (x4+1)) x352000 x352001 x352002 x352003 x354000 (x354001++[(⟨bt355.1,(⟨bt355.2.1,bt355.2.2.1,bt355.2.2.2.1⟩:S54),bt355.2.2.2.2.1,(⟨bt355.2.2.2.2.2.1,bt355.2.2.2.2.2.2.1,bt355.2.2.2.2.2.2.2⟩:S54)⟩:S56)])) else (none))) else (none)) else (engrosslaw11_Cut.j1 k x352000 x352001 x352002 x352003 x354000 x354001)) else (engrosslaw11_Cut.j1 k x352000 x352001 x352002 x352003 x354000 x354001)
end
def engrosslaw11_Cut.f (k:Nat) (a0_0:Bool) (l0_1:List (S56)) (l0_2:List ByteArray) (l0_3:List Int):Option (Bool × (List (S56)) × List ByteArray × List Int):=engrosslaw11_Cut.l0 k 0 a0_0 l0_1 l0_2 l0_3 a0_0 ([]:List (S56))
def engrosslaw11_Cut.T5:Bool × List (List Nat × List Nat):=(true,[([],[]),([0],[0]),([],[]),([2],[2]),([],[]),([3,4],[3,4]),([5],[5]),([6],[6]),([7],[7]),([1,8,7],[1,8]),([0,1,2,3,4,5,6,7,8,9],[]),([10,9,9,0,1,2,3,4,5,6,7,8,9],[9,10])])
def engrosslaw11_Cut.B5:List Nat:=[0,1,0,4,0,28,60,124,252,511,1023,2047]
theorem engrosslaw11_Cut.tab5:rtab .any (opsOf Try.f12 5)=engrosslaw11_Cut.T5:=by kernel_rfl
theorem engrosslaw11_Cut.bits5:waitsOk engrosslaw11_Cut.T5.2 engrosslaw11_Cut.B5=true:=by kernel_rfl
def engrosslaw11_Cut.T9:Bool × List (List Nat × List Nat):=(true,[([],[]),([0],[0]),([],[]),([2],[2]),([],[]),([3,4],[3,4]),([5],[5]),([6],[6]),([7],[7]),([1,8,7],[1,8]),([0,1,2,3,4,5,6,7,8,9],[]),([10,9,9,0,1,2,3,4,5,6,7,8,9],[9,10])])
def engrosslaw11_Cut.B9:List Nat:=[0,1,0,4,0,28,60,124,252,511,1023,2047]
theorem engrosslaw11_Cut.tab9:rtab .any (opsOf Try.f12 9)=engrosslaw11_Cut.T9:=by kernel_rfl
theorem engrosslaw11_Cut.bits9:waitsOk engrosslaw11_Cut.T9.2 engrosslaw11_Cut.B9=true:=by kernel_rfl
def engrosslaw11_Cut.T13:Bool × List (List Nat × List Nat):=(true,[([],[]),([0],[0]),([],[]),([2],[2]),([],[]),([3,4],[3,4]),([5],[5]),([6],[6]),([1,7],[1,7]),([0,1,2,3,4,5,6,7,8],[]),([9,8,8,0,1,2,3,4,5,6,7,8],[8,9])])
def engrosslaw11_Cut.B13:List Nat:=[0,1,0,4,0,28,60,124,255,511,1023]
theorem engrosslaw11_Cut.tab13:rtab .any (opsOf Try.f12 13)=engrosslaw11_Cut.T13:=by kernel_rfl
theorem engrosslaw11_Cut.bits13:waitsOk engrosslaw11_Cut.T13.2 engrosslaw11_Cut.B13=true:=by kernel_rfl
set_option maxHeartbeats 8000000 in
set_option maxRecDepth 100000 in
theorem engrosslaw11_Cut.calls (k:Nat) (ai:Bool) (bf:Option Addr) (ba:Nat) (aj:List (S56)) (bg:Option Addr) (bb:Nat) (av:List ByteArray) (bh:Option Addr) (bc:Nat) (ap:List Int) (r1:Bool) (r2:List (S56)) (r3:List ByteArray) (r4:List Int) (w:World) (dV:Kd.C k56 w bf aj.length aj) (dW:aj.length≤ba) (dX:Kd.C Kd.string w bg av.length av) (dY:av.length≤bb) (dZ:Kd.C (Kd.int .i64) w bh ap.length ap) (d3:ap.length≤bc) (h:engrosslaw11_Cut.f k ai aj av ap=some (r1,r2,r3,r4)) :
  Calls Try.prog 12 #[.agg #[.bool ai,.slice bf aj.length ba,.slice bg av.length bb,.slice bh ap.length bc]] w fun e w'=>∃ v1_ v2_ v3_:Value,e = .returned (.agg #[.bool r1,v1_,v2_,v3_])∧Kd.R k56 56 w' w.heap.size (fun _=>True) v1_ r2∧Kd.R Kd.string 9 w' w.heap.size (fun _=>True) v2_ r3∧Kd.R (Kd.int .i64) 3 w' w.heap.size (fun _=>True) v3_ r4∧Below w.heap.size w w':=by
 have hu26:=Try.underlying26
 have hu56:=Try.underlying56
 have eu:=aK dV
 have f7:=aK dW
 clear dV dW
 have ev:=aK dX
 have f8:=aK dY
 clear dX dY
 have ex:=aK dZ
 have ga:=aK d3
 clear dZ d3
 have HB:=aK (Below.refl w.heap.size w)
 have H:(engrosslaw11_Cut.l0 k 0 ai aj av ap ai ([]:List (S56)))=some (r1,r2,r3,r4):=h
 clear h
 have HC2:=aK H
 clear H
 go_enter Try.func12,Try.ntmps12
 go_upto_block 0 with (first|((with_reducible refine gate_dst (N:=1) rfl ?_);refine box_event ?hg (N:=1) ?hd (cs:=#[.bool ai,.slice bf aj.length ba,.slice bg av.length bb,.slice bh ap.length bc]) (t:=26) ?hr ?_;(case hd=>rfl);(case hg=>rfl);(case hr=>first|(go_simp;done)|(go_simp;rfl));intro aD hg w3 hbox hb;have aa:=aK (hbox);have gb:=bZ HB hg;have d4:=bZ HB hg;replace HB:=bW HB hb;clear hb hbox hg)|((with_reducible refine gate_dst (N:=2) rfl ?_);refine box_event ?hg (N:=2) ?hd (cs:=#[.bool false,.slice none 0 0,.slice none 0 0,.slice none 0 0]) (t:=26) ?hr ?_;(case hd=>rfl);(case hg=>rfl);(case hr=>first|(go_simp;done)|(go_simp;rfl));intro am hg w4 hbox hb;have af:=aK (hbox);have gc:=bZ HB hg;have d5:=bZ HB hg;have az:=bL aa hg;have aA:=bG aa hg;replace aa:=bB aa hb;replace HB:=bW HB hb;clear hb hbox hg;have hnb5:=az.out;have hnc5:=aA.out;obtain⟨bI,bJ,bM,bN,bO,bU,bX,bY⟩:=bf4 (w:=w4) aa)|((with_reducible refine gate_dst (N:=3) rfl ?_);refine box_event ?hg (N:=3) ?hd (cs:=#[.bool false,.slice none 0 0,.slice none 0 0,.slice none 0 0]) (t:=26) ?hr ?_;(case hd=>rfl);(case hg=>rfl);(case hr=>first|(go_simp;done)|(go_simp;rfl));intro aq hg w7 hbox hb;have ab:=aK (hbox);have gf:=bZ HB hg;have d6:=bZ HB hg;have ak:=bL aa hg;have aw:=bG aa hg;have ax:=bL af hg;have aI:=bG af hg;replace aa:=bB aa hb;replace af:=bB af hb;replace HB:=bW HB hb;clear hb hbox hg;have hnb8:=aw.out;have hnc8:=ak.out;have hnb9:=aI.out;have hnc9:=ax.out;obtain⟨bi,bj,bk,bl,bm,bn,bo,bp⟩:=bf4 (w:=w7) ab))
 (try simp only [Act.put,List.setIfInBounds_toArray,List.set_cons_zero,List.set_cons_succ])
 go_cut [] (fun wc=>∃ (kq:Nat) (ae:List (S56)) (al:Value),Aside0 (engrosslaw11_Cut.j1 kq ai aj av ap ai ae=some (r1,r2,r3,r4))∧Aside0 (kq≤k)∧Aside0 (Kd.R k56 56 wc w.heap.size (fun _=>True) al ae)∧Aside0 (wc.heap[aD]? = some (.cells #[.bool ai,(.slice bf aj.length ba),(.slice bg av.length bb),(.slice bh ap.length bc)] 26 (0,0)))∧Aside0 (wc.heap[am]? = some (.cells #[.bool false,(.slice none 0 0),(.slice none 0 0),(.slice none 0 0)] 26 (0,0)))∧Aside0 (wc.heap[aq]? = some (.cells #[.bool ai,al,(.slice none 0 0),(.slice none 0 0)] 26 (0,0)))∧Aside0 (Below w.heap.size w wc))
 case first =>
  have H:=HC2.out
  clear HC2
  have H':=aK H
  clear H
  go_wp2
  go_loopg [4] k (fun kq v4 w'=>∃ (ag:Int) (ae:List (S56)) (al:Value),v4 = .int .i64 ag∧Aside0 (engrosslaw11_Cut.l0 kq ag ai aj av ap ai ae=some (r1,r2,r3,r4))∧Aside0 (kq≤k)∧Aside0 (Kd.R k56 56 w' w.heap.size (fun _=>True) al ae)∧Aside0 (w'.heap[aD]? = some (.cells #[.bool ai,(.slice bf aj.length ba),(.slice bg av.length bb),(.slice bh ap.length bc)] 26 (0,0)))∧Aside0 (w'.heap[am]? = some (.cells #[.bool false,(.slice none 0 0),(.slice none 0 0),(.slice none 0 0)] 26 (0,0)))∧Aside0 (w'.heap[aq]? = some (.cells #[.bool ai,al,(.slice none 0 0),(.slice none 0 0)] 26 (0,0)))∧Aside0 (Below w.heap.size w w'))
  case atStart=>exact⟨(0),(([]:List (S56))),(.slice none 0 0),(by first|rfl|(simp;done)|(simp [*];done)),H',⟨Nat.le_refl _⟩,⟨by first|exact Kd.R_nil _ _ _ _ _|exact Kd.N_nil _ _ _ _ _|exact Kd.V_nil _ _ _ _ _|exact Kd.Q_nil _ _ _ _ _|exact Kd.S_nil _ _ _ _ _⟩,⟨by (with_reducible repeat (first|refine blk_drewN ?_ _|refine blk_drew ?_|refine blk_alloc ?_ _));refine blk_far ?_ ak.out _;(with_reducible repeat (first|refine blk_drewN ?_ _|refine blk_drew ?_|refine blk_alloc ?_ _));refine blk_far ?_ ak.out _;(with_reducible repeat (first|refine blk_drewN ?_ _|refine blk_drew ?_|refine blk_alloc ?_ _));refine blk_far ?_ ak.out _;(with_reducible repeat (first|refine blk_drewN ?_ _|refine blk_drew ?_|refine blk_alloc ?_ _));refine blk_far ?_ ak.out _;(with_reducible repeat (first|refine blk_drewN ?_ _|refine blk_drew ?_|refine blk_alloc ?_ _));exact aa.out⟩,⟨by (with_reducible repeat (first|refine blk_drewN ?_ _|refine blk_drew ?_|refine blk_alloc ?_ _));refine blk_far ?_ ax.out _;(with_reducible repeat (first|refine blk_drewN ?_ _|refine blk_drew ?_|refine blk_alloc ?_ _));refine blk_far ?_ ax.out _;(with_reducible repeat (first|refine blk_drewN ?_ _|refine blk_drew ?_|refine blk_alloc ?_ _));refine blk_far ?_ ax.out _;(with_reducible repeat (first|refine blk_drewN ?_ _|refine blk_drew ?_|refine blk_alloc ?_ _));refine blk_far ?_ ax.out _;(with_reducible repeat (first|refine blk_drewN ?_ _|refine blk_drew ?_|refine blk_alloc ?_ _));exact af.out⟩,⟨by (with_reducible repeat (first|refine blk_drewN ?_ _|refine blk_drew ?_|refine blk_alloc ?_ _));refine blk_put (cs:=#[.bool ai,.slice none 0 0,.slice none 0 0,.slice none 0 0]) ?_ 3 _ rfl;(with_reducible repeat (first|refine blk_drewN ?_ _|refine blk_drew ?_|refine blk_alloc ?_ _));refine blk_put (cs:=#[.bool ai,.slice none 0 0,.slice none 0 0,.slice none 0 0]) ?_ 2 _ rfl;(with_reducible repeat (first|refine blk_drewN ?_ _|refine blk_drew ?_|refine blk_alloc ?_ _));refine blk_put (cs:=#[.bool ai,.slice none 0 0,.slice none 0 0,.slice none 0 0]) ?_ 1 _ rfl;(with_reducible repeat (first|refine blk_drewN ?_ _|refine blk_drew ?_|refine blk_alloc ?_ _));refine blk_put (cs:=#[.bool false,.slice none 0 0,.slice none 0 0,.slice none 0 0]) ?_ 0 _ rfl;(with_reducible repeat (first|refine blk_drewN ?_ _|refine blk_drew ?_|refine blk_alloc ?_ _));exact ab.out⟩,bV HB⟩
  case round =>
   clear H'
   try clear c1
   try clear p2
   try clear c5
   try clear c8
   try clear c9
   try clear bi bj bk bl
   try clear bI bJ bM bN
   try clear bm bn bo bp
   try clear bO bU bX bY
   obtain⟨ag,ae,al,rfl,HA,HK1,ac,aa,af,ab,HB⟩:=hrel
   cases gk with
   | zero=>exact absurd HA.out (by simp [engrosslaw11_Cut.l0])
   | succ k1 =>
    have H:=HA.out
    clear HA
    simp only [engrosslaw11_Cut.l0] at H
    by_cases c11:ag<(aj.length:Int)
    rotate_left
    ·rw [if_neg c11] at H
     have aY:decide (ag<(aj.length:Int))=false:=decide_eq_false c11
     clear c11
     (first|rw [aY]|(simp only [i64_w,i32_w];rw [aY])|skip)
     have H':=aK H
     clear H
     have hnb27:=az.out
     have hnc27:=aA.out
     have hnb28:=ak.out
     have hnc28:=aw.out
     obtain⟨b8,b9,ca,cb,cd,cf,cg,ch⟩:=bf4 (w:=wr) aa
     go_wp2
     go_meet
     case rel=>exact⟨_,(ae),(al),H',⟨by have:=HK1.out;first|omega|exact Nat.le_refl _⟩,⟨by (with_reducible repeat (first|apply Kd.R_alloc|apply Kd.R_drewN|apply Kd.R_drew));exact ac.out⟩,bK aa,bK af,bK ab,bV HB⟩
    rw [if_pos c11] at H
    have aY:decide (ag<(aj.length:Int))=true:=decide_eq_true c11
    clear c11
    (first|rw [aY]|(simp only [i64_w,i32_w];rw [aY])|skip)
    by_cases c12:ag<40
    rotate_left
    ·rw [if_neg c12] at H
     have cJ:decide (ag<40)=false:=decide_eq_false c12
     clear c12
     have H':=aK H
     clear H
     have hnb24:=az.out
     have hnc24:=aA.out
     have hnb25:=ak.out
     have hnc25:=aw.out
     obtain⟨cj,cm,cn,cp,cq,ct,cu,cv⟩:=bf4 (w:=wr) aa
     go_wp2
     go_meet
     case rel=>exact⟨_,(ae),(al),H',⟨by have:=HK1.out;first|omega|exact Nat.le_refl _⟩,⟨by (with_reducible repeat (first|apply Kd.R_alloc|apply Kd.R_drewN|apply Kd.R_drew));exact ac.out⟩,bK aa,bK af,bK ab,bV HB⟩
    rw [if_pos c12] at H
    have cJ:decide (ag<40)=true:=decide_eq_true c12
    clear c12
    by_cases c13:0≤ag
    rotate_left
    ·rw [if_neg c13] at H
     exact absurd H (by simp)
    rw [if_pos c13] at H
    have cT:decide (0≤ag)=true:=decide_eq_true c13
    clear c13
    replace H:=oS H
    obtain⟨⟨cK,cL,cM,cN,cO,cP,cQ,cR⟩,ei,H⟩:=H
    replace H:(if ae.length<1599289640401 then (engrosslaw11_Cut.l0 k1 (wrap64 (ag+1)) ai aj av ap ai (ae++[(⟨cK,(⟨cL,cM,cN⟩:S54),cO,(⟨cP,cQ,cR⟩:S54)⟩:S56)])) else (none))=some (r1,r2,r3,r4):=H
    have A14:=aK ei
    clear ei
    by_cases c15:ae.length<1599289640401
    rotate_left
    ·rw [if_neg c15] at H
     exact absurd H (by simp)
    rw [if_pos c15] at H
    have LMc15:=aK c15
    clear c15
    obtain⟨dz,hy363⟩:∃ y_:List (S56),y_=(ae++[(⟨cK,(⟨cL,cM,cN⟩:S54),cO,(⟨cP,cQ,cR⟩:S54)⟩:S56)]):=⟨_,rfl⟩
    replace H:(engrosslaw11_Cut.l0 k1 (wrap64 (ag+1)) ai aj av ap ai dz)=some (r1,r2,r3,r4):=by first|(rw [hy363];with_reducible exact H)|(have H2_:=(Option.bind_some _ _).symm.trans H;rw [hy363];with_reducible exact H2_)|(have H2_:=(Option.bind_some _ _).symm.trans H;with_reducible exact H2_)|with_reducible exact H|(rw [hy363];exact H)|exact H
    have Ny363:=aK hy363
    clear hy363
    have H':=aK H
    clear H
    have hnb16:=az.out
    have hnc16:=aA.out
    have hnb17:=ak.out
    have hnc17:=aw.out
    obtain⟨cw,cx,cz,cA,cB,cC,cD,cE⟩:=bf4 (w:=wr) aa
    try go_wp2
    replace ac:=aK (Kd.R_drew ac.out)
    replace aa:=aK (blk_drew aa.out)
    replace af:=aK (blk_drew af.out)
    replace ab:=aK (blk_drew ab.out)
    replace HB:=aK (below_drew1 HB.out)
    have cH:0≤(ag:Int):=dA
    have cI:ag<(aj.length:Int):=dA
    obtain⟨aH,e354,aJ,aM,aN,aQ,aT,aU,aV,aW⟩:=at_T56 eu.out ag cH cI
    have bq:=aW
    have br:=aV
    have bs:=aU
    have bu:=aT
    have bv:=aQ
    have bw:=aN
    have bx:=aM
    have bA:=aJ
    cases e354
    replace aJ:=cW HB aJ
    replace aM:=cW HB aM
    replace aN:=cW HB aN
    replace aQ:=cW HB aQ
    replace aT:=cW HB aT
    replace aU:=cW HB aU
    replace aV:=cW HB aV
    replace aW:=cW HB aW
    replace cH:=eq_true cH
    replace cI:=eq_true cI
    refine start_ (n:=12) (S:=fun w'=>w'.cell? ⟨aq,0,none⟩=some (.bool ai)∧w'.cell? ⟨aq,1,none⟩=some (al)∧w'.cell? ⟨aq,2,none⟩=some (.slice none 0 0)∧w'.cell? ⟨aq,3,none⟩=some (.slice none 0 0)∧w'.cell? ⟨aD,0,none⟩=some (.bool ai)∧w'.cell? ⟨aD,1,none⟩=some (.slice (some aH) aj.length ba)∧w'.cell? ⟨aD,2,none⟩=some (.slice bg av.length bb)∧w'.cell? ⟨aD,3,none⟩=some (.slice bh ap.length bc)∧w'.cell? (aH.add ((ag).toNat * 8))=some (.string ((rd_T56 aj ag).f0))∧w'.cell? ⟨(aH.add ((ag).toNat * 8)).block,(aH.add ((ag).toNat * 8)).off+1,none⟩=some (.int .i64 ((rd_T56 aj ag).f1.f0))∧w'.cell? ⟨(aH.add ((ag).toNat * 8)).block,(aH.add ((ag).toNat * 8)).off+2,none⟩=some (.float .f64 ((rd_T56 aj ag).f1.f1))∧w'.cell? ⟨(aH.add ((ag).toNat * 8)).block,(aH.add ((ag).toNat * 8)).off+3,none⟩=some (.string ((rd_T56 aj ag).f1.f2))∧w'.cell? ⟨(aH.add ((ag).toNat * 8)).block,(aH.add ((ag).toNat * 8)).off+4,none⟩=some (.int .i64 ((rd_T56 aj ag).f2))∧w'.cell? ⟨(aH.add ((ag).toNat * 8)).block,(aH.add ((ag).toNat * 8)).off+5,none⟩=some (.int .i64 ((rd_T56 aj ag).f3.f0))∧w'.cell? ⟨(aH.add ((ag).toNat * 8)).block,(aH.add ((ag).toNat * 8)).off+6,none⟩=some (.float .f64 ((rd_T56 aj ag).f3.f1))∧w'.cell? ⟨(aH.add ((ag).toNat * 8)).block,(aH.add ((ag).toNat * 8)).off+7,none⟩=some (.string ((rd_T56 aj ag).f3.f2))) (ds:=[11]) #[false,false,false,false,false,false,false,false,false,false,false,false] (by kernel_rfl) rfl rfl (bn4 ab (bn4 aa ⟨(cW HB bA),(cW HB bx),(cW HB bw),(cW HB bv),(cW HB bu),(cW HB bs),(cW HB br),(cW HB bq)⟩)) (fun hHeld=>?_);refine with_tabW engrosslaw11_Cut.tab5 engrosslaw11_Cut.bits5 (fun HT_ HW_=>?_)
    generalize wr.drew=w19 at ac aa af ab HB aJ aM aN aQ aT aU aV aW hHeld ⊢
    refine pA 0 21 HT_ ?_
    refine pA 2 23 HT_ ?_
    refine pA 4 25 HT_ ?_
    refine tA 1 22 HT_ HW_ hHeld ?_ (hy:=by rintro w' ⟨s0,s1,s2,s3,s4,s5,s6,s7,s8,s9,s10,s11,s12,s13,s14,s15⟩;go_simp;with_reducible rfl)
    refine tA 3 24 HT_ HW_ hHeld ?_ (hy:=by rintro w' ⟨s0,s1,s2,s3,s4,s5,s6,s7,s8,s9,s10,s11,s12,s13,s14,s15⟩;go_simp;with_reducible rfl)
    refine pA 5 26 HT_ ?_
    refine tA 6 27 HT_ HW_ hHeld ?_ (hy:=by rintro w' ⟨s0,s1,s2,s3,s4,s5,s6,s7,s8,s9,s10,s11,s12,s13,s14,s15⟩;go_simp;with_reducible rfl)
    refine oA 7 (some 28) HT_ (fun K hK=>?_)
    refine goes_ Try.func27 (by kernel_rfl) rfl #[.agg #[.string ((rd_T56 aj ag).f0),.int .i64 ((rd_T56 aj ag).f1.f0),.float .f64 ((rd_T56 aj ag).f1.f1),.string ((rd_T56 aj ag).f1.f2),.int .i64 ((rd_T56 aj ag).f2),.int .i64 ((rd_T56 aj ag).f3.f0),.float .f64 ((rd_T56 aj ag).f3.f1),.string ((rd_T56 aj ag).f3.f2)]] (by rfl) rfl rfl (by (try simp only [List.map_toArray,List.map_cons,List.map_nil]);first|done|rfl|(simp only [List.length_drop,List.length_take];rfl)) ?_
    with_reducible refine (engrosslaw10_Cut.calls ((rd_T56 aj ag).f0) ((rd_T56 aj ag).f1.f0) ((rd_T56 aj ag).f1.f1) ((rd_T56 aj ag).f1.f2) ((rd_T56 aj ag).f2) ((rd_T56 aj ag).f3.f0) ((rd_T56 aj ag).f3.f1) ((rd_T56 aj ag).f3.f2) cK cL cM cN cO cP cQ cR _ A14.out).mono ?_
    rintro e w20 ⟨rfl,hb⟩
    refine⟨_,rfl,?_⟩
    replace ac:=rB ac hb
    replace aa:=bB aa hb
    replace af:=bB af hb
    replace ab:=bB ab hb
    replace HB:=bW HB hb
    (try clear hb)
    (try clear hb2)
    (try clear hk)
    (try clear hi)
    refine hK.out _ _ (bn4 ab (bn4 aa ⟨(cW HB bA),(cW HB bx),(cW HB bw),(cW HB bv),(cW HB bu),(cW HB bs),(cW HB br),(cW HB bq)⟩)) (fun hHeld=>?_)
    clear hK K
    refine norm_ (a':=?_) ?_ ?_
    rotate_left
    ·show Act.put _ (some 28) _=_
     simp only [Act.put,List.setIfInBounds_toArray,List.set_cons_zero,List.set_cons_succ,i64_w,i32_w]
     rfl
    refine oA 8 (some 29) HT_ (fun K hK=>?_)
    refine value_ (w1:=?_) (v:=?_) (by rfl) rfl ?_ ?_
    rotate_left 2
    ·go_simp
     constructor
     ·rfl
     ·rfl
    refine hK.out _ _ ⟨(blk_cell (blk_alloc ab.out _) 0).trans rfl,(blk_cell (blk_alloc ab.out _) 1).trans rfl,(blk_cell (blk_alloc ab.out _) 2).trans rfl,(blk_cell (blk_alloc ab.out _) 3).trans rfl,(blk_cell (blk_alloc aa.out _) 0).trans rfl,(blk_cell (blk_alloc aa.out _) 1).trans rfl,(blk_cell (blk_alloc aa.out _) 2).trans rfl,(blk_cell (blk_alloc aa.out _) 3).trans rfl,(World.cell?_alloc_lt _ _ _ (World.block_lt_of_cell? _ _ ((cW HB bA)))).trans ((cW HB bA)),(World.cell?_alloc_lt _ _ _ (World.block_lt_of_cell? _ _ ((cW HB bx)))).trans ((cW HB bx)),(World.cell?_alloc_lt _ _ _ (World.block_lt_of_cell? _ _ ((cW HB bw)))).trans ((cW HB bw)),(World.cell?_alloc_lt _ _ _ (World.block_lt_of_cell? _ _ ((cW HB bv)))).trans ((cW HB bv)),(World.cell?_alloc_lt _ _ _ (World.block_lt_of_cell? _ _ ((cW HB bu)))).trans ((cW HB bu)),(World.cell?_alloc_lt _ _ _ (World.block_lt_of_cell? _ _ ((cW HB bs)))).trans ((cW HB bs)),(World.cell?_alloc_lt _ _ _ (World.block_lt_of_cell? _ _ ((cW HB br)))).trans ((cW HB br)),(World.cell?_alloc_lt _ _ _ (World.block_lt_of_cell? _ _ ((cW HB bq)))).trans ((cW HB bq))⟩ (fun hHeld=>?_)
    clear hK K
    refine norm_ (a':=?_) ?_ ?_
    rotate_left
    ·show Act.put _ (some 29) _=_
     simp only [Act.put,List.setIfInBounds_toArray,List.set_cons_zero,List.set_cons_succ,i64_w,i32_w]
     rfl
    refine oA 9 (some 30) HT_ (fun K hK=>?_)
    refine Kd.R_append_step k56 (w0:=w) w.heap.size (by rfl) (.tmp 22) (.tmp 29) 22 56 (.agg #[(.string ⟨#[]⟩),(.int .i64 0),(.float .f64 0),(.string ⟨#[]⟩),(.int .i64 0),(.int .i64 0),(.float .f64 0),(.string ⟨#[]⟩)]) 88 rfl Try.underlying22 info56 rfl (by decide) (by omega) al ae (⟨cK,(⟨cL,cM,cN⟩:S54),cO,(⟨cP,cQ,cR⟩:S54)⟩:S56) [.string cK,.int .i64 cL,.float .f64 cM,.string cN,.int .i64 cO,.int .i64 cP,.float .f64 cQ,.string cR] (fun _=>True) (fun _=>False) rfl rfl ?aP (fun _ hk=>hk.elim) ?aF ?aO ?aB ?aS ?aL ?_
    (case aP=>exact k56_mkM _ _ _ (⟨cK,(⟨cL,cM,cN⟩:S54),cO,(⟨cP,cQ,cR⟩:S54)⟩:S56))
    (case aB=>exact (bC HB))
    (case aF=>exact (fun _ _=>trivial))
    (case aO=>exact (by (with_reducible repeat (first|apply Kd.R_alloc|apply Kd.R_drewN|apply Kd.R_drew));exact ac.out))
    (case aS=>exact (below_size (bC HB)))
    (case aL=>have:=LMc15.out;omega)
    intro gl w21 ho hb hg hat
    rw [← Ny363.out] at ho
    have d7:=aK (ho)
    replace aa:=aK (blk_grown (bQ aa) hg (Kd.R_ne ac.out aa.out (by decide)))
    replace af:=aK (blk_grown (bQ af) hg (Kd.R_ne ac.out af.out (by decide)))
    replace ab:=aK (blk_grown (bQ ab) hg (Kd.R_ne ac.out ab.out (by decide)))
    replace HB:=aK (hb)
    clear ac
    clear ho hb hg hat
    obtain⟨ej,ek,el⟩:=Kd.R_slice d7.out
    (first|subst el|(injection el with f1_ f2_ f3_;have f4_:=f1_.symm;have f5_:=f3_.symm;clear f1_ f2_ f3_;subst f4_;subst f5_))
    refine hK.out _ _ (bn4 ab (bn4 aa ⟨(cW HB bA),(cW HB bx),(cW HB bw),(cW HB bv),(cW HB bu),(cW HB bs),(cW HB br),(cW HB bq)⟩)) (fun hHeld=>?_)
    clear hK K
    refine norm_ (a':=?_) ?_ ?_
    rotate_left
    ·show Act.put _ (some 30) _=_
     simp only [Act.put,List.setIfInBounds_toArray,List.set_cons_zero,List.set_cons_succ,i64_w,i32_w]
     rfl
    refine pA 10 31 HT_ ?_
    refine last_ (i:=11) (N:=none) #[true,true,true,true,true,true,true,true,true,true,true,true] rfl rfl (one_of HT_.out (by kernel_rfl)) (by decide) (fun K hK=>?_)
    have gm:w21.cell? ⟨aq,1,none⟩=some (al):=(blk_cell ab.out 1).trans rfl
    have gg:=blk_frozen ab.out 1
    have eI:=ak.out
    have eJ:=ax.out
    have eK:=aw.out
    have eL:=aI.out
    with_reducible refine skip_ (w1:=?_) (by with_unfolding_all rfl) (by with_unfolding_all rfl) ?_ ?_
    rotate_left
    ·go_simp
     rfl
    refine hK.out _ _ ?_
    clear hK K
    refine done_ (done_of HT_.out (by kernel_rfl)) ?_
    try go_wp2
    go_roundg k1
    case measure=>have:=HK1.out;omega
    case rel=>exact⟨(wrap64 (ag+1)),(dz),(.slice ej dz.length ek),(by first|rfl|(simp;done)|(simp [*];done)),H',⟨by have:=HK1.out;omega⟩,⟨by (with_reducible repeat (first|apply Kd.R_alloc|apply Kd.R_drewN|apply Kd.R_drew));exact Kd.R_mono (Kd.R_far (p:=⟨aq,1,none⟩) (Kd.R_types d7.out ab.out (by decide)) (fun _ hk=>hk.2) (.slice ej dz.length ek)) (fun _ hk=>trivial)⟩,⟨by (with_reducible repeat (first|refine blk_drewN ?_ _|refine blk_drew ?_|refine blk_alloc ?_ _));refine blk_far ?_ ak.out _;(with_reducible repeat (first|refine blk_drewN ?_ _|refine blk_drew ?_|refine blk_alloc ?_ _));exact aa.out⟩,⟨by (with_reducible repeat (first|refine blk_drewN ?_ _|refine blk_drew ?_|refine blk_alloc ?_ _));refine blk_far ?_ ax.out _;(with_reducible repeat (first|refine blk_drewN ?_ _|refine blk_drew ?_|refine blk_alloc ?_ _));exact af.out⟩,⟨by (with_reducible repeat (first|refine blk_drewN ?_ _|refine blk_drew ?_|refine blk_alloc ?_ _));refine blk_put (cs:=#[.bool ai,al,.slice none 0 0,.slice none 0 0]) ?_ 1 _ rfl;(with_reducible repeat (first|refine blk_drewN ?_ _|refine blk_drew ?_|refine blk_alloc ?_ _));exact ab.out⟩,bV HB⟩
 case rest =>
  clear HC2
  try clear c1
  try clear c2
  try clear p2
  try clear p3
  try clear q3
  try clear hx3
  try clear c5
  try clear p6
  try clear c8
  try clear c9
  try clear c11
  try clear aY
  try clear c12
  try clear cJ
  try clear c13
  try clear cT
  try clear c15
  try clear c16
  try clear c17
  try clear c24
  try clear c25
  try clear c27
  try clear c28
  try clear bi bj bk bl
  try clear cw cx cz cA
  try clear cj cm cn cp
  try clear b8 b9 ca cb
  try clear bI bJ bM bN
  try clear bm bn bo bp
  try clear cB cC cD cE
  try clear cq ct cu cv
  try clear cd cf cg ch
  try clear bO bU bX bY
  try clear aJ
  try clear aM
  try clear aN
  try clear aQ
  try clear aT
  try clear aU
  try clear aV
  try clear aW
  try clear p2
  try clear cH
  try clear cI
  obtain⟨kq,ae,al,HA,HJ1,ac,aa,af,ab,HB⟩:=hcut
  cases kq with
  | zero=>exact absurd HA.out (by simp [engrosslaw11_Cut.j1])
  | succ kj1 =>
   have H:=HA.out
   clear HA
   simp only [engrosslaw11_Cut.j1] at H
   have dQ:=aK H
   clear H
   go_upto_block 2 with (fail)
   go_cut [] (fun wc=>∃ (kq:Nat) (ao:List ByteArray) (ay:Value),Aside0 (engrosslaw11_Cut.j3 kq ai aj av ap ai ae ao=some (r1,r2,r3,r4))∧Aside0 (kq≤kj1)∧Aside0 (Kd.R k56 56 wc w.heap.size (fun _=>True) al ae)∧Aside0 (Kd.R Kd.string 9 wc w.heap.size (fun _=>True) ay ao)∧Aside0 (wc.heap[aD]? = some (.cells #[.bool ai,(.slice bf aj.length ba),(.slice bg av.length bb),(.slice bh ap.length bc)] 26 (0,0)))∧Aside0 (wc.heap[am]? = some (.cells #[.bool false,(.slice none 0 0),(.slice none 0 0),(.slice none 0 0)] 26 (0,0)))∧Aside0 (wc.heap[aq]? = some (.cells #[.bool ai,al,ay,(.slice none 0 0)] 26 (0,0)))∧Aside0 (Below w.heap.size w wc))
   case first =>
    have H:=dQ.out
    clear dQ
    have H':=aK H
    clear H
    go_wp2
    go_loopg [5] kj1 (fun kq v5 w'=>∃ (aE:Int) (aC:List ByteArray) (ay:Value),v5 = .int .i64 aE∧Aside0 (engrosslaw11_Cut.l1 kq aE ai aj av ap ai ae aC=some (r1,r2,r3,r4))∧Aside0 (kq≤kj1)∧Aside0 (Kd.R k56 56 w' w.heap.size (fun _=>True) al ae)∧Aside0 (Kd.R Kd.string 9 w' w.heap.size (fun _=>True) ay aC)∧Aside0 (w'.heap[aD]? = some (.cells #[.bool ai,(.slice bf aj.length ba),(.slice bg av.length bb),(.slice bh ap.length bc)] 26 (0,0)))∧Aside0 (w'.heap[am]? = some (.cells #[.bool false,(.slice none 0 0),(.slice none 0 0),(.slice none 0 0)] 26 (0,0)))∧Aside0 (w'.heap[aq]? = some (.cells #[.bool ai,al,ay,(.slice none 0 0)] 26 (0,0)))∧Aside0 (Below w.heap.size w w'))
    case atStart=>exact⟨(0),(([]:List ByteArray)),(.slice none 0 0),(by first|rfl|(simp;done)|(simp [*];done)),H',⟨Nat.le_refl _⟩,⟨by (with_reducible repeat (first|apply Kd.R_alloc|apply Kd.R_drewN|apply Kd.R_drew));exact ac.out⟩,⟨by first|exact Kd.R_nil _ _ _ _ _|exact Kd.N_nil _ _ _ _ _|exact Kd.V_nil _ _ _ _ _|exact Kd.Q_nil _ _ _ _ _|exact Kd.S_nil _ _ _ _ _⟩,bK aa,bK af,bK ab,bV HB⟩
    case round =>
     clear H'
     try clear c1
     try clear c2
     try clear p2
     try clear p3
     try clear q3
     try clear hx3
     try clear c5
     try clear p6
     try clear c8
     try clear c9
     try clear c11
     try clear aY
     try clear c12
     try clear cJ
     try clear c13
     try clear cT
     try clear c15
     try clear c16
     try clear c17
     try clear c24
     try clear c25
     try clear c27
     try clear c28
     try clear bi bj bk bl
     try clear cw cx cz cA
     try clear cj cm cn cp
     try clear b8 b9 ca cb
     try clear bI bJ bM bN
     try clear bm bn bo bp
     try clear cB cC cD cE
     try clear cq ct cu cv
     try clear cd cf cg ch
     try clear bO bU bX bY
     try clear aJ
     try clear aM
     try clear aN
     try clear aQ
     try clear aT
     try clear aU
     try clear aV
     try clear aW
     try clear p2
     try clear p3
     try clear cH
     try clear p6
     try clear q3
     try clear cI
     obtain⟨aE,aC,ay,rfl,HA,HK2,ac,ah,aa,af,ab,HB⟩:=hrel
     cases gk with
     | zero=>exact absurd HA.out (by simp [engrosslaw11_Cut.l1])
     | succ k2 =>
      have H:=HA.out
      clear HA
      simp only [engrosslaw11_Cut.l1] at H
      by_cases c31:aE<(av.length:Int)
      rotate_left
      ·rw [if_neg c31] at H
       have bF:decide (aE<(av.length:Int))=false:=decide_eq_false c31
       clear c31
       (first|rw [bF]|(simp only [i64_w,i32_w];rw [bF])|skip)
       have H':=aK H
       clear H
       have hnb46:=az.out
       have hnc46:=aA.out
       have hnb47:=ak.out
       have hnc47:=aw.out
       obtain⟨cZ,da,db,dc,dd,de,df,dg⟩:=bf4 (w:=wr) aa
       go_wp2
       go_meet
       case rel=>exact⟨_,(aC),(ay),H',⟨by have:=HJ1.out;have:=HK2.out;first|omega|exact Nat.le_refl _⟩,⟨by (with_reducible repeat (first|apply Kd.R_alloc|apply Kd.R_drewN|apply Kd.R_drew));exact ac.out⟩,⟨by (with_reducible repeat (first|apply Kd.R_alloc|apply Kd.R_drewN|apply Kd.R_drew));exact ah.out⟩,bK aa,bK af,bK ab,bV HB⟩
      rw [if_pos c31] at H
      have bF:decide (aE<(av.length:Int))=true:=decide_eq_true c31
      clear c31
      (first|rw [bF]|(simp only [i64_w,i32_w];rw [bF])|skip)
      by_cases c32:aE<40
      rotate_left
      ·rw [if_neg c32] at H
       have dB:decide (aE<40)=false:=decide_eq_false c32
       clear c32
       have H':=aK H
       clear H
       have hnb43:=az.out
       have hnc43:=aA.out
       have hnb44:=ak.out
       have hnc44:=aw.out
       obtain⟨dh,di,dj,dk,dl,dm,dn,dp⟩:=bf4 (w:=wr) aa
       go_wp2
       go_meet
       case rel=>exact⟨_,(aC),(ay),H',⟨by have:=HJ1.out;have:=HK2.out;first|omega|exact Nat.le_refl _⟩,⟨by (with_reducible repeat (first|apply Kd.R_alloc|apply Kd.R_drewN|apply Kd.R_drew));exact ac.out⟩,⟨by (with_reducible repeat (first|apply Kd.R_alloc|apply Kd.R_drewN|apply Kd.R_drew));exact ah.out⟩,bK aa,bK af,bK ab,bV HB⟩
      rw [if_pos c32] at H
      have dB:decide (aE<40)=true:=decide_eq_true c32
      clear c32
      by_cases c33:0≤aE
      rotate_left
      ·rw [if_neg c33] at H
       exact absurd H (by simp)
      rw [if_pos c33] at H
      have d8:decide (0≤aE)=true:=decide_eq_true c33
      clear c33
      replace H:=oS H
      obtain⟨cU,em,H⟩:=H
      replace H:(if aC.length<8796093022208 then (engrosslaw11_Cut.l1 k2 (wrap64 (aE+1)) ai aj av ap ai ae (aC++[cU])) else (none))=some (r1,r2,r3,r4):=H
      have A34:=aK em
      clear em
      by_cases c35:aC.length<8796093022208
      rotate_left
      ·rw [if_neg c35] at H
       exact absurd H (by simp)
      rw [if_pos c35] at H
      have LMc35:=aK c35
      clear c35
      obtain⟨cV,hy368⟩:∃ y_:List ByteArray,y_=(aC++[cU]):=⟨_,rfl⟩
      replace H:(engrosslaw11_Cut.l1 k2 (wrap64 (aE+1)) ai aj av ap ai ae cV)=some (r1,r2,r3,r4):=by first|(rw [hy368];with_reducible exact H)|(have H2_:=(Option.bind_some _ _).symm.trans H;rw [hy368];with_reducible exact H2_)|(have H2_:=(Option.bind_some _ _).symm.trans H;with_reducible exact H2_)|with_reducible exact H|(rw [hy368];exact H)|exact H
      have Ny368:=aK hy368
      clear hy368
      have H':=aK H
      clear H
      have hnb36:=az.out
      have hnc36:=aA.out
      have hnb37:=ak.out
      have hnc37:=aw.out
      obtain⟨dq,dr,dt,du,dv,dw,dx,dy⟩:=bf4 (w:=wr) aa
      try go_wp2
      replace ac:=aK (Kd.R_drew ac.out)
      replace ah:=aK (Kd.R_drew ah.out)
      replace aa:=aK (blk_drew aa.out)
      replace af:=aK (blk_drew af.out)
      replace ab:=aK (blk_drew ab.out)
      replace HB:=aK (below_drew1 HB.out)
      have cX:0≤(aE:Int):=dA
      have cY:aE<(av.length:Int):=dA
      obtain⟨d9,e366,aZ⟩:=Kd.at_string ev.out aE cX cY
      have bD:=aZ
      cases e366
      replace aZ:=cW HB aZ
      replace cX:=eq_true cX
      replace cY:=eq_true cY
      refine start_ (n:=12) (S:=fun w'=>w'.cell? ⟨aq,0,none⟩=some (.bool ai)∧w'.cell? ⟨aq,1,none⟩=some (al)∧w'.cell? ⟨aq,2,none⟩=some (ay)∧w'.cell? ⟨aq,3,none⟩=some (.slice none 0 0)∧w'.cell? ⟨aD,0,none⟩=some (.bool ai)∧w'.cell? ⟨aD,1,none⟩=some (.slice bf aj.length ba)∧w'.cell? ⟨aD,2,none⟩=some (.slice (some d9) av.length bb)∧w'.cell? ⟨aD,3,none⟩=some (.slice bh ap.length bc)∧w'.cell? (d9.add (aE).toNat)=some (.string (rdOf ByteArray.empty av aE))) (ds:=[11]) #[false,false,false,false,false,false,false,false,false,false,false,false] (by kernel_rfl) rfl rfl (bn4 ab (bn4 aa ((cW HB bD)))) (fun hHeld=>?_);refine with_tabW engrosslaw11_Cut.tab9 engrosslaw11_Cut.bits9 (fun HT_ HW_=>?_)
      generalize wr.drew=w39 at ac ah aa af ab HB aZ hHeld ⊢
      refine pA 0 43 HT_ ?_
      refine pA 2 45 HT_ ?_
      refine pA 4 47 HT_ ?_
      refine tA 1 44 HT_ HW_ hHeld ?_ (hy:=by rintro w' ⟨s0,s1,s2,s3,s4,s5,s6,s7,s8⟩;go_simp;with_reducible rfl)
      refine tA 3 46 HT_ HW_ hHeld ?_ (hy:=by rintro w' ⟨s0,s1,s2,s3,s4,s5,s6,s7,s8⟩;go_simp;with_reducible rfl)
      refine pA 5 48 HT_ ?_
      refine tA 6 49 HT_ HW_ hHeld ?_ (hy:=by rintro w' ⟨s0,s1,s2,s3,s4,s5,s6,s7,s8⟩;go_simp;with_reducible rfl)
      refine oA 7 (some 50) HT_ (fun K hK=>?_)
      refine goes_ Try.func13 (by kernel_rfl) rfl #[.string (rdOf ByteArray.empty av aE),.int .i64 20] (by rfl) rfl rfl (by (try simp only [List.map_toArray,List.map_cons,List.map_nil]);first|done|rfl|(simp only [List.length_drop,List.length_take];rfl)) ?_
      with_reducible refine (engrosslaw1_Cut.calls (rdOf ByteArray.empty av aE) 20 cU _ A34.out).mono ?_
      rintro e w' ⟨rfl,⟨nd,rfl⟩⟩
      refine⟨_,rfl,?_⟩
      refine hK.out _ _ (bn4 ab (bn4 aa ((cW HB bD)))) (fun hHeld=>?_)
      clear hK K
      refine norm_ (a':=?_) ?_ ?_
      rotate_left
      ·show Act.put _ (some 50) _=_
       simp only [Act.put,List.setIfInBounds_toArray,List.set_cons_zero,List.set_cons_succ,i64_w,i32_w]
       rfl
      refine oA 8 (some 51) HT_ (fun K hK=>?_)
      refine value_ (w1:=?_) (v:=?_) (by rfl) rfl ?_ ?_
      rotate_left 2
      ·go_simp
       constructor
       ·rfl
       ·rfl
      refine hK.out _ _ ⟨(blk_cell (blk_alloc ab.out _) 0).trans rfl,(blk_cell (blk_alloc ab.out _) 1).trans rfl,(blk_cell (blk_alloc ab.out _) 2).trans rfl,(blk_cell (blk_alloc ab.out _) 3).trans rfl,(blk_cell (blk_alloc aa.out _) 0).trans rfl,(blk_cell (blk_alloc aa.out _) 1).trans rfl,(blk_cell (blk_alloc aa.out _) 2).trans rfl,(blk_cell (blk_alloc aa.out _) 3).trans rfl,(World.cell?_alloc_lt _ _ _ (World.block_lt_of_cell? _ _ ((cW HB bD)))).trans ((cW HB bD))⟩ (fun hHeld=>?_)
      clear hK K
      refine norm_ (a':=?_) ?_ ?_
      rotate_left
      ·show Act.put _ (some 51) _=_
       simp only [Act.put,List.setIfInBounds_toArray,List.set_cons_zero,List.set_cons_succ,i64_w,i32_w]
       rfl
      refine oA 9 (some 52) HT_ (fun K hK=>?_)
      refine Kd.R_append_step Kd.string (w0:=w) w.heap.size (by rfl) (.tmp 44) (.tmp 51) 23 9 (.string ⟨#[]⟩) 16 rfl Try.underlying23 info9 rfl (by decide) (by omega) ay aC cU [.string cU] (fun _=>True) (fun _=>False) rfl rfl ?aP (fun _ hk=>hk.elim) ?aF ?aO ?aB ?aS ?aL ?_
      (case aP=>exact rfl)
      (case aB=>exact (bC HB))
      (case aF=>exact (fun _ _=>trivial))
      (case aO=>exact (by (with_reducible repeat (first|apply Kd.R_alloc|apply Kd.R_drewN|apply Kd.R_drew));exact ah.out))
      (case aS=>exact (below_size (bC HB)))
      (case aL=>have:=LMc35.out;omega)
      intro gn w40 ho hb hg hat
      rw [← Ny368.out] at ho
      have ed:=aK (ho)
      replace ac:=aK (Kd.R_over' (by (with_reducible repeat (first|apply Kd.R_alloc|apply Kd.R_drewN|apply Kd.R_drew));exact ac.out) (Kd.R_typed (by (with_reducible repeat (first|apply Kd.R_alloc|apply Kd.R_drewN|apply Kd.R_drew));exact ah.out)) (by decide) hg)
      replace aa:=aK (blk_grown (bQ aa) hg (Kd.R_ne ah.out aa.out (by decide)))
      replace af:=aK (blk_grown (bQ af) hg (Kd.R_ne ah.out af.out (by decide)))
      replace ab:=aK (blk_grown (bQ ab) hg (Kd.R_ne ah.out ab.out (by decide)))
      replace HB:=aK (hb)
      clear ah
      clear ho hb hg hat
      obtain⟨dR,dS,ep⟩:=Kd.R_slice ed.out
      (first|subst ep|(injection ep with f1_ f2_ f3_;have f4_:=f1_.symm;have f5_:=f3_.symm;clear f1_ f2_ f3_;subst f4_;subst f5_))
      refine hK.out _ _ (bn4 ab (bn4 aa ((cW HB bD)))) (fun hHeld=>?_)
      clear hK K
      refine norm_ (a':=?_) ?_ ?_
      rotate_left
      ·show Act.put _ (some 52) _=_
       simp only [Act.put,List.setIfInBounds_toArray,List.set_cons_zero,List.set_cons_succ,i64_w,i32_w]
       rfl
      refine pA 10 53 HT_ ?_
      refine last_ (i:=11) (N:=none) #[true,true,true,true,true,true,true,true,true,true,true,true] rfl rfl (one_of HT_.out (by kernel_rfl)) (by decide) (fun K hK=>?_)
      have go:w40.cell? ⟨aq,2,none⟩=some (ay):=(blk_cell ab.out 2).trans rfl
      have gh:=blk_frozen ab.out 2
      have eM:=ak.out
      have eN:=ax.out
      have eO:=aw.out
      have eP:=aI.out
      with_reducible refine skip_ (w1:=?_) (by with_unfolding_all rfl) (by with_unfolding_all rfl) ?_ ?_
      rotate_left
      ·go_simp
       rfl
      refine hK.out _ _ ?_
      clear hK K
      refine done_ (done_of HT_.out (by kernel_rfl)) ?_
      try go_wp2
      go_roundg k2
      case measure=>have:=HJ1.out;have:=HK2.out;omega
      case rel=>exact⟨(wrap64 (aE+1)),(cV),(.slice dR cV.length dS),(by first|rfl|(simp;done)|(simp [*];done)),H',⟨by have:=HJ1.out;have:=HK2.out;omega⟩,⟨by (with_reducible repeat (first|apply Kd.R_alloc|apply Kd.R_drewN|apply Kd.R_drew));exact Kd.R_mono (Kd.R_far (p:=⟨aq,2,none⟩) (Kd.R_types ac.out ab.out (by decide)) (fun _ hk=>hk.2) (.slice dR cV.length dS)) (fun _ hk=>trivial)⟩,⟨by (with_reducible repeat (first|apply Kd.R_alloc|apply Kd.R_drewN|apply Kd.R_drew));exact Kd.R_mono (Kd.R_far (p:=⟨aq,2,none⟩) (Kd.R_types ed.out ab.out (by decide)) (fun _ hk=>hk.2) (.slice dR cV.length dS)) (fun _ hk=>trivial)⟩,⟨by (with_reducible repeat (first|refine blk_drewN ?_ _|refine blk_drew ?_|refine blk_alloc ?_ _));refine blk_far ?_ ak.out _;(with_reducible repeat (first|refine blk_drewN ?_ _|refine blk_drew ?_|refine blk_alloc ?_ _));exact aa.out⟩,⟨by (with_reducible repeat (first|refine blk_drewN ?_ _|refine blk_drew ?_|refine blk_alloc ?_ _));refine blk_far ?_ ax.out _;(with_reducible repeat (first|refine blk_drewN ?_ _|refine blk_drew ?_|refine blk_alloc ?_ _));exact af.out⟩,⟨by (with_reducible repeat (first|refine blk_drewN ?_ _|refine blk_drew ?_|refine blk_alloc ?_ _));refine blk_put (cs:=#[.bool ai,al,ay,.slice none 0 0]) ?_ 2 _ rfl;(with_reducible repeat (first|refine blk_drewN ?_ _|refine blk_drew ?_|refine blk_alloc ?_ _));exact ab.out⟩,bV HB⟩
   case rest =>
    clear dQ
    try clear c1
    try clear c2
    try clear p2
    try clear c3
    try clear p3
    try clear q3
    try clear hx3
    try clear c4
    try clear c5
    try clear p6
    try clear c8
    try clear c9
    try clear c11
    try clear aY
    try clear c12
    try clear cJ
    try clear c13
    try clear cT
    try clear c15
    try clear c16
    try clear c17
    try clear c24
    try clear c25
    try clear c27
    try clear c28
    try clear c31
    try clear bF
    try clear c32
    try clear dB
    try clear c33
    try clear d8
    try clear c35
    try clear p35
    try clear q35
    try clear eA
    try clear c36
    try clear p36
    try clear q36
    try clear eB
    try clear c37
    try clear c43
    try clear c44
    try clear c46
    try clear c47
    try clear bi bj bk bl
    try clear cw cx cz cA
    try clear cj cm cn cp
    try clear b8 b9 ca cb
    try clear dq dr dt du
    try clear dh di dj dk
    try clear cZ da db dc
    try clear bI bJ bM bN
    try clear bm bn bo bp
    try clear cB cC cD cE
    try clear cq ct cu cv
    try clear cd cf cg ch
    try clear dv dw dx dy
    try clear dl dm dn dp
    try clear dd de df dg
    try clear bO bU bX bY
    try clear aJ
    try clear aM
    try clear aN
    try clear aQ
    try clear aT
    try clear aU
    try clear aV
    try clear aW
    try clear aZ
    try clear p2
    try clear p3
    try clear cH
    try clear cX
    try clear p6
    try clear q3
    try clear cI
    try clear cY
    obtain⟨kq,ao,ay,HA,er,ac,ah,aa,af,ab,HB⟩:=hcut
    cases kq with
    | zero=>exact absurd HA.out (by simp [engrosslaw11_Cut.j3])
    | succ es =>
     have H:=HA.out
     clear HA
     simp only [engrosslaw11_Cut.j3] at H
     have H':=aK H
     clear H
     go_wp2
     go_loopg [6] es (fun kq v6 w'=>∃ (aG:Int) (ar:List Int) (aX:Value),v6 = .int .i64 aG∧Aside0 (engrosslaw11_Cut.l2 kq aG ai aj av ap ai ae ao ar=some (r1,r2,r3,r4))∧Aside0 (kq≤es)∧Aside0 (Kd.R k56 56 w' w.heap.size (fun _=>True) al ae)∧Aside0 (Kd.R Kd.string 9 w' w.heap.size (fun _=>True) ay ao)∧Aside0 (Kd.R (Kd.int .i64) 3 w' w.heap.size (fun _=>True) aX ar)∧Aside0 (w'.heap[aD]? = some (.cells #[.bool ai,(.slice bf aj.length ba),(.slice bg av.length bb),(.slice bh ap.length bc)] 26 (0,0)))∧Aside0 (w'.heap[am]? = some (.cells #[.bool false,(.slice none 0 0),(.slice none 0 0),(.slice none 0 0)] 26 (0,0)))∧Aside0 (w'.heap[aq]? = some (.cells #[.bool ai,al,ay,aX] 26 (0,0)))∧Aside0 (Below w.heap.size w w'))
     case atStart=>exact⟨(0),(([]:List Int)),(.slice none 0 0),(by first|rfl|(simp;done)|(simp [*];done)),H',⟨Nat.le_refl _⟩,⟨by (with_reducible repeat (first|apply Kd.R_alloc|apply Kd.R_drewN|apply Kd.R_drew));exact ac.out⟩,⟨by (with_reducible repeat (first|apply Kd.R_alloc|apply Kd.R_drewN|apply Kd.R_drew));exact ah.out⟩,⟨by first|exact Kd.R_nil _ _ _ _ _|exact Kd.N_nil _ _ _ _ _|exact Kd.V_nil _ _ _ _ _|exact Kd.Q_nil _ _ _ _ _|exact Kd.S_nil _ _ _ _ _⟩,bK aa,bK af,bK ab,bV HB⟩
     case round =>
      clear H'
      try clear c1
      try clear c2
      try clear p2
      try clear c3
      try clear p3
      try clear q3
      try clear hx3
      try clear c4
      try clear c5
      try clear p6
      try clear c8
      try clear c9
      try clear c11
      try clear aY
      try clear c12
      try clear cJ
      try clear c13
      try clear cT
      try clear c15
      try clear c16
      try clear c17
      try clear c24
      try clear c25
      try clear c27
      try clear c28
      try clear c31
      try clear bF
      try clear c32
      try clear dB
      try clear c33
      try clear d8
      try clear c35
      try clear p35
      try clear q35
      try clear eA
      try clear c36
      try clear p36
      try clear q36
      try clear eB
      try clear c37
      try clear c43
      try clear c44
      try clear c46
      try clear c47
      try clear bi bj bk bl
      try clear cw cx cz cA
      try clear cj cm cn cp
      try clear b8 b9 ca cb
      try clear dq dr dt du
      try clear dh di dj dk
      try clear cZ da db dc
      try clear bI bJ bM bN
      try clear bm bn bo bp
      try clear cB cC cD cE
      try clear cq ct cu cv
      try clear cd cf cg ch
      try clear dv dw dx dy
      try clear dl dm dn dp
      try clear dd de df dg
      try clear bO bU bX bY
      try clear aJ
      try clear aM
      try clear aN
      try clear aQ
      try clear aT
      try clear aU
      try clear aV
      try clear aW
      try clear aZ
      try clear p2
      try clear p3
      try clear p35
      try clear cH
      try clear p36
      try clear cX
      try clear p6
      try clear q3
      try clear q35
      try clear cI
      try clear q36
      try clear cY
      obtain⟨aG,ar,aX,rfl,HA,HK3,ac,ah,au,aa,af,ab,HB⟩:=hrel
      cases gk with
      | zero=>exact absurd HA.out (by simp [engrosslaw11_Cut.l2])
      | succ k3 =>
       have H:=HA.out
       clear HA
       simp only [engrosslaw11_Cut.l2] at H
       by_cases c49:aG<(ap.length:Int)
       rotate_left
       ·rw [if_neg c49] at H
        have ey:decide (aG<(ap.length:Int))=false:=decide_eq_false c49
        clear c49
        simp only [Option.some.injEq,Prod.mk.injEq] at H
        obtain⟨rfl,rfl,rfl,rfl⟩:=H
        have hnb69:=az.out
        have hnc69:=aA.out
        have hnb70:=ak.out
        have hnc70:=aw.out
        obtain⟨eQ,eR,eS,eT,eU,eV,eW,eX⟩:=bf4 (w:=wr) aa
        have hnb72:=aI.out
        have hnc72:=ax.out
        obtain⟨eY,eZ,e8,e9,fa,fb,fd,fe⟩:=bf4 (w:=wr) ab
        obtain⟨ff,fg,fh,fi,fj,fk,fl,fm⟩:=bf4 (w:=wr) af
        obtain⟨dC,dD,eC⟩:=Kd.R_slice ac.out
        subst eC
        obtain⟨dE,dF,eD⟩:=Kd.R_slice ah.out
        subst eD
        obtain⟨dG,dH,eE⟩:=Kd.R_slice au.out
        subst eE
        go_wp2
        refine bodyPost_ret (results_cell_row rfl _ _ am 26 #[.bool ai,.slice dC ae.length dD,.slice dE ao.length dF,.slice dG ar.length dH] (0,0) _ rfl (bR af) Try.underlying26 rfl (by kernel_rfl)) rfl ?_
        exact⟨_,_,_,by first|rfl|(simp [errW_none,errW_some] <;> rfl)|(simp [*,errW_none,errW_some] <;> rfl),by (with_reducible repeat (first|apply Kd.R_alloc|apply Kd.R_drewN|apply Kd.R_drew));exact Kd.R_mono (Kd.R_far (p:=⟨am,3,none⟩) (Kd.R_far (p:=⟨am,2,none⟩) (Kd.R_far (p:=⟨am,1,none⟩) (Kd.R_far (p:=⟨am,0,none⟩) (Kd.R_types ac.out af.out (by decide)) (fun _ hk=>hk.2) (.bool ai)) (fun _ hk=>hk.2) (.slice dC ae.length dD)) (fun _ hk=>hk.2) (.slice dE ao.length dF)) (fun _ hk=>hk.2) (.slice dG ar.length dH)) (fun _ hk=>trivial),by (with_reducible repeat (first|apply Kd.R_alloc|apply Kd.R_drewN|apply Kd.R_drew));exact Kd.R_mono (Kd.R_far (p:=⟨am,3,none⟩) (Kd.R_far (p:=⟨am,2,none⟩) (Kd.R_far (p:=⟨am,1,none⟩) (Kd.R_far (p:=⟨am,0,none⟩) (Kd.R_types ah.out af.out (by decide)) (fun _ hk=>hk.2) (.bool ai)) (fun _ hk=>hk.2) (.slice dC ae.length dD)) (fun _ hk=>hk.2) (.slice dE ao.length dF)) (fun _ hk=>hk.2) (.slice dG ar.length dH)) (fun _ hk=>trivial),by (with_reducible repeat (first|apply Kd.R_alloc|apply Kd.R_drewN|apply Kd.R_drew));exact Kd.R_mono (Kd.R_far (p:=⟨am,3,none⟩) (Kd.R_far (p:=⟨am,2,none⟩) (Kd.R_far (p:=⟨am,1,none⟩) (Kd.R_far (p:=⟨am,0,none⟩) (Kd.R_types au.out af.out (by decide)) (fun _ hk=>hk.2) (.bool ai)) (fun _ hk=>hk.2) (.slice dC ae.length dD)) (fun _ hk=>hk.2) (.slice dE ao.length dF)) (fun _ hk=>hk.2) (.slice dG ar.length dH)) (fun _ hk=>trivial),by repeat (first|(with_reducible first|exact HB.out|apply below_alloc|apply pw_below_drewN|apply below_drew1|refine below_set ?_ d4.out|refine below_set ?_ d5.out|refine below_set ?_ d6.out)|exact HB.out)⟩
       rw [if_pos c49] at H
       have ey:decide (aG<(ap.length:Int))=true:=decide_eq_true c49
       clear c49
       by_cases c50:aG<40
       rotate_left
       ·rw [if_neg c50] at H
        have ez:decide (aG<40)=false:=decide_eq_false c50
        clear c50
        simp only [Option.some.injEq,Prod.mk.injEq] at H
        obtain⟨rfl,rfl,rfl,rfl⟩:=H
        have hnb60:=az.out
        have hnc60:=aA.out
        have hnb61:=ak.out
        have hnc61:=aw.out
        obtain⟨fp,fq,ft,fu,fv,fw,fz,fA⟩:=bf4 (w:=wr) aa
        have hnb63:=aI.out
        have hnc63:=ax.out
        obtain⟨fB,fC,fD,fE,fF,fG,fH,fI⟩:=bf4 (w:=wr) ab
        obtain⟨fJ,fK,fL,fM,fN,fO,fP,fQ⟩:=bf4 (w:=wr) af
        obtain⟨dI,dJ,eF⟩:=Kd.R_slice ac.out
        subst eF
        obtain⟨dK,dL,eG⟩:=Kd.R_slice ah.out
        subst eG
        obtain⟨dM,dN,eH⟩:=Kd.R_slice au.out
        subst eH
        go_wp2
        refine bodyPost_ret (results_cell_row rfl _ _ am 26 #[.bool ai,.slice dI ae.length dJ,.slice dK ao.length dL,.slice dM ar.length dN] (0,0) _ rfl (bR af) Try.underlying26 rfl (by kernel_rfl)) rfl ?_
        exact⟨_,_,_,by first|rfl|(simp [errW_none,errW_some] <;> rfl)|(simp [*,errW_none,errW_some] <;> rfl),by (with_reducible repeat (first|apply Kd.R_alloc|apply Kd.R_drewN|apply Kd.R_drew));exact Kd.R_mono (Kd.R_far (p:=⟨am,3,none⟩) (Kd.R_far (p:=⟨am,2,none⟩) (Kd.R_far (p:=⟨am,1,none⟩) (Kd.R_far (p:=⟨am,0,none⟩) (Kd.R_types ac.out af.out (by decide)) (fun _ hk=>hk.2) (.bool ai)) (fun _ hk=>hk.2) (.slice dI ae.length dJ)) (fun _ hk=>hk.2) (.slice dK ao.length dL)) (fun _ hk=>hk.2) (.slice dM ar.length dN)) (fun _ hk=>trivial),by (with_reducible repeat (first|apply Kd.R_alloc|apply Kd.R_drewN|apply Kd.R_drew));exact Kd.R_mono (Kd.R_far (p:=⟨am,3,none⟩) (Kd.R_far (p:=⟨am,2,none⟩) (Kd.R_far (p:=⟨am,1,none⟩) (Kd.R_far (p:=⟨am,0,none⟩) (Kd.R_types ah.out af.out (by decide)) (fun _ hk=>hk.2) (.bool ai)) (fun _ hk=>hk.2) (.slice dI ae.length dJ)) (fun _ hk=>hk.2) (.slice dK ao.length dL)) (fun _ hk=>hk.2) (.slice dM ar.length dN)) (fun _ hk=>trivial),by (with_reducible repeat (first|apply Kd.R_alloc|apply Kd.R_drewN|apply Kd.R_drew));exact Kd.R_mono (Kd.R_far (p:=⟨am,3,none⟩) (Kd.R_far (p:=⟨am,2,none⟩) (Kd.R_far (p:=⟨am,1,none⟩) (Kd.R_far (p:=⟨am,0,none⟩) (Kd.R_types au.out af.out (by decide)) (fun _ hk=>hk.2) (.bool ai)) (fun _ hk=>hk.2) (.slice dI ae.length dJ)) (fun _ hk=>hk.2) (.slice dK ao.length dL)) (fun _ hk=>hk.2) (.slice dM ar.length dN)) (fun _ hk=>trivial),by repeat (first|(with_reducible first|exact HB.out|apply below_alloc|apply pw_below_drewN|apply below_drew1|refine below_set ?_ d4.out|refine below_set ?_ d5.out|refine below_set ?_ d6.out)|exact HB.out)⟩
       rw [if_pos c50] at H
       have ez:decide (aG<40)=true:=decide_eq_true c50
       clear c50
       by_cases c51:0≤aG
       rotate_left
       ·rw [if_neg c51] at H
        exact absurd H (by simp)
       rw [if_pos c51] at H
       have gi:decide (0≤aG)=true:=decide_eq_true c51
       clear c51
       by_cases c52:ar.length<17592186044416
       rotate_left
       ·rw [if_neg c52] at H
        exact absurd H (by simp)
       rw [if_pos c52] at H
       have LMc52:=aK c52
       clear c52
       obtain⟨cS,hy372⟩:∃ y_:List Int,y_=(ar++[rd ap aG]):=⟨_,rfl⟩
       replace H:(engrosslaw11_Cut.l2 k3 (wrap64 (aG+1)) ai aj av ap ai ae ao cS)=some (r1,r2,r3,r4):=by first|(rw [hy372];with_reducible exact H)|(have H2_:=(Option.bind_some _ _).symm.trans H;rw [hy372];with_reducible exact H2_)|(have H2_:=(Option.bind_some _ _).symm.trans H;with_reducible exact H2_)|with_reducible exact H|(rw [hy372];exact H)|exact H
       have Ny372:=aK hy372
       clear hy372
       have H':=aK H
       clear H
       have hnb53:=az.out
       have hnc53:=aA.out
       have hnb54:=ak.out
       have hnc54:=aw.out
       obtain⟨fR,fS,fT,fU,fV,fW,fX,fY⟩:=bf4 (w:=wr) aa
       try go_wp2
       replace ac:=aK (Kd.R_drew ac.out)
       replace ah:=aK (Kd.R_drew ah.out)
       replace au:=aK (Kd.R_drew au.out)
       replace aa:=aK (blk_drew aa.out)
       replace af:=aK (blk_drew af.out)
       replace ab:=aK (blk_drew ab.out)
       replace HB:=aK (below_drew1 HB.out)
       have dT:0≤(aG:Int):=dA
       have dU:aG<(ap.length:Int):=dA
       obtain⟨eg,e371,cF⟩:=Kd.at_int ex.out aG dT dU
       have cG:=cF
       cases e371
       replace cF:=cW HB cF
       replace dT:=eq_true dT
       replace dU:=eq_true dU
       refine start_ (n:=11) (S:=fun w'=>w'.cell? ⟨aq,0,none⟩=some (.bool ai)∧w'.cell? ⟨aq,1,none⟩=some (al)∧w'.cell? ⟨aq,2,none⟩=some (ay)∧w'.cell? ⟨aq,3,none⟩=some (aX)∧w'.cell? ⟨aD,0,none⟩=some (.bool ai)∧w'.cell? ⟨aD,1,none⟩=some (.slice bf aj.length ba)∧w'.cell? ⟨aD,2,none⟩=some (.slice bg av.length bb)∧w'.cell? ⟨aD,3,none⟩=some (.slice (some eg) ap.length bc)∧w'.cell? (eg.add (aG).toNat)=some (.int .i64 (rd ap aG))) (ds:=[10]) #[false,false,false,false,false,false,false,false,false,false,false] (by kernel_rfl) rfl rfl (bn4 ab (bn4 aa ((cW HB cG)))) (fun hHeld=>?_);refine with_tabW engrosslaw11_Cut.tab13 engrosslaw11_Cut.bits13 (fun HT_ HW_=>?_)
       generalize wr.drew=w56 at ac ah au aa af ab HB cF hHeld ⊢
       refine pA 0 65 HT_ ?_
       refine pA 2 67 HT_ ?_
       refine pA 4 69 HT_ ?_
       refine tA 1 66 HT_ HW_ hHeld ?_ (hy:=by rintro w' ⟨s0,s1,s2,s3,s4,s5,s6,s7,s8⟩;go_simp;with_reducible rfl)
       refine tA 3 68 HT_ HW_ hHeld ?_ (hy:=by rintro w' ⟨s0,s1,s2,s3,s4,s5,s6,s7,s8⟩;go_simp;with_reducible rfl)
       refine pA 5 70 HT_ ?_
       refine tA 6 71 HT_ HW_ hHeld ?_ (hy:=by rintro w' ⟨s0,s1,s2,s3,s4,s5,s6,s7,s8⟩;go_simp;with_reducible rfl)
       refine oA 7 (some 72) HT_ (fun K hK=>?_)
       refine value_ (w1:=?_) (v:=?_) (by rfl) rfl ?_ ?_
       rotate_left 2
       ·go_simp
        constructor
        ·rfl
        ·rfl
       refine hK.out _ _ ⟨(blk_cell (blk_alloc ab.out _) 0).trans rfl,(blk_cell (blk_alloc ab.out _) 1).trans rfl,(blk_cell (blk_alloc ab.out _) 2).trans rfl,(blk_cell (blk_alloc ab.out _) 3).trans rfl,(blk_cell (blk_alloc aa.out _) 0).trans rfl,(blk_cell (blk_alloc aa.out _) 1).trans rfl,(blk_cell (blk_alloc aa.out _) 2).trans rfl,(blk_cell (blk_alloc aa.out _) 3).trans rfl,(World.cell?_alloc_lt _ _ _ (World.block_lt_of_cell? _ _ ((cW HB cG)))).trans ((cW HB cG))⟩ (fun hHeld=>?_)
       clear hK K
       refine norm_ (a':=?_) ?_ ?_
       rotate_left
       ·show Act.put _ (some 72) _=_
        simp only [Act.put,List.setIfInBounds_toArray,List.set_cons_zero,List.set_cons_succ,i64_w,i32_w]
        rfl
       refine oA 8 (some 73) HT_ (fun K hK=>?_)
       refine Kd.R_append_step (Kd.int .i64) (w0:=w) w.heap.size (by rfl) (.tmp 66) (.tmp 72) 24 3 (.int .i64 0) 8 rfl Try.underlying24 info3 rfl (by decide) (by omega) aX ar (rd ap aG) [.int .i64 (rd ap aG)] (fun _=>True) (fun _=>False) rfl rfl ?aP (fun _ hk=>hk.elim) ?aF ?aO ?aB ?aS ?aL ?_
       (case aP=>exact rfl)
       (case aB=>exact (bC HB))
       (case aF=>exact (fun _ _=>trivial))
       (case aO=>exact (by (with_reducible repeat (first|apply Kd.R_alloc|apply Kd.R_drewN|apply Kd.R_drew));exact au.out))
       (case aS=>exact (below_size (bC HB)))
       (case aL=>have:=LMc52.out;omega)
       intro gp w57 ho hb hg hat
       rw [← Ny372.out] at ho
       have eh:=aK (ho)
       replace ac:=aK (Kd.R_over' (by (with_reducible repeat (first|apply Kd.R_alloc|apply Kd.R_drewN|apply Kd.R_drew));exact ac.out) (Kd.R_typed (by (with_reducible repeat (first|apply Kd.R_alloc|apply Kd.R_drewN|apply Kd.R_drew));exact au.out)) (by decide) hg)
       replace ah:=aK (Kd.R_over' (by (with_reducible repeat (first|apply Kd.R_alloc|apply Kd.R_drewN|apply Kd.R_drew));exact ah.out) (Kd.R_typed (by (with_reducible repeat (first|apply Kd.R_alloc|apply Kd.R_drewN|apply Kd.R_drew));exact au.out)) (by decide) hg)
       replace aa:=aK (blk_grown (bQ aa) hg (Kd.R_ne au.out aa.out (by decide)))
       replace af:=aK (blk_grown (bQ af) hg (Kd.R_ne au.out af.out (by decide)))
       replace ab:=aK (blk_grown (bQ ab) hg (Kd.R_ne au.out ab.out (by decide)))
       replace HB:=aK (hb)
       clear au
       clear ho hb hg hat
       obtain⟨dO,dP,et⟩:=Kd.R_slice eh.out
       (first|subst et|(injection et with f1_ f2_ f3_;have f4_:=f1_.symm;have f5_:=f3_.symm;clear f1_ f2_ f3_;subst f4_;subst f5_))
       refine hK.out _ _ (bn4 ab (bn4 aa ((cW HB cG)))) (fun hHeld=>?_)
       clear hK K
       refine norm_ (a':=?_) ?_ ?_
       rotate_left
       ·show Act.put _ (some 73) _=_
        simp only [Act.put,List.setIfInBounds_toArray,List.set_cons_zero,List.set_cons_succ,i64_w,i32_w]
        rfl
       refine pA 9 74 HT_ ?_
       refine last_ (i:=10) (N:=none) #[true,true,true,true,true,true,true,true,true,true,true] rfl rfl (one_of HT_.out (by kernel_rfl)) (by decide) (fun K hK=>?_)
       have gq:w57.cell? ⟨aq,3,none⟩=some (aX):=(blk_cell ab.out 3).trans rfl
       have gj:=blk_frozen ab.out 3
       have fZ:=ak.out
       have f4:=ax.out
       have f5:=aw.out
       have f6:=aI.out
       with_reducible refine skip_ (w1:=?_) (by with_unfolding_all rfl) (by with_unfolding_all rfl) ?_ ?_
       rotate_left
       ·go_simp
        rfl
       refine hK.out _ _ ?_
       clear hK K
       refine done_ (done_of HT_.out (by kernel_rfl)) ?_
       try go_wp2
       go_roundg k3
       case measure=>have:=HJ1.out;have:=er.out;have:=HK3.out;omega
       case rel=>exact⟨(wrap64 (aG+1)),(cS),(.slice dO cS.length dP),(by first|rfl|(simp;done)|(simp [*];done)),H',⟨by have:=HJ1.out;have:=er.out;have:=HK3.out;omega⟩,⟨by (with_reducible repeat (first|apply Kd.R_alloc|apply Kd.R_drewN|apply Kd.R_drew));exact Kd.R_mono (Kd.R_far (p:=⟨aq,3,none⟩) (Kd.R_types ac.out ab.out (by decide)) (fun _ hk=>hk.2) (.slice dO cS.length dP)) (fun _ hk=>trivial)⟩,⟨by (with_reducible repeat (first|apply Kd.R_alloc|apply Kd.R_drewN|apply Kd.R_drew));exact Kd.R_mono (Kd.R_far (p:=⟨aq,3,none⟩) (Kd.R_types ah.out ab.out (by decide)) (fun _ hk=>hk.2) (.slice dO cS.length dP)) (fun _ hk=>trivial)⟩,⟨by (with_reducible repeat (first|apply Kd.R_alloc|apply Kd.R_drewN|apply Kd.R_drew));exact Kd.R_mono (Kd.R_far (p:=⟨aq,3,none⟩) (Kd.R_types eh.out ab.out (by decide)) (fun _ hk=>hk.2) (.slice dO cS.length dP)) (fun _ hk=>trivial)⟩,⟨by (with_reducible repeat (first|refine blk_drewN ?_ _|refine blk_drew ?_|refine blk_alloc ?_ _));refine blk_far ?_ ak.out _;(with_reducible repeat (first|refine blk_drewN ?_ _|refine blk_drew ?_|refine blk_alloc ?_ _));exact aa.out⟩,⟨by (with_reducible repeat (first|refine blk_drewN ?_ _|refine blk_drew ?_|refine blk_alloc ?_ _));refine blk_far ?_ ax.out _;(with_reducible repeat (first|refine blk_drewN ?_ _|refine blk_drew ?_|refine blk_alloc ?_ _));exact af.out⟩,⟨by (with_reducible repeat (first|refine blk_drewN ?_ _|refine blk_drew ?_|refine blk_alloc ?_ _));refine blk_put (cs:=#[.bool ai,al,ay,aX]) ?_ 3 _ rfl;(with_reducible repeat (first|refine blk_drewN ?_ _|refine blk_drew ?_|refine blk_alloc ?_ _));exact ab.out⟩,bV HB⟩
end Go.Proofs.Ytmmjpieafbjggaa.P
end
section
namespace Go.Proofs.Ytmmjpieafbjggaa.P
open Go.RowKit Go.Proofs.YtmmjpieafbjggaaW.PrintWords Go.Proofs.YtmmjpieafbjggaaW.PrintLast Go.Proofs.YtmmjpieafbjggaaW.PrintMore
attribute [local go_sem] max2_int min2_int max_two min_two max_three min_three max_four min_four   -- for this text's walks alone
attribute [local go_sem] x_str_gtr x_str_leq x_str_geq ext_bits ext_frombits ext_neg x_store_float Instr.field asAgg
set_option linter.unusedVariables false
set_option linter.unusedSimpArgs false
def engrossref1_MayKey.f (a0:ByteArray):Option (Bool):=if (a0.size:Int)≥1 then (some (decide ((a0.size:Int)≤16))) else (some false)
set_option maxHeartbeats 8000000 in
set_option maxRecDepth 100000 in
theorem engrossref1_MayKey.calls (a0:ByteArray) (r:Bool) (w:World) (h:engrossref1_MayKey.f a0=some r) :
  Calls Try.prog 32 #[.string a0] w fun e w'=>e = .returned (.bool r)∧Drawn0 w w':=by
 have H:(if (a0.size:Int)≥1 then (some (decide ((a0.size:Int)≤16))) else (some false))=some r:=h
 clear h
 by_cases c2:(a0.size:Int)≥1
 ·rw [if_pos c2] at H
  have aa:decide (1≤(a0.size:Int))=true:=decide_eq_true c2
  have ab:decide (1≤a0.size)=true:=decide_eq_true (by omega)
  clear c2
  obtain rfl:=Option.some.inj H
  go_enter Try.func32,Try.ntmps32
  go_wp2
  go_ret
  exact⟨by first|rfl|(simp;done)|(simp [*];done),by repeat (first|exact Drawn0.refl _|apply Drawn0.step)⟩
 rw [if_neg c2] at H
 have aa:decide (1≤(a0.size:Int))=false:=decide_eq_false c2
 have ab:decide (1≤a0.size)=false:=decide_eq_false (by omega)
 clear c2
 obtain rfl:=Option.some.inj H
 go_enter Try.func32,Try.ntmps32
 go_wp2
 go_ret
 exact⟨by first|rfl|(simp;done)|(simp [*];done),by repeat (first|exact Drawn0.refl _|apply Drawn0.step)⟩
def engrossref1_bits.f (a0:Nat):Option (Int):=some ((a0:Nat):Int)
set_option maxHeartbeats 8000000 in
set_option maxRecDepth 100000 in
theorem engrossref1_bits.calls (a0:Nat) (r:Int) (w:World) (h:engrossref1_bits.f a0=some r) :
  Calls Try.prog 59 #[.float .f64 a0] w fun e w'=>e = .returned (.int .u64 r)∧Drawn0 w w':=by
 have H:(some ((a0:Nat):Int))=some r:=h
 clear h
 obtain rfl:=Option.some.inj H
 go_enter Try.func59,Try.ntmps59
 go_wp2
 go_ret
 exact⟨by first|rfl|(simp;done)|(simp [*];done),by repeat (first|exact Drawn0.refl _|apply Drawn0.step)⟩
def engrossref1_Bits.f (a0:Nat) (a1:Nat):Option (Bool):=(engrossref1_bits.f a0).bind fun t375=>((engrossref1_bits.f a1).bind fun t376=>(some (t375 == t376)))
set_option maxHeartbeats 8000000 in
set_option maxRecDepth 100000 in
theorem engrossref1_Bits.calls (a0:Nat) (a1:Nat) (r:Bool) (w:World) (h:engrossref1_Bits.f a0 a1=some r) :
  Calls Try.prog 60 #[.float .f64 a0,.float .f64 a1] w fun e w'=>e = .returned (.bool r)∧Drawn0 w w':=by
 have H:((engrossref1_bits.f a0).bind fun ab=>((engrossref1_bits.f a1).bind fun aa=>(some (ab == aa))))=some r:=h
 clear h
 replace H:=oS H
 obtain⟨ab,A30,H⟩:=H
 replace H:((engrossref1_bits.f a1).bind fun aa=>(some (ab == aa)))=some r:=H
 have A3:=aK A30
 clear A30
 replace H:=oS H
 obtain⟨aa,A40,H⟩:=H
 replace H:(some (ab == aa))=some r:=H
 have A4:=aK A40
 clear A40
 obtain rfl:=Option.some.inj H
 go_enter Try.func60,Try.ntmps60
 go_wp2_with (first|((with_reducible refine gate_callee (f:=59) rfl ?_);refine gL (some 6) Try.func59 #[.float .f64 a0] ?_;(with_reducible refine (engrossref1_bits.calls a0 ab _ A3.out).mono ?_);rintro e w' ⟨rfl,⟨nd,rfl⟩⟩;refine⟨_,rfl,?_⟩)|((with_reducible refine gate_callee (f:=59) rfl ?_);refine gL (some 8) Try.func59 #[.float .f64 a1] ?_;(with_reducible refine (engrossref1_bits.calls a1 aa _ A4.out).mono ?_);rintro e w' ⟨rfl,⟨nd,rfl⟩⟩;refine⟨_,rfl,?_⟩))
 go_ret
 exact⟨by first|rfl|(simp;done)|(simp [*];done),by repeat (first|exact Drawn0.refl _|apply Drawn0.step)⟩
def engrossref1_NaN.f (a0:Nat):Option (Bool):=if (Go.bits .and .u64 ((a0:Nat):Int) 9218868437227405312)=9218868437227405312 then (some ((Go.bits .and .u64 ((a0:Nat):Int) 4503599627370495) != 0)) else (some false)
set_option maxHeartbeats 8000000 in
set_option maxRecDepth 100000 in
theorem engrossref1_NaN.calls (a0:Nat) (r:Bool) (w:World) (h:engrossref1_NaN.f a0=some r) :
  Calls Try.prog 69 #[.float .f64 a0] w fun e w'=>e = .returned (.bool r)∧Drawn0 w w':=by
 have H:(if (Go.bits .and .u64 ((a0:Nat):Int) 9218868437227405312)=9218868437227405312 then (some ((Go.bits .and .u64 ((a0:Nat):Int) 4503599627370495) != 0)) else (some false))=some r:=h
 clear h
 by_cases c2:(Go.bits .and .u64 ((a0:Nat):Int) 9218868437227405312)=9218868437227405312
 rotate_left
 ·rw [if_neg c2] at H
  have aa:((Go.bits .and .u64 ((a0:Nat):Int) 9218868437227405312) == 9218868437227405312)=false:=beq_eq_false_iff_ne.mpr c2
  have ab:((Go.bits .and .u64 ((a0:Nat):Int) 9218868437227405312) != 9218868437227405312)=true:=bne_iff_ne.mpr c2
  obtain rfl:=Option.some.inj H
  go_enter Try.func69,Try.ntmps69
  go_wp2
  go_ret
  exact⟨by first|rfl|(simp;done)|(simp [*];done),by repeat (first|exact Drawn0.refl _|apply Drawn0.step)⟩
 rw [if_pos c2] at H
 have aa:((Go.bits .and .u64 ((a0:Nat):Int) 9218868437227405312) == 9218868437227405312)=true:=beq_iff_eq.mpr c2
 have ab:((Go.bits .and .u64 ((a0:Nat):Int) 9218868437227405312) != 9218868437227405312)=false:=bne_eq_false_iff_eq.mpr c2
 clear c2
 obtain rfl:=Option.some.inj H
 go_enter Try.func69,Try.ntmps69
 go_wp2
 go_ret
 exact⟨by first|rfl|(simp;done)|(simp [*];done),by repeat (first|exact Drawn0.refl _|apply Drawn0.step)⟩
def engrossref1_Clean.f (a0:Nat):Option (Nat):=(engrossref1_NaN.f a0).bind fun t377=>(if t377=true then (some 9221120237041090560) else (some a0))
set_option maxHeartbeats 8000000 in
set_option maxRecDepth 100000 in
theorem engrossref1_Clean.calls (a0:Nat) (r:Nat) (w:World) (h:engrossref1_Clean.f a0=some r) :
  Calls Try.prog 61 #[.float .f64 a0] w fun e w'=>e = .returned (.float .f64 r)∧Drawn0 w w':=by
 have H:((engrossref1_NaN.f a0).bind fun aa=>(if aa=true then (some 9221120237041090560) else (some a0)))=some r:=h
 clear h
 replace H:=oS H
 obtain⟨aa,A20,H⟩:=H
 replace H:(if aa=true then (some 9221120237041090560) else (some a0))=some r:=H
 have A2:=aK A20
 clear A20
 by_cases c3:aa=true
 ·subst c3
  have H1:(some 9221120237041090560)=some r:=by rw [if_pos rfl] at H;exact H
  clear H
  have H:=H1
  clear H1
  obtain rfl:=Option.some.inj H
  go_enter Try.func61,Try.ntmps61
  go_wp2_with (first|((with_reducible refine gate_callee (f:=69) rfl ?_);refine gL (some 4) Try.func69 #[.float .f64 a0] ?_;(with_reducible refine (engrossref1_NaN.calls a0 true _ A2.out).mono ?_);rintro e w' ⟨rfl,⟨nd,rfl⟩⟩;refine⟨_,rfl,?_⟩))
  go_ret
  exact⟨by first|rfl|(simp;done)|(simp [*];done),by repeat (first|exact Drawn0.refl _|apply Drawn0.step)⟩
 replace c3:=Bool.eq_false_iff.mpr c3
 subst c3
 have H1:(some a0)=some r:=by rw [if_neg (show ¬ (false=true) by decide)] at H;exact H
 clear H
 have H:=H1
 clear H1
 obtain rfl:=Option.some.inj H
 go_enter Try.func61,Try.ntmps61
 go_wp2_with (first|((with_reducible refine gate_callee (f:=69) rfl ?_);refine gL (some 4) Try.func69 #[.float .f64 a0] ?_;(with_reducible refine (engrossref1_NaN.calls a0 false _ A2.out).mono ?_);rintro e w' ⟨rfl,⟨nd,rfl⟩⟩;refine⟨_,rfl,?_⟩))
 go_ret
 exact⟨by first|rfl|(simp;done)|(simp [*];done),by repeat (first|exact Drawn0.refl _|apply Drawn0.step)⟩
def engrossref1_MayVal.f (a0_0:Int) (a0_1:Nat) (a0_2:ByteArray):Option (Bool):=if a0_0=0 then ((engrossref1_bits.f a0_1).bind fun t379=>(if t379=0 then (some (a0_2.toList == ([]:List UInt8))) else (some false))) else (if a0_0=1 then (if a0_2.toList=([]:List UInt8) then ((engrossref1_Clean.f a0_1).bind fun t380=>((engrossref1_Bits.f t380 a0_1).bind fun t381=>(some t381))) else (some false)) else (if a0_0=2 then ((engrossref1_bits.f a0_1).bind fun t382=>(if t382=0 then (some (decide ((a0_2.size:Int)≤20))) else (some false))) else (some false)))
set_option maxHeartbeats 8000000 in
set_option maxRecDepth 100000 in
theorem engrossref1_MayVal.calls (ac:Int) (ab:Nat) (ae:ByteArray) (r:Bool) (w:World) (h:engrossref1_MayVal.f ac ab ae=some r) :
  Calls Try.prog 47 #[.agg #[.int .i64 ac,.float .f64 ab,.string ae]] w fun e w'=>e = .returned (.bool r)∧Below w.heap.size w w':=by
 have hu54:=Try.underlying54
 have HB:=aK (Below.refl w.heap.size w)
 have H:(if ac=0 then ((engrossref1_bits.f ab).bind fun ai=>(if ai=0 then (some (ae.toList == ([]:List UInt8))) else (some false))) else (if ac=1 then (if ae.toList=([]:List UInt8) then ((engrossref1_Clean.f ab).bind fun ak=>((engrossref1_Bits.f ak ab).bind fun al=>(some al))) else (some false)) else (if ac=2 then ((engrossref1_bits.f ab).bind fun aj=>(if aj=0 then (some (decide ((ae.size:Int)≤20))) else (some false))) else (some false))))=some r:=h
 clear h
 by_cases c2:ac=0
 ·rw [if_pos c2] at H
  have bD:(ac == 0)=true:=beq_iff_eq.mpr c2
  have bF:(ac != 0)=false:=bne_eq_false_iff_eq.mpr c2
  clear c2
  replace H:=oS H
  obtain⟨ai,A30,H⟩:=H
  replace H:(if ai=0 then (some (ae.toList == ([]:List UInt8))) else (some false))=some r:=H
  have A3:=aK A30
  clear A30
  by_cases c4:ai=0
  rotate_left
  ·rw [if_neg c4] at H
   have bI:(ai == 0)=false:=beq_eq_false_iff_ne.mpr c4
   have bJ:(ai != 0)=true:=bne_iff_ne.mpr c4
   obtain rfl:=Option.some.inj H
   go_enter Try.func47,Try.ntmps47
   go_wp2_with (first|((with_reducible refine gate_dst (N:=1) rfl ?_);(try (refine gate_guard (by rfl) ?_;dsimp only));refine box_event ?hg (N:=1) ?hd (cs:=#[.int .i64 ac,.float .f64 ab,.string ae]) (t:=54) ?hr ?_;(case hd=>rfl);(case hg=>rfl);(case hr=>first|(go_simp;done)|(go_simp;rfl));intro af hg w7 hbox hb;have aa:=aK (hbox);have ag:=bZ HB hg;have ah:=bZ HB hg;replace HB:=bW HB hb;clear hb hbox hg;obtain⟨bb,bc,bf,bg,bh,bi⟩:=bf3 (w:=w7) aa)|(go_at_call 59;(with_reducible refine (engrossref1_bits.calls ab ai _ A3.out).mono ?_);rintro e w' ⟨rfl,⟨nd,rfl⟩⟩;(try first|exact⟨rfl,_,World.drewN_drewN _ _ _⟩|exact⟨rfl,_,Eq.trans (World.drewN_drewN _ _ _) (congrArg (World.drewN _) (Nat.add_assoc _ _ _))⟩)))
   repeat (go_quiet (first|((with_reducible refine gate_dst (N:=1) rfl ?_);(try (refine gate_guard (by rfl) ?_;dsimp only));refine box_event ?hg (N:=1) ?hd (cs:=#[.int .i64 ac,.float .f64 ab,.string ae]) (t:=54) ?hr ?_;(case hd=>rfl);(case hg=>rfl);(case hr=>first|(go_simp;done)|(go_simp;rfl));intro af hg w7 hbox hb;have aa:=aK (hbox);have ag:=bZ HB hg;have ah:=bZ HB hg;replace HB:=bW HB hb;clear hb hbox hg;obtain⟨bb,bc,bf,bg,bh,bi⟩:=bf3 (w:=w7) aa)|(go_at_call 59;(with_reducible refine (engrossref1_bits.calls ab ai _ A3.out).mono ?_);rintro e w' ⟨rfl,⟨nd,rfl⟩⟩;(try first|exact⟨rfl,_,World.drewN_drewN _ _ _⟩|exact⟨rfl,_,Eq.trans (World.drewN_drewN _ _ _) (congrArg (World.drewN _) (Nat.add_assoc _ _ _))⟩)));try go_wp2_with (first|((with_reducible refine gate_dst (N:=1) rfl ?_);(try (refine gate_guard (by rfl) ?_;dsimp only));refine box_event ?hg (N:=1) ?hd (cs:=#[.int .i64 ac,.float .f64 ab,.string ae]) (t:=54) ?hr ?_;(case hd=>rfl);(case hg=>rfl);(case hr=>first|(go_simp;done)|(go_simp;rfl));intro af hg w7 hbox hb;have aa:=aK (hbox);have ag:=bZ HB hg;have ah:=bZ HB hg;replace HB:=bW HB hb;clear hb hbox hg;obtain⟨bb,bc,bf,bg,bh,bi⟩:=bf3 (w:=w7) aa)|(go_at_call 59;(with_reducible refine (engrossref1_bits.calls ab ai _ A3.out).mono ?_);rintro e w' ⟨rfl,⟨nd,rfl⟩⟩;(try first|exact⟨rfl,_,World.drewN_drewN _ _ _⟩|exact⟨rfl,_,Eq.trans (World.drewN_drewN _ _ _) (congrArg (World.drewN _) (Nat.add_assoc _ _ _))⟩))))
   go_ret
   exact xB HB
  rw [if_pos c4] at H
  have bI:(ai == 0)=true:=beq_iff_eq.mpr c4
  have bJ:(ai != 0)=false:=bne_eq_false_iff_eq.mpr c4
  clear c4
  obtain rfl:=Option.some.inj H
  go_enter Try.func47,Try.ntmps47
  go_wp2_with (first|((with_reducible refine gate_dst (N:=1) rfl ?_);(try (refine gate_guard (by rfl) ?_;dsimp only));refine box_event ?hg (N:=1) ?hd (cs:=#[.int .i64 ac,.float .f64 ab,.string ae]) (t:=54) ?hr ?_;(case hd=>rfl);(case hg=>rfl);(case hr=>first|(go_simp;done)|(go_simp;rfl));intro af hg w5 hbox hb;have aa:=aK (hbox);have ag:=bZ HB hg;have ah:=bZ HB hg;replace HB:=bW HB hb;clear hb hbox hg;obtain⟨bj,bk,bl,bm,bn,bo⟩:=bf3 (w:=w5) aa)|(go_at_call 59;(with_reducible refine (engrossref1_bits.calls ab ai _ A3.out).mono ?_);rintro e w' ⟨rfl,⟨nd,rfl⟩⟩;(try first|exact⟨rfl,_,World.drewN_drewN _ _ _⟩|exact⟨rfl,_,Eq.trans (World.drewN_drewN _ _ _) (congrArg (World.drewN _) (Nat.add_assoc _ _ _))⟩)))
  repeat (go_quiet (first|((with_reducible refine gate_dst (N:=1) rfl ?_);(try (refine gate_guard (by rfl) ?_;dsimp only));refine box_event ?hg (N:=1) ?hd (cs:=#[.int .i64 ac,.float .f64 ab,.string ae]) (t:=54) ?hr ?_;(case hd=>rfl);(case hg=>rfl);(case hr=>first|(go_simp;done)|(go_simp;rfl));intro af hg w5 hbox hb;have aa:=aK (hbox);have ag:=bZ HB hg;have ah:=bZ HB hg;replace HB:=bW HB hb;clear hb hbox hg;obtain⟨bj,bk,bl,bm,bn,bo⟩:=bf3 (w:=w5) aa)|(go_at_call 59;(with_reducible refine (engrossref1_bits.calls ab ai _ A3.out).mono ?_);rintro e w' ⟨rfl,⟨nd,rfl⟩⟩;(try first|exact⟨rfl,_,World.drewN_drewN _ _ _⟩|exact⟨rfl,_,Eq.trans (World.drewN_drewN _ _ _) (congrArg (World.drewN _) (Nat.add_assoc _ _ _))⟩)));try go_wp2_with (first|((with_reducible refine gate_dst (N:=1) rfl ?_);(try (refine gate_guard (by rfl) ?_;dsimp only));refine box_event ?hg (N:=1) ?hd (cs:=#[.int .i64 ac,.float .f64 ab,.string ae]) (t:=54) ?hr ?_;(case hd=>rfl);(case hg=>rfl);(case hr=>first|(go_simp;done)|(go_simp;rfl));intro af hg w5 hbox hb;have aa:=aK (hbox);have ag:=bZ HB hg;have ah:=bZ HB hg;replace HB:=bW HB hb;clear hb hbox hg;obtain⟨bj,bk,bl,bm,bn,bo⟩:=bf3 (w:=w5) aa)|(go_at_call 59;(with_reducible refine (engrossref1_bits.calls ab ai _ A3.out).mono ?_);rintro e w' ⟨rfl,⟨nd,rfl⟩⟩;(try first|exact⟨rfl,_,World.drewN_drewN _ _ _⟩|exact⟨rfl,_,Eq.trans (World.drewN_drewN _ _ _) (congrArg (World.drewN _) (Nat.add_assoc _ _ _))⟩))))
  go_ret
  exact xB HB
 rw [if_neg c2] at H
 have bD:(ac == 0)=false:=beq_eq_false_iff_ne.mpr c2
 have bF:(ac != 0)=true:=bne_iff_ne.mpr c2
 by_cases c9:ac=1
 ·rw [if_pos c9] at H
  have bM:(ac == 1)=true:=beq_iff_eq.mpr c9
  have bN:(ac != 1)=false:=bne_eq_false_iff_eq.mpr c9
  clear c9
  by_cases c10:ae.toList=([]:List UInt8)
  rotate_left
  ·rw [if_neg c10] at H
   have bs:(ae.toList == ([]:List UInt8))=false:=beq_eq_false_iff_ne.mpr c10
   have bu:(ae.toList != ([]:List UInt8))=true:=bne_iff_ne.mpr c10
   obtain rfl:=Option.some.inj H
   go_enter Try.func47,Try.ntmps47
   go_wp2_with (first|((with_reducible refine gate_dst (N:=1) rfl ?_);(try (refine gate_guard (by rfl) ?_;dsimp only));refine box_event ?hg (N:=1) ?hd (cs:=#[.int .i64 ac,.float .f64 ab,.string ae]) (t:=54) ?hr ?_;(case hd=>rfl);(case hg=>rfl);(case hr=>first|(go_simp;done)|(go_simp;rfl));intro af hg w15 hbox hb;have aa:=aK (hbox);have ag:=bZ HB hg;have ah:=bZ HB hg;replace HB:=bW HB hb;clear hb hbox hg;obtain⟨am,ao,ap,aq,ar,au⟩:=bf3 (w:=w15) aa))
   repeat (go_quiet (first|((with_reducible refine gate_dst (N:=1) rfl ?_);(try (refine gate_guard (by rfl) ?_;dsimp only));refine box_event ?hg (N:=1) ?hd (cs:=#[.int .i64 ac,.float .f64 ab,.string ae]) (t:=54) ?hr ?_;(case hd=>rfl);(case hg=>rfl);(case hr=>first|(go_simp;done)|(go_simp;rfl));intro af hg w15 hbox hb;have aa:=aK (hbox);have ag:=bZ HB hg;have ah:=bZ HB hg;replace HB:=bW HB hb;clear hb hbox hg;obtain⟨am,ao,ap,aq,ar,au⟩:=bf3 (w:=w15) aa));try go_wp2_with (first|((with_reducible refine gate_dst (N:=1) rfl ?_);(try (refine gate_guard (by rfl) ?_;dsimp only));refine box_event ?hg (N:=1) ?hd (cs:=#[.int .i64 ac,.float .f64 ab,.string ae]) (t:=54) ?hr ?_;(case hd=>rfl);(case hg=>rfl);(case hr=>first|(go_simp;done)|(go_simp;rfl));intro af hg w15 hbox hb;have aa:=aK (hbox);have ag:=bZ HB hg;have ah:=bZ HB hg;replace HB:=bW HB hb;clear hb hbox hg;obtain⟨am,ao,ap,aq,ar,au⟩:=bf3 (w:=w15) aa)))
   go_ret
   exact xB HB
  rw [if_pos c10] at H
  have bs:(ae.toList == ([]:List UInt8))=true:=beq_iff_eq.mpr c10
  have bu:(ae.toList != ([]:List UInt8))=false:=bne_eq_false_iff_eq.mpr c10
  clear c10
  replace H:=oS H
  obtain⟨ak,bp,H⟩:=H
  replace H:((engrossref1_Bits.f ak ab).bind fun al=>(some al))=some r:=H
  have A11:=aK bp
  clear bp
  replace H:=oS H
  obtain⟨al,bq,H⟩:=H
  replace H:(some al)=some r:=H
  have A12:=aK bq
  clear bq
  obtain rfl:=Option.some.inj H
  go_enter Try.func47,Try.ntmps47
  go_wp2_with (first|((with_reducible refine gate_dst (N:=1) rfl ?_);(try (refine gate_guard (by rfl) ?_;dsimp only));refine box_event ?hg (N:=1) ?hd (cs:=#[.int .i64 ac,.float .f64 ab,.string ae]) (t:=54) ?hr ?_;(case hd=>rfl);(case hg=>rfl);(case hr=>first|(go_simp;done)|(go_simp;rfl));intro af hg w13 hbox hb;have aa:=aK (hbox);have ag:=bZ HB hg;have ah:=bZ HB hg;replace HB:=bW HB hb;clear hb hbox hg;obtain⟨av,aw,ax,ay,az,aA⟩:=bf3 (w:=w13) aa)|(go_at_call 61;(with_reducible refine (engrossref1_Clean.calls ab ak _ A11.out).mono ?_);rintro e w' ⟨rfl,⟨nd,rfl⟩⟩;(try first|exact⟨rfl,_,World.drewN_drewN _ _ _⟩|exact⟨rfl,_,Eq.trans (World.drewN_drewN _ _ _) (congrArg (World.drewN _) (Nat.add_assoc _ _ _))⟩))|(go_at_call 60;(with_reducible refine (engrossref1_Bits.calls ak ab al _ A12.out).mono ?_);rintro e w' ⟨rfl,⟨nd,rfl⟩⟩;(try first|exact⟨rfl,_,World.drewN_drewN _ _ _⟩|exact⟨rfl,_,Eq.trans (World.drewN_drewN _ _ _) (congrArg (World.drewN _) (Nat.add_assoc _ _ _))⟩)))
  repeat (go_quiet (first|((with_reducible refine gate_dst (N:=1) rfl ?_);(try (refine gate_guard (by rfl) ?_;dsimp only));refine box_event ?hg (N:=1) ?hd (cs:=#[.int .i64 ac,.float .f64 ab,.string ae]) (t:=54) ?hr ?_;(case hd=>rfl);(case hg=>rfl);(case hr=>first|(go_simp;done)|(go_simp;rfl));intro af hg w13 hbox hb;have aa:=aK (hbox);have ag:=bZ HB hg;have ah:=bZ HB hg;replace HB:=bW HB hb;clear hb hbox hg;obtain⟨av,aw,ax,ay,az,aA⟩:=bf3 (w:=w13) aa)|(go_at_call 61;(with_reducible refine (engrossref1_Clean.calls ab ak _ A11.out).mono ?_);rintro e w' ⟨rfl,⟨nd,rfl⟩⟩;(try first|exact⟨rfl,_,World.drewN_drewN _ _ _⟩|exact⟨rfl,_,Eq.trans (World.drewN_drewN _ _ _) (congrArg (World.drewN _) (Nat.add_assoc _ _ _))⟩))|(go_at_call 60;(with_reducible refine (engrossref1_Bits.calls ak ab al _ A12.out).mono ?_);rintro e w' ⟨rfl,⟨nd,rfl⟩⟩;(try first|exact⟨rfl,_,World.drewN_drewN _ _ _⟩|exact⟨rfl,_,Eq.trans (World.drewN_drewN _ _ _) (congrArg (World.drewN _) (Nat.add_assoc _ _ _))⟩)));try go_wp2_with (first|((with_reducible refine gate_dst (N:=1) rfl ?_);(try (refine gate_guard (by rfl) ?_;dsimp only));refine box_event ?hg (N:=1) ?hd (cs:=#[.int .i64 ac,.float .f64 ab,.string ae]) (t:=54) ?hr ?_;(case hd=>rfl);(case hg=>rfl);(case hr=>first|(go_simp;done)|(go_simp;rfl));intro af hg w13 hbox hb;have aa:=aK (hbox);have ag:=bZ HB hg;have ah:=bZ HB hg;replace HB:=bW HB hb;clear hb hbox hg;obtain⟨av,aw,ax,ay,az,aA⟩:=bf3 (w:=w13) aa)|(go_at_call 61;(with_reducible refine (engrossref1_Clean.calls ab ak _ A11.out).mono ?_);rintro e w' ⟨rfl,⟨nd,rfl⟩⟩;(try first|exact⟨rfl,_,World.drewN_drewN _ _ _⟩|exact⟨rfl,_,Eq.trans (World.drewN_drewN _ _ _) (congrArg (World.drewN _) (Nat.add_assoc _ _ _))⟩))|(go_at_call 60;(with_reducible refine (engrossref1_Bits.calls ak ab al _ A12.out).mono ?_);rintro e w' ⟨rfl,⟨nd,rfl⟩⟩;(try first|exact⟨rfl,_,World.drewN_drewN _ _ _⟩|exact⟨rfl,_,Eq.trans (World.drewN_drewN _ _ _) (congrArg (World.drewN _) (Nat.add_assoc _ _ _))⟩))))
  go_ret
  exact xB HB
 rw [if_neg c9] at H
 have bM:(ac == 1)=false:=beq_eq_false_iff_ne.mpr c9
 have bN:(ac != 1)=true:=bne_iff_ne.mpr c9
 by_cases c17:ac=2
 rotate_left
 ·rw [if_neg c17] at H
  have bv:(ac == 2)=false:=beq_eq_false_iff_ne.mpr c17
  have bw:(ac != 2)=true:=bne_iff_ne.mpr c17
  obtain rfl:=Option.some.inj H
  go_enter Try.func47,Try.ntmps47
  go_wp2_with (first|((with_reducible refine gate_dst (N:=1) rfl ?_);(try (refine gate_guard (by rfl) ?_;dsimp only));refine box_event ?hg (N:=1) ?hd (cs:=#[.int .i64 ac,.float .f64 ab,.string ae]) (t:=54) ?hr ?_;(case hd=>rfl);(case hg=>rfl);(case hr=>first|(go_simp;done)|(go_simp;rfl));intro af hg w24 hbox hb;have aa:=aK (hbox);have ag:=bZ HB hg;have ah:=bZ HB hg;replace HB:=bW HB hb;clear hb hbox hg;obtain⟨aC,aD,aE,aG,aH,aI⟩:=bf3 (w:=w24) aa))
  repeat (go_quiet (first|((with_reducible refine gate_dst (N:=1) rfl ?_);(try (refine gate_guard (by rfl) ?_;dsimp only));refine box_event ?hg (N:=1) ?hd (cs:=#[.int .i64 ac,.float .f64 ab,.string ae]) (t:=54) ?hr ?_;(case hd=>rfl);(case hg=>rfl);(case hr=>first|(go_simp;done)|(go_simp;rfl));intro af hg w24 hbox hb;have aa:=aK (hbox);have ag:=bZ HB hg;have ah:=bZ HB hg;replace HB:=bW HB hb;clear hb hbox hg;obtain⟨aC,aD,aE,aG,aH,aI⟩:=bf3 (w:=w24) aa));try go_wp2_with (first|((with_reducible refine gate_dst (N:=1) rfl ?_);(try (refine gate_guard (by rfl) ?_;dsimp only));refine box_event ?hg (N:=1) ?hd (cs:=#[.int .i64 ac,.float .f64 ab,.string ae]) (t:=54) ?hr ?_;(case hd=>rfl);(case hg=>rfl);(case hr=>first|(go_simp;done)|(go_simp;rfl));intro af hg w24 hbox hb;have aa:=aK (hbox);have ag:=bZ HB hg;have ah:=bZ HB hg;replace HB:=bW HB hb;clear hb hbox hg;obtain⟨aC,aD,aE,aG,aH,aI⟩:=bf3 (w:=w24) aa)))
  go_ret
  exact xB HB
 rw [if_pos c17] at H
 have bv:(ac == 2)=true:=beq_iff_eq.mpr c17
 have bw:(ac != 2)=false:=bne_eq_false_iff_eq.mpr c17
 clear c17
 replace H:=oS H
 obtain⟨aj,br,H⟩:=H
 replace H:(if aj=0 then (some (decide ((ae.size:Int)≤20))) else (some false))=some r:=H
 have A18:=aK br
 clear br
 by_cases c19:aj=0
 rotate_left
 ·rw [if_neg c19] at H
  have bx:(aj == 0)=false:=beq_eq_false_iff_ne.mpr c19
  have bA:(aj != 0)=true:=bne_iff_ne.mpr c19
  obtain rfl:=Option.some.inj H
  go_enter Try.func47,Try.ntmps47
  go_wp2_with (first|((with_reducible refine gate_dst (N:=1) rfl ?_);(try (refine gate_guard (by rfl) ?_;dsimp only));refine box_event ?hg (N:=1) ?hd (cs:=#[.int .i64 ac,.float .f64 ab,.string ae]) (t:=54) ?hr ?_;(case hd=>rfl);(case hg=>rfl);(case hr=>first|(go_simp;done)|(go_simp;rfl));intro af hg w22 hbox hb;have aa:=aK (hbox);have ag:=bZ HB hg;have ah:=bZ HB hg;replace HB:=bW HB hb;clear hb hbox hg;obtain⟨aJ,aM,aN,aQ,aT,aU⟩:=bf3 (w:=w22) aa)|(go_at_call 59;(with_reducible refine (engrossref1_bits.calls ab aj _ A18.out).mono ?_);rintro e w' ⟨rfl,⟨nd,rfl⟩⟩;(try first|exact⟨rfl,_,World.drewN_drewN _ _ _⟩|exact⟨rfl,_,Eq.trans (World.drewN_drewN _ _ _) (congrArg (World.drewN _) (Nat.add_assoc _ _ _))⟩)))
  repeat (go_quiet (first|((with_reducible refine gate_dst (N:=1) rfl ?_);(try (refine gate_guard (by rfl) ?_;dsimp only));refine box_event ?hg (N:=1) ?hd (cs:=#[.int .i64 ac,.float .f64 ab,.string ae]) (t:=54) ?hr ?_;(case hd=>rfl);(case hg=>rfl);(case hr=>first|(go_simp;done)|(go_simp;rfl));intro af hg w22 hbox hb;have aa:=aK (hbox);have ag:=bZ HB hg;have ah:=bZ HB hg;replace HB:=bW HB hb;clear hb hbox hg;obtain⟨aJ,aM,aN,aQ,aT,aU⟩:=bf3 (w:=w22) aa)|(go_at_call 59;(with_reducible refine (engrossref1_bits.calls ab aj _ A18.out).mono ?_);rintro e w' ⟨rfl,⟨nd,rfl⟩⟩;(try first|exact⟨rfl,_,World.drewN_drewN _ _ _⟩|exact⟨rfl,_,Eq.trans (World.drewN_drewN _ _ _) (congrArg (World.drewN _) (Nat.add_assoc _ _ _))⟩)));try go_wp2_with (first|((with_reducible refine gate_dst (N:=1) rfl ?_);(try (refine gate_guard (by rfl) ?_;dsimp only));refine box_event ?hg (N:=1) ?hd (cs:=#[.int .i64 ac,.float .f64 ab,.string ae]) (t:=54) ?hr ?_;(case hd=>rfl);(case hg=>rfl);(case hr=>first|(go_simp;done)|(go_simp;rfl));intro af hg w22 hbox hb;have aa:=aK (hbox);have ag:=bZ HB hg;have ah:=bZ HB hg;replace HB:=bW HB hb;clear hb hbox hg;obtain⟨aJ,aM,aN,aQ,aT,aU⟩:=bf3 (w:=w22) aa)|(go_at_call 59;(with_reducible refine (engrossref1_bits.calls ab aj _ A18.out).mono ?_);rintro e w' ⟨rfl,⟨nd,rfl⟩⟩;(try first|exact⟨rfl,_,World.drewN_drewN _ _ _⟩|exact⟨rfl,_,Eq.trans (World.drewN_drewN _ _ _) (congrArg (World.drewN _) (Nat.add_assoc _ _ _))⟩))))
  go_ret
  exact xB HB
 rw [if_pos c19] at H
 have bx:(aj == 0)=true:=beq_iff_eq.mpr c19
 have bA:(aj != 0)=false:=bne_eq_false_iff_eq.mpr c19
 clear c19
 obtain rfl:=Option.some.inj H
 go_enter Try.func47,Try.ntmps47
 go_wp2_with (first|((with_reducible refine gate_dst (N:=1) rfl ?_);(try (refine gate_guard (by rfl) ?_;dsimp only));refine box_event ?hg (N:=1) ?hd (cs:=#[.int .i64 ac,.float .f64 ab,.string ae]) (t:=54) ?hr ?_;(case hd=>rfl);(case hg=>rfl);(case hr=>first|(go_simp;done)|(go_simp;rfl));intro af hg w20 hbox hb;have aa:=aK (hbox);have ag:=bZ HB hg;have ah:=bZ HB hg;replace HB:=bW HB hb;clear hb hbox hg;obtain⟨aV,aW,aX,aY,aZ,ba⟩:=bf3 (w:=w20) aa)|(go_at_call 59;(with_reducible refine (engrossref1_bits.calls ab aj _ A18.out).mono ?_);rintro e w' ⟨rfl,⟨nd,rfl⟩⟩;(try first|exact⟨rfl,_,World.drewN_drewN _ _ _⟩|exact⟨rfl,_,Eq.trans (World.drewN_drewN _ _ _) (congrArg (World.drewN _) (Nat.add_assoc _ _ _))⟩)))
 repeat (go_quiet (first|((with_reducible refine gate_dst (N:=1) rfl ?_);(try (refine gate_guard (by rfl) ?_;dsimp only));refine box_event ?hg (N:=1) ?hd (cs:=#[.int .i64 ac,.float .f64 ab,.string ae]) (t:=54) ?hr ?_;(case hd=>rfl);(case hg=>rfl);(case hr=>first|(go_simp;done)|(go_simp;rfl));intro af hg w20 hbox hb;have aa:=aK (hbox);have ag:=bZ HB hg;have ah:=bZ HB hg;replace HB:=bW HB hb;clear hb hbox hg;obtain⟨aV,aW,aX,aY,aZ,ba⟩:=bf3 (w:=w20) aa)|(go_at_call 59;(with_reducible refine (engrossref1_bits.calls ab aj _ A18.out).mono ?_);rintro e w' ⟨rfl,⟨nd,rfl⟩⟩;(try first|exact⟨rfl,_,World.drewN_drewN _ _ _⟩|exact⟨rfl,_,Eq.trans (World.drewN_drewN _ _ _) (congrArg (World.drewN _) (Nat.add_assoc _ _ _))⟩)));try go_wp2_with (first|((with_reducible refine gate_dst (N:=1) rfl ?_);(try (refine gate_guard (by rfl) ?_;dsimp only));refine box_event ?hg (N:=1) ?hd (cs:=#[.int .i64 ac,.float .f64 ab,.string ae]) (t:=54) ?hr ?_;(case hd=>rfl);(case hg=>rfl);(case hr=>first|(go_simp;done)|(go_simp;rfl));intro af hg w20 hbox hb;have aa:=aK (hbox);have ag:=bZ HB hg;have ah:=bZ HB hg;replace HB:=bW HB hb;clear hb hbox hg;obtain⟨aV,aW,aX,aY,aZ,ba⟩:=bf3 (w:=w20) aa)|(go_at_call 59;(with_reducible refine (engrossref1_bits.calls ab aj _ A18.out).mono ?_);rintro e w' ⟨rfl,⟨nd,rfl⟩⟩;(try first|exact⟨rfl,_,World.drewN_drewN _ _ _⟩|exact⟨rfl,_,Eq.trans (World.drewN_drewN _ _ _) (congrArg (World.drewN _) (Nat.add_assoc _ _ _))⟩))))
 go_ret
 exact xB HB
def engrossref10_May.f (a0_0:ByteArray) (a0_1:Int) (a0_2:Nat) (a0_3:ByteArray) (a0_4:Int) (a0_5:Int) (a0_6:Nat) (a0_7:ByteArray):Option (Bool):=(engrossref1_MayKey.f a0_0).bind fun t384=>(if t384=true then ((engrossref1_MayVal.f a0_1 a0_2 a0_3).bind fun t385=>(if t385=true then ((engrossref1_MayVal.f a0_5 a0_6 a0_7).bind fun t386=>(if t386=true then (if a0_4<0 then (some false) else (if a0_4>1099511627776 then (some false) else (if a0_4>0 then (some true) else (if a0_5=0 then (some (a0_1 != 0)) else (some false))))) else (some false))) else (some false))) else (some false))
set_option maxHeartbeats 8000000 in
set_option maxRecDepth 100000 in
theorem engrossref10_May.calls (ae:ByteArray) (af:Int) (ai:Nat) (aj:ByteArray) (ab:Int) (ac:Int) (ag:Nat) (ah:ByteArray) (r:Bool) (w:World) (h:engrossref10_May.f ae af ai aj ab ac ag ah=some r) :
  Calls Try.prog 31 #[.agg #[.string ae,.int .i64 af,.float .f64 ai,.string aj,.int .i64 ab,.int .i64 ac,.float .f64 ag,.string ah]] w fun e w'=>e = .returned (.bool r)∧Below w.heap.size w w':=by
 have hu56:=Try.underlying56
 have hu54:=Try.underlying54
 have HB:=aK (Below.refl w.heap.size w)
 have H:((engrossref1_MayKey.f ae).bind fun aq=>(if aq=true then ((engrossref1_MayVal.f af ai aj).bind fun ap=>(if ap=true then ((engrossref1_MayVal.f ac ag ah).bind fun ak=>(if ak=true then (if ab<0 then (some false) else (if ab>1099511627776 then (some false) else (if ab>0 then (some true) else (if ac=0 then (some (af != 0)) else (some false))))) else (some false))) else (some false))) else (some false)))=some r:=h
 clear h
 replace H:=oS H
 obtain⟨aq,A20,H⟩:=H
 replace H:(if aq=true then ((engrossref1_MayVal.f af ai aj).bind fun ap=>(if ap=true then ((engrossref1_MayVal.f ac ag ah).bind fun ak=>(if ak=true then (if ab<0 then (some false) else (if ab>1099511627776 then (some false) else (if ab>0 then (some true) else (if ac=0 then (some (af != 0)) else (some false))))) else (some false))) else (some false))) else (some false))=some r:=H
 have A2:=aK A20
 clear A20
 by_cases c3:aq=true
 rotate_left
 ·replace c3:=Bool.eq_false_iff.mpr c3
  subst c3
  have H1:(some false)=some r:=by rw [if_neg (show ¬ (false=true) by decide)] at H;exact H
  clear H
  have H:=H1
  clear H1
  obtain rfl:=Option.some.inj H
  go_enter Try.func31,Try.ntmps31
  go_wp2_with (first|((with_reducible refine gate_dst (N:=1) rfl ?_);refine box_event ?hg (N:=1) ?hd (cs:=#[.string ae,.int .i64 af,.float .f64 ai,.string aj,.int .i64 ab,.int .i64 ac,.float .f64 ag,.string ah]) (t:=56) ?hr ?_;(case hd=>rfl);(case hg=>rfl);(case hr=>first|(go_simp;done)|(go_simp;rfl));intro al hg w50 hbox hb;have aa:=aK (hbox);have am:=bZ HB hg;have ao:=bZ HB hg;replace HB:=bW HB hb;clear hb hbox hg;obtain⟨ay,az,aA,aC,aD,aE,aG,aH,aI,aJ,aM,aN,aQ,aT,aU,aV⟩:=bf8 (w:=w50) aa)|((with_reducible refine gate_callee (f:=32) rfl ?_);refine gL (some 5) Try.func32 #[.string ae] ?_;(with_reducible refine (engrossref1_MayKey.calls ae false _ A2.out).mono ?_);rintro e w' ⟨rfl,⟨nd,rfl⟩⟩;refine⟨_,rfl,?_⟩))
  go_ret
  exact xB HB
 subst c3
 have H1:((engrossref1_MayVal.f af ai aj).bind fun ap=>(if ap=true then ((engrossref1_MayVal.f ac ag ah).bind fun ak=>(if ak=true then (if ab<0 then (some false) else (if ab>1099511627776 then (some false) else (if ab>0 then (some true) else (if ac=0 then (some (af != 0)) else (some false))))) else (some false))) else (some false)))=some r:=by rw [if_pos rfl] at H;exact H
 clear H
 have H:=H1
 clear H1
 replace H:=oS H
 obtain⟨ap,A40,H⟩:=H
 replace H:(if ap=true then ((engrossref1_MayVal.f ac ag ah).bind fun ak=>(if ak=true then (if ab<0 then (some false) else (if ab>1099511627776 then (some false) else (if ab>0 then (some true) else (if ac=0 then (some (af != 0)) else (some false))))) else (some false))) else (some false))=some r:=H
 have A4:=aK A40
 clear A40
 by_cases c5:ap=true
 rotate_left
 ·replace c5:=Bool.eq_false_iff.mpr c5
  subst c5
  have H1:(some false)=some r:=by rw [if_neg (show ¬ (false=true) by decide)] at H;exact H
  clear H
  have H:=H1
  clear H1
  obtain rfl:=Option.some.inj H
  go_enter Try.func31,Try.ntmps31
  go_wp2_with (first|((with_reducible refine gate_dst (N:=1) rfl ?_);refine box_event ?hg (N:=1) ?hd (cs:=#[.string ae,.int .i64 af,.float .f64 ai,.string aj,.int .i64 ab,.int .i64 ac,.float .f64 ag,.string ah]) (t:=56) ?hr ?_;(case hd=>rfl);(case hg=>rfl);(case hr=>first|(go_simp;done)|(go_simp;rfl));intro al hg w47 hbox hb;have aa:=aK (hbox);have am:=bZ HB hg;have ao:=bZ HB hg;replace HB:=bW HB hb;clear hb hbox hg;obtain⟨aW,aX,aY,aZ,ba,bb,bc,bf,bg,bh,bi,bj,bk,bl,bm,bn⟩:=bf8 (w:=w47) aa)|((with_reducible refine gate_callee (f:=32) rfl ?_);refine gL (some 5) Try.func32 #[.string ae] ?_;(with_reducible refine (engrossref1_MayKey.calls ae true _ A2.out).mono ?_);rintro e w' ⟨rfl,⟨nd,rfl⟩⟩;refine⟨_,rfl,?_⟩)|(go_at_call 47;(with_reducible refine (engrossref1_MayVal.calls af ai aj false _ A4.out).mono ?_);rintro e w49 ⟨rfl,hb⟩;replace aa:=bB aa hb;replace HB:=bW HB hb;(try clear hb);(try clear hb2);(try clear hk);(try clear hi)))
  go_ret
  exact xB HB
 subst c5
 have H1:((engrossref1_MayVal.f ac ag ah).bind fun ak=>(if ak=true then (if ab<0 then (some false) else (if ab>1099511627776 then (some false) else (if ab>0 then (some true) else (if ac=0 then (some (af != 0)) else (some false))))) else (some false)))=some r:=by rw [if_pos rfl] at H;exact H
 clear H
 have H:=H1
 clear H1
 replace H:=oS H
 obtain⟨ak,A60,H⟩:=H
 replace H:(if ak=true then (if ab<0 then (some false) else (if ab>1099511627776 then (some false) else (if ab>0 then (some true) else (if ac=0 then (some (af != 0)) else (some false))))) else (some false))=some r:=H
 have A6:=aK A60
 clear A60
 by_cases c7:ak=true
 rotate_left
 ·replace c7:=Bool.eq_false_iff.mpr c7
  subst c7
  have H1:(some false)=some r:=by rw [if_neg (show ¬ (false=true) by decide)] at H;exact H
  clear H
  have H:=H1
  clear H1
  obtain rfl:=Option.some.inj H
  go_enter Try.func31,Try.ntmps31
  go_wp2_with (first|((with_reducible refine gate_dst (N:=1) rfl ?_);refine box_event ?hg (N:=1) ?hd (cs:=#[.string ae,.int .i64 af,.float .f64 ai,.string aj,.int .i64 ab,.int .i64 ac,.float .f64 ag,.string ah]) (t:=56) ?hr ?_;(case hd=>rfl);(case hg=>rfl);(case hr=>first|(go_simp;done)|(go_simp;rfl));intro al hg w42 hbox hb;have aa:=aK (hbox);have am:=bZ HB hg;have ao:=bZ HB hg;replace HB:=bW HB hb;clear hb hbox hg;obtain⟨bo,bp,bq,br,bs,bu,bv,bw,bx,bA,bD,bF,bI,bJ,bM,bN⟩:=bf8 (w:=w42) aa)|((with_reducible refine gate_callee (f:=32) rfl ?_);refine gL (some 5) Try.func32 #[.string ae] ?_;(with_reducible refine (engrossref1_MayKey.calls ae true _ A2.out).mono ?_);rintro e w' ⟨rfl,⟨nd,rfl⟩⟩;refine⟨_,rfl,?_⟩)|(go_at_call 47;(with_reducible refine (engrossref1_MayVal.calls af ai aj true _ A4.out).mono ?_);rintro e w44 ⟨rfl,hb⟩;replace aa:=bB aa hb;replace HB:=bW HB hb;(try clear hb);(try clear hb2);(try clear hk);(try clear hi);obtain⟨bO,bU,bX,bY,b8,b9,ca,cb,cd,cf,cg,ch,cj,cm,cn,cp⟩:=bf8 (w:=w44) aa)|(go_at_call 47;(with_reducible refine (engrossref1_MayVal.calls ac ag ah false _ A6.out).mono ?_);rintro e w46 ⟨rfl,hb⟩;replace aa:=bB aa hb;replace HB:=bW HB hb;(try clear hb);(try clear hb2);(try clear hk);(try clear hi)))
  go_ret
  exact xB HB
 subst c7
 have H1:(if ab<0 then (some false) else (if ab>1099511627776 then (some false) else (if ab>0 then (some true) else (if ac=0 then (some (af != 0)) else (some false)))))=some r:=by rw [if_pos rfl] at H;exact H
 clear H
 have H:=H1
 clear H1
 by_cases c8:ab<0
 ·rw [if_pos c8] at H
  have ax:decide (ab<0)=true:=decide_eq_true c8
  clear c8
  obtain rfl:=Option.some.inj H
  go_enter Try.func31,Try.ntmps31
  go_wp2_with (first|((with_reducible refine gate_dst (N:=1) rfl ?_);refine box_event ?hg (N:=1) ?hd (cs:=#[.string ae,.int .i64 af,.float .f64 ai,.string aj,.int .i64 ab,.int .i64 ac,.float .f64 ag,.string ah]) (t:=56) ?hr ?_;(case hd=>rfl);(case hg=>rfl);(case hr=>first|(go_simp;done)|(go_simp;rfl));intro al hg w9 hbox hb;have aa:=aK (hbox);have am:=bZ HB hg;have ao:=bZ HB hg;replace HB:=bW HB hb;clear hb hbox hg;obtain⟨cq,ct,cu,cv,cw,cx,cz,cA,cB,cC,cD,cE,cF,cG,cH,cI⟩:=bf8 (w:=w9) aa)|((with_reducible refine gate_callee (f:=32) rfl ?_);refine gL (some 5) Try.func32 #[.string ae] ?_;(with_reducible refine (engrossref1_MayKey.calls ae true _ A2.out).mono ?_);rintro e w' ⟨rfl,⟨nd,rfl⟩⟩;refine⟨_,rfl,?_⟩)|(go_at_call 47;(with_reducible refine (engrossref1_MayVal.calls af ai aj true _ A4.out).mono ?_);rintro e w11 ⟨rfl,hb⟩;replace aa:=bB aa hb;replace HB:=bW HB hb;(try clear hb);(try clear hb2);(try clear hk);(try clear hi);obtain⟨cJ,cK,cL,cM,cN,cO,cP,cQ,cR,cS,cT,cU,cV,cX,cY,cZ⟩:=bf8 (w:=w11) aa)|(go_at_call 47;(with_reducible refine (engrossref1_MayVal.calls ac ag ah true _ A6.out).mono ?_);rintro e w13 ⟨rfl,hb⟩;replace aa:=bB aa hb;replace HB:=bW HB hb;(try clear hb);(try clear hb2);(try clear hk);(try clear hi);obtain⟨da,db,dc,dd,de,df,dg,dh,di,dj,dk,dl,dm,dn,dp,dq⟩:=bf8 (w:=w13) aa))
  go_ret
  exact xB HB
 rw [if_neg c8] at H
 have ax:decide (ab<0)=false:=decide_eq_false c8
 clear c8
 by_cases c15:ab>1099511627776
 ·rw [if_pos c15] at H
  have ar:decide (1099511627776<ab)=true:=decide_eq_true c15
  clear c15
  obtain rfl:=Option.some.inj H
  go_enter Try.func31,Try.ntmps31
  go_wp2_with (first|((with_reducible refine gate_dst (N:=1) rfl ?_);refine box_event ?hg (N:=1) ?hd (cs:=#[.string ae,.int .i64 af,.float .f64 ai,.string aj,.int .i64 ab,.int .i64 ac,.float .f64 ag,.string ah]) (t:=56) ?hr ?_;(case hd=>rfl);(case hg=>rfl);(case hr=>first|(go_simp;done)|(go_simp;rfl));intro al hg w16 hbox hb;have aa:=aK (hbox);have am:=bZ HB hg;have ao:=bZ HB hg;replace HB:=bW HB hb;clear hb hbox hg;obtain⟨dr,dt,du,dv,dw,dx,dy,dz,dB,dC,dD,dE,dF,dG,dH,dI⟩:=bf8 (w:=w16) aa)|((with_reducible refine gate_callee (f:=32) rfl ?_);refine gL (some 5) Try.func32 #[.string ae] ?_;(with_reducible refine (engrossref1_MayKey.calls ae true _ A2.out).mono ?_);rintro e w' ⟨rfl,⟨nd,rfl⟩⟩;refine⟨_,rfl,?_⟩)|(go_at_call 47;(with_reducible refine (engrossref1_MayVal.calls af ai aj true _ A4.out).mono ?_);rintro e w18 ⟨rfl,hb⟩;replace aa:=bB aa hb;replace HB:=bW HB hb;(try clear hb);(try clear hb2);(try clear hk);(try clear hi);obtain⟨dJ,dK,dL,dM,dN,dO,dP,dQ,dR,dS,dT,dU,dV,dW,dX,dY⟩:=bf8 (w:=w18) aa)|(go_at_call 47;(with_reducible refine (engrossref1_MayVal.calls ac ag ah true _ A6.out).mono ?_);rintro e w20 ⟨rfl,hb⟩;replace aa:=bB aa hb;replace HB:=bW HB hb;(try clear hb);(try clear hb2);(try clear hk);(try clear hi);obtain⟨dZ,d3,d4,d5,d6,d7,d8,d9,ed,eg,eh,ei,ej,ek,el,em⟩:=bf8 (w:=w20) aa))
  go_ret
  exact xB HB
 rw [if_neg c15] at H
 have ar:decide (1099511627776<ab)=false:=decide_eq_false c15
 clear c15
 by_cases c22:ab>0
 ·rw [if_pos c22] at H
  have au:decide (0<ab)=true:=decide_eq_true c22
  clear c22
  obtain rfl:=Option.some.inj H
  go_enter Try.func31,Try.ntmps31
  go_wp2_with (first|((with_reducible refine gate_dst (N:=1) rfl ?_);refine box_event ?hg (N:=1) ?hd (cs:=#[.string ae,.int .i64 af,.float .f64 ai,.string aj,.int .i64 ab,.int .i64 ac,.float .f64 ag,.string ah]) (t:=56) ?hr ?_;(case hd=>rfl);(case hg=>rfl);(case hr=>first|(go_simp;done)|(go_simp;rfl));intro al hg w23 hbox hb;have aa:=aK (hbox);have am:=bZ HB hg;have ao:=bZ HB hg;replace HB:=bW HB hb;clear hb hbox hg;obtain⟨ep,er,es,et,eu,ev,ex,ey,ez,eA,eB,eC,eD,eE,eF,eG⟩:=bf8 (w:=w23) aa)|((with_reducible refine gate_callee (f:=32) rfl ?_);refine gL (some 5) Try.func32 #[.string ae] ?_;(with_reducible refine (engrossref1_MayKey.calls ae true _ A2.out).mono ?_);rintro e w' ⟨rfl,⟨nd,rfl⟩⟩;refine⟨_,rfl,?_⟩)|(go_at_call 47;(with_reducible refine (engrossref1_MayVal.calls af ai aj true _ A4.out).mono ?_);rintro e w25 ⟨rfl,hb⟩;replace aa:=bB aa hb;replace HB:=bW HB hb;(try clear hb);(try clear hb2);(try clear hk);(try clear hi);obtain⟨eH,eI,eJ,eK,eL,eM,eN,eO,eP,eQ,eR,eS,eT,eU,eV,eW⟩:=bf8 (w:=w25) aa)|(go_at_call 47;(with_reducible refine (engrossref1_MayVal.calls ac ag ah true _ A6.out).mono ?_);rintro e w27 ⟨rfl,hb⟩;replace aa:=bB aa hb;replace HB:=bW HB hb;(try clear hb);(try clear hb2);(try clear hk);(try clear hi);obtain⟨eX,eY,eZ,e8,e9,fa,fb,fd,fe,ff,fg,fh,fi,fj,fk,fl⟩:=bf8 (w:=w27) aa))
  go_ret
  exact xB HB
 rw [if_neg c22] at H
 have au:decide (0<ab)=false:=decide_eq_false c22
 clear c22
 by_cases c29:ac=0
 rotate_left
 ·rw [if_neg c29] at H
  have av:(ac == 0)=false:=beq_eq_false_iff_ne.mpr c29
  have aw:(ac != 0)=true:=bne_iff_ne.mpr c29
  obtain rfl:=Option.some.inj H
  go_enter Try.func31,Try.ntmps31
  go_wp2_with (first|((with_reducible refine gate_dst (N:=1) rfl ?_);refine box_event ?hg (N:=1) ?hd (cs:=#[.string ae,.int .i64 af,.float .f64 ai,.string aj,.int .i64 ab,.int .i64 ac,.float .f64 ag,.string ah]) (t:=56) ?hr ?_;(case hd=>rfl);(case hg=>rfl);(case hr=>first|(go_simp;done)|(go_simp;rfl));intro al hg w36 hbox hb;have aa:=aK (hbox);have am:=bZ HB hg;have ao:=bZ HB hg;replace HB:=bW HB hb;clear hb hbox hg;obtain⟨fm,fp,fq,ft,fu,fv,fw,fz,fA,fB,fC,fD,fE,fF,fG,fH⟩:=bf8 (w:=w36) aa)|((with_reducible refine gate_callee (f:=32) rfl ?_);refine gL (some 5) Try.func32 #[.string ae] ?_;(with_reducible refine (engrossref1_MayKey.calls ae true _ A2.out).mono ?_);rintro e w' ⟨rfl,⟨nd,rfl⟩⟩;refine⟨_,rfl,?_⟩)|(go_at_call 47;(with_reducible refine (engrossref1_MayVal.calls af ai aj true _ A4.out).mono ?_);rintro e w38 ⟨rfl,hb⟩;replace aa:=bB aa hb;replace HB:=bW HB hb;(try clear hb);(try clear hb2);(try clear hk);(try clear hi);obtain⟨fI,fJ,fK,fL,fM,fN,fO,fP,fQ,fR,fS,fT,fU,fV,fW,fX⟩:=bf8 (w:=w38) aa)|(go_at_call 47;(with_reducible refine (engrossref1_MayVal.calls ac ag ah true _ A6.out).mono ?_);rintro e w40 ⟨rfl,hb⟩;replace aa:=bB aa hb;replace HB:=bW HB hb;(try clear hb);(try clear hb2);(try clear hk);(try clear hi);obtain⟨fY,fZ,f4,f5,f6,f7,f8,ga,gb,gc,gf,gg,gh,gi,gj,gl⟩:=bf8 (w:=w40) aa))
  go_ret
  exact xB HB
 rw [if_pos c29] at H
 have av:(ac == 0)=true:=beq_iff_eq.mpr c29
 have aw:(ac != 0)=false:=bne_eq_false_iff_eq.mpr c29
 clear c29
 obtain rfl:=Option.some.inj H
 go_enter Try.func31,Try.ntmps31
 go_wp2_with (first|((with_reducible refine gate_dst (N:=1) rfl ?_);refine box_event ?hg (N:=1) ?hd (cs:=#[.string ae,.int .i64 af,.float .f64 ai,.string aj,.int .i64 ab,.int .i64 ac,.float .f64 ag,.string ah]) (t:=56) ?hr ?_;(case hd=>rfl);(case hg=>rfl);(case hr=>first|(go_simp;done)|(go_simp;rfl));intro al hg w30 hbox hb;have aa:=aK (hbox);have am:=bZ HB hg;have ao:=bZ HB hg;replace HB:=bW HB hb;clear hb hbox hg;obtain⟨gm,gn,go,gp,gq,gr,gu,gv,gw,gx,gy,gz,gA,gB,gC,gD⟩:=bf8 (w:=w30) aa)|((with_reducible refine gate_callee (f:=32) rfl ?_);refine gL (some 5) Try.func32 #[.string ae] ?_;(with_reducible refine (engrossref1_MayKey.calls ae true _ A2.out).mono ?_);rintro e w' ⟨rfl,⟨nd,rfl⟩⟩;refine⟨_,rfl,?_⟩)|(go_at_call 47;(with_reducible refine (engrossref1_MayVal.calls af ai aj true _ A4.out).mono ?_);rintro e w32 ⟨rfl,hb⟩;replace aa:=bB aa hb;replace HB:=bW HB hb;(try clear hb);(try clear hb2);(try clear hk);(try clear hi);obtain⟨gE,gF,gG,gH,gI,gJ,gK,gM,gN,gO,gP,gQ,gR,gS,gT,gU⟩:=bf8 (w:=w32) aa)|(go_at_call 47;(with_reducible refine (engrossref1_MayVal.calls ac ag ah true _ A6.out).mono ?_);rintro e w34 ⟨rfl,hb⟩;replace aa:=bB aa hb;replace HB:=bW HB hb;(try clear hb);(try clear hb2);(try clear hk);(try clear hi);obtain⟨gV,gW,gX,gY,gZ,g4,g5,g6,g7,g8,g9,hD,hG,hH,hI,hJ⟩:=bf8 (w:=w34) aa))
 go_ret
 exact xB HB
end Go.Proofs.Ytmmjpieafbjggaa.P
end
