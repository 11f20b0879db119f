/- The law NodeOrder returns true for every input: the words, the walks and the plain statement that its row needs. No condition. (Merged by a program of this session out of its own texts.) -/
import Derived.ArgAppend
import Derived.Below
import Derived.BigQuiet
import Derived.Deep.AppendLies
import Derived.Deep.CutBlock
import Derived.Deep.DeepCutAuto
import Derived.Deep.Draws
import Derived.Deep.LoopGhost
import Derived.Deep.OwnRows
import Derived.Deep.QuietTactic
import Derived.Deep.RegionHeld3
import Derived.KernelRfl
import Derived.Laws.BitsLemmas
import Derived.Laws.BytesArg
import Derived.Laws.Cover2
import Derived.Laws.Externs
import Derived.Laws.FloatArith
import Derived.Laws.IdiomCopy
import Derived.Laws.MakeOwn
import Derived.Laws.OwnMore
import Derived.Laws.Rows
import Derived.Laws.Slices
import Derived.Laws.StructEq
import Derived.Lib.AppendStr
import Derived.Lib.ConvBytes
import Derived.Maps.AppendAt
import Derived.OrdersHeld
import Derived.OwnWalk
import Derived.RowKit
import Derived.RowKit3
import Derived.Tactics
import Derived.Test.YtmmjpieafbjggaaProg
import Derived.WalkKit
import Derived.WideLaws
import Derived.Test.YtmmjpieafbjggaaQNodeOrder4
section
namespace Go.Proofs.Ytmmjpieafbjggaa.P
open Go.RowKit Go.Proofs.YtmmjpieafbjggaaW.PrintWords Go.Proofs.YtmmjpieafbjggaaW.PrintLast Go.Proofs.YtmmjpieafbjggaaW.PrintMore
attribute [local go_sem] max2_int min2_int max_two min_two max_three min_three max_four min_four   -- for this text's walks alone
attribute [local go_sem] x_str_gtr x_str_leq x_str_geq ext_bits ext_frombits ext_neg x_store_float Instr.field asAgg
set_option linter.unusedVariables false
set_option linter.unusedSimpArgs false
def slices_BinarySearch_string_string.l0:Nat→List ByteArray→ByteArray→Int→Int→Int→Option (Int × Bool)
 | 0,_,_,_,_,_=>none
 | k+1,x0,x1,x6,x7,x8=>if x7<x8 then (if 0≤(wrap64 ((IntKind.u64.wrap (wrap64 (x7+x8))) / 2)) then (if (wrap64 ((IntKind.u64.wrap (wrap64 (x7+x8))) / 2))<(x0.length:Int) then ((cmp_Less_string.f (rdOf ByteArray.empty x0 (wrap64 ((IntKind.u64.wrap (wrap64 (x7+x8))) / 2))) x1).bind fun t207=>(if t207=true then (slices_BinarySearch_string_string.l0 k x0 x1 x6 (wrap64 ((wrap64 ((IntKind.u64.wrap (wrap64 (x7+x8))) / 2))+1)) x8) else (slices_BinarySearch_string_string.l0 k x0 x1 x6 x7 (wrap64 ((IntKind.u64.wrap (wrap64 (x7+x8))) / 2))))) else (none)) else (none)) else (if x7<x6 then (if 0≤x7 then (if x7<(x0.length:Int) then (if (rdOf ByteArray.empty x0 x7).toList=x1.toList then (some (x7,true)) else ((slices_isNaN_string.f (rdOf ByteArray.empty x0 x7)).bind fun t210=>(if t210=true then ((slices_isNaN_string.f x1).bind fun t211=>(some (x7,t211))) else (some (x7,false))))) else (none)) else (none)) else (some (x7,false)))
def slices_BinarySearch_string_string.f (k:Nat) (l0:List ByteArray) (a1:ByteArray):Option (Int × Bool):=slices_BinarySearch_string_string.l0 k l0 a1 (l0.length:Int) 0 (l0.length:Int)
theorem slices_BinarySearch_string_string.mono_l:∀ k,(∀ y0 y1 y2 y3 y4,LeO (slices_BinarySearch_string_string.l0 k y0 y1 y2 y3 y4) (slices_BinarySearch_string_string.l0 (k+1) y0 y1 y2 y3 y4))
 | 0=>fun _ _ _ _ _ r h=>by simp [slices_BinarySearch_string_string.l0] at h
 | k+1=>by
  have ih0:=slices_BinarySearch_string_string.mono_l k
  ·intro y0 y1 y2 y3 y4
   unfold slices_BinarySearch_string_string.l0
   repeat' first
   | (with_reducible exact ih0 _ _ _ _ _)
   | (with_reducible exact LeO.refl _)
   | (with_reducible exact LeO.none _)
   | (with_reducible refine LeO.ite ?_ ?_)
   | (with_reducible refine LeO.bind ?_ (fun _=>?_))
   | exact ih0 _ _ _ _ _
   | exact LeO.none _
   | refine LeO.ite ?_ ?_
   | refine LeO.bind ?_ (fun _=>?_)
theorem slices_BinarySearch_string_string.mono:∀ a0 a1 k,LeO (slices_BinarySearch_string_string.f k a0 a1) (slices_BinarySearch_string_string.f (k+1) a0 a1):=by
 intro a0 a1 k
 have ih0:=slices_BinarySearch_string_string.mono_l k
 unfold slices_BinarySearch_string_string.f
 repeat' first
   | (with_reducible exact ih0 _ _ _ _ _)
   | (with_reducible exact LeO.refl _)
   | (with_reducible exact LeO.none _)
   | (with_reducible refine LeO.ite ?_ ?_)
   | (with_reducible refine LeO.bind ?_ (fun _=>?_))
   | exact ih0 _ _ _ _ _
   | exact LeO.none _
   | refine LeO.ite ?_ ?_
   | refine LeO.bind ?_ (fun _=>?_)
set_option maxHeartbeats 8000000 in
set_option maxRecDepth 100000 in
theorem slices_BinarySearch_string_string.calls (k:Nat) (A0:Option Addr) (c0:Nat) (l0:List ByteArray) (a1:ByteArray) (r1:Int) (r2:Bool) (w:World) (hr0:Kd.C Kd.string w A0 l0.length l0) (hc0:l0.length≤c0) (h:slices_BinarySearch_string_string.f k l0 a1=some (r1,r2)) :
  Calls Try.prog 37 #[.slice A0 l0.length c0,.string a1] w fun e w'=>e = .returned (.tuple #[.int .i64 r1,.bool r2])∧Drawn0 w w':=by
 have HR0:=aK hr0
 have HC0:=aK hc0
 clear hr0 hc0
 have H:(slices_BinarySearch_string_string.l0 k l0 a1 (l0.length:Int) 0 (l0.length:Int))=some (r1,r2):=h
 clear h
 have H':=aK H
 clear H
 go_enter Try.func37,Try.ntmps37
 go_wp2
 go_loopg [7,8] k (fun kq v7 v8 w'=>∃ (aa:Int) (ab:Int),v7 = .int .i64 aa∧v8 = .int .i64 ab∧Aside0 (slices_BinarySearch_string_string.l0 kq l0 a1 (l0.length:Int) aa ab=some (r1,r2))∧Aside0 (kq≤k)∧Drawn0 w w')
 case atStart=>exact⟨(0),((l0.length:Int)),(by first|rfl|(simp;done)|(simp [*];done)),(by first|rfl|(simp;done)|(simp [*];done)),H',⟨Nat.le_refl _⟩,by repeat (first|exact Drawn0.refl _|apply Drawn0.step)⟩
 case round =>
  clear H'
  try clear p2
  obtain⟨aa,ab,rfl,rfl,HA,HK1,⟨m1,rfl⟩⟩:=hrel
  cases gk with
  | zero=>exact absurd HA.out (by simp [slices_BinarySearch_string_string.l0])
  | succ k1 =>
   have H:=HA.out
   clear HA
   simp only [slices_BinarySearch_string_string.l0] at H
   by_cases c3:aa<ab
   ·rw [if_pos c3] at H
    have az:decide (aa<ab)=true:=decide_eq_true c3
    clear c3
    obtain⟨ji4,hji4⟩:∃ j_:Int,(wrap64 ((IntKind.u64.wrap (wrap64 (aa+ab))) / 2))=j_:=⟨_,rfl⟩
    replace H:(if 0≤(ji4) then (if (ji4)<(l0.length:Int) then ((cmp_Less_string.f (rdOf ByteArray.empty l0 (ji4)) a1).bind fun am=>(if am=true then (slices_BinarySearch_string_string.l0 k1 l0 a1 (l0.length:Int) (wrap64 ((ji4)+1)) ab) else (slices_BinarySearch_string_string.l0 k1 l0 a1 (l0.length:Int) aa ji4))) else (none)) else (none))=some (r1,r2):=by first|(rw [hji4] at H;exact H)|(simp only [hji4] at H ⊢;exact H)
    have hji4w:(IntKind.i64.wrap ((IntKind.u64.wrap (wrap64 (aa+ab))) / 2))=ji4:=(i64_w _).trans hji4
    by_cases c5:0≤(ji4)
    rotate_left
    ·rw [if_neg c5] at H
     exact absurd H (by simp)
    rw [if_pos c5] at H
    have aE:decide (0≤(ji4))=true:=decide_eq_true c5
    clear c5
    by_cases c6:(ji4)<(l0.length:Int)
    rotate_left
    ·rw [if_neg c6] at H
     exact absurd H (by simp)
    rw [if_pos c6] at H
    have aG:decide ((ji4)<(l0.length:Int))=true:=decide_eq_true c6
    clear c6
    replace H:=oS H
    obtain⟨am,A70,H⟩:=H
    replace H:(if am=true then (slices_BinarySearch_string_string.l0 k1 l0 a1 (l0.length:Int) (wrap64 ((ji4)+1)) ab) else (slices_BinarySearch_string_string.l0 k1 l0 a1 (l0.length:Int) aa ji4))=some (r1,r2):=H
    have A7:=aK A70
    clear A70
    by_cases c8:am=true
    ·subst c8
     have H1:(slices_BinarySearch_string_string.l0 k1 l0 a1 (l0.length:Int) (wrap64 ((ji4)+1)) ab)=some (r1,r2):=by rw [if_pos rfl] at H;exact H
     clear H
     have H:=H1
     clear H1
     have H':=aK H
     clear H
     have af:0≤((ji4):Int):=dA
     have ag:(ji4)<(l0.length:Int):=dA
     obtain⟨aw,e206,ap⟩:=Kd.at_string HR0.out (ji4) af ag
     cases e206
     replace af:=eq_true af
     replace ag:=eq_true ag
     go_wp2_with (first|((with_reducible refine gate_callee (f:=53) rfl ?_);refine goesL_ (some 27) rfl rfl Try.func53 (by kernel_rfl) rfl #[.string (rdOf ByteArray.empty l0 (ji4)),.string a1] rfl (by (try simp only [List.map_toArray,List.map_cons,List.map_nil]);first|done|(simp only [hji4];rfl)|rfl|(simp only [List.length_drop,List.length_take];rfl)) ?_;(with_reducible refine (cmp_Less_string.calls (rdOf ByteArray.empty l0 (ji4)) a1 true _ A7.out).mono ?_);rintro e w' ⟨rfl,⟨nd,rfl⟩⟩;refine⟨_,rfl,?_⟩))
     go_roundg k1
     case measure=>have:=HK1.out;omega
     case rel=>exact⟨(wrap64 ((ji4)+1)),(ab),(by first|rfl|(simp;done)|(simp only [← hji4] <;> (first|rfl|simp))|(simp [*];done)),(by first|rfl|(simp;done)|(simp [*];done)),H',⟨by have:=HK1.out;omega⟩,by repeat (first|exact Drawn0.refl _|apply Drawn0.step)⟩
    replace c8:=Bool.eq_false_iff.mpr c8
    subst c8
    have H1:(slices_BinarySearch_string_string.l0 k1 l0 a1 (l0.length:Int) aa ji4)=some (r1,r2):=by rw [if_neg (show ¬ (false=true) by decide)] at H;exact H
    clear H
    have H:=H1
    clear H1
    have H':=aK H
    clear H
    have af:0≤((ji4):Int):=dA
    have ag:(ji4)<(l0.length:Int):=dA
    obtain⟨aw,e206,ap⟩:=Kd.at_string HR0.out (ji4) af ag
    cases e206
    replace af:=eq_true af
    replace ag:=eq_true ag
    go_wp2_with (first|((with_reducible refine gate_callee (f:=53) rfl ?_);refine goesL_ (some 27) rfl rfl Try.func53 (by kernel_rfl) rfl #[.string (rdOf ByteArray.empty l0 (ji4)),.string a1] rfl (by (try simp only [List.map_toArray,List.map_cons,List.map_nil]);first|done|(simp only [hji4];rfl)|rfl|(simp only [List.length_drop,List.length_take];rfl)) ?_;(with_reducible refine (cmp_Less_string.calls (rdOf ByteArray.empty l0 (ji4)) a1 false _ A7.out).mono ?_);rintro e w' ⟨rfl,⟨nd,rfl⟩⟩;refine⟨_,rfl,?_⟩))
    go_roundg k1
    case measure=>have:=HK1.out;omega
    case rel=>exact⟨(aa),(ji4),(by first|rfl|(simp;done)|(simp [*];done)),(by first|rfl|(simp;done)|(simp only [← hji4] <;> (first|rfl|simp))|(simp [*];done)),H',⟨by have:=HK1.out;omega⟩,by repeat (first|exact Drawn0.refl _|apply Drawn0.step)⟩
   rw [if_neg c3] at H
   have az:decide (aa<ab)=false:=decide_eq_false c3
   clear c3
   by_cases c9:aa<(l0.length:Int)
   rotate_left
   ·rw [if_neg c9] at H
    have aA:decide (aa<(l0.length:Int))=false:=decide_eq_false c9
    clear c9
    simp only [Option.some.injEq,Prod.mk.injEq] at H
    obtain⟨rfl,rfl⟩:=H
    go_wp2
    go_ret2
    exact⟨by first|rfl|(simp;done)|(simp [*];done),by repeat (first|exact Drawn0.refl _|apply Drawn0.step)⟩
   rw [if_pos c9] at H
   have aA:decide (aa<(l0.length:Int))=true:=decide_eq_true c9
   clear c9
   by_cases c10:0≤aa
   rotate_left
   ·rw [if_neg c10] at H
    exact absurd H (by simp)
   rw [if_pos c10] at H
   have aC:decide (0≤aa)=true:=decide_eq_true c10
   clear c10
   by_cases c11:aa<(l0.length:Int)
   rotate_left
   ·rw [if_neg c11] at H
    exact absurd H (by simp)
   rw [if_pos c11] at H
   have aD:decide (aa<(l0.length:Int))=true:=decide_eq_true c11
   clear c11
   by_cases c12:(rdOf ByteArray.empty l0 aa).toList=a1.toList
   ·rw [if_pos c12] at H
    have ax:((rdOf ByteArray.empty l0 aa).toList == a1.toList)=true:=beq_iff_eq.mpr c12
    have ay:((rdOf ByteArray.empty l0 aa).toList != a1.toList)=false:=bne_eq_false_iff_eq.mpr c12
    clear c12
    simp only [Option.some.injEq,Prod.mk.injEq] at H
    obtain⟨rfl,rfl⟩:=H
    have ac:0≤(aa:Int):=dA
    have ae:aa<(l0.length:Int):=dA
    obtain⟨ak,e208,al⟩:=Kd.at_string HR0.out aa ac ae
    cases e208
    replace ac:=eq_true ac
    replace ae:=eq_true ae
    go_wp2
    go_ret2
    exact⟨by first|rfl|(simp;done)|(simp [*];done),by repeat (first|exact Drawn0.refl _|apply Drawn0.step)⟩
   rw [if_neg c12] at H
   have ax:((rdOf ByteArray.empty l0 aa).toList == a1.toList)=false:=beq_eq_false_iff_ne.mpr c12
   have ay:((rdOf ByteArray.empty l0 aa).toList != a1.toList)=true:=bne_iff_ne.mpr c12
   replace H:=oS H
   obtain⟨ar,au,H⟩:=H
   replace H:(if ar=true then ((slices_isNaN_string.f a1).bind fun aj=>(some (aa,aj))) else (some (aa,false)))=some (r1,r2):=H
   have A13:=aK au
   clear au
   by_cases c14:ar=true
   rotate_left
   ·replace c14:=Bool.eq_false_iff.mpr c14
    subst c14
    have H1:(some (aa,false))=some (r1,r2):=by rw [if_neg (show ¬ (false=true) by decide)] at H;exact H
    clear H
    have H:=H1
    clear H1
    simp only [Option.some.injEq,Prod.mk.injEq] at H
    obtain⟨rfl,rfl⟩:=H
    have ac:0≤(aa:Int):=dA
    have ae:aa<(l0.length:Int):=dA
    obtain⟨ak,e208,al⟩:=Kd.at_string HR0.out aa ac ae
    cases e208
    replace ac:=eq_true ac
    replace ae:=eq_true ae
    have ah:0≤(aa:Int):=dA
    have ai:aa<(l0.length:Int):=dA
    obtain⟨ao,e209,aq⟩:=Kd.at_string HR0.out aa ah ai
    obtain rfl:ak=ao:=(by injection e209)
    replace ah:=eq_true ah
    replace ai:=eq_true ai
    go_wp2_with (first|(go_at_call 54;(with_reducible refine (slices_isNaN_string.calls (rdOf ByteArray.empty l0 aa) false _ A13.out).mono ?_);rintro e w' ⟨rfl,⟨nd,rfl⟩⟩))
    go_ret2
    exact⟨by first|rfl|(simp;done)|(simp [*];done),by repeat (first|exact Drawn0.refl _|apply Drawn0.step)⟩
   subst c14
   have H1:((slices_isNaN_string.f a1).bind fun aj=>(some (aa,aj)))=some (r1,r2):=by rw [if_pos rfl] at H;exact H
   clear H
   have H:=H1
   clear H1
   replace H:=oS H
   obtain⟨aj,av,H⟩:=H
   replace H:(some (aa,aj))=some (r1,r2):=H
   have A15:=aK av
   clear av
   simp only [Option.some.injEq,Prod.mk.injEq] at H
   obtain⟨rfl,rfl⟩:=H
   have ac:0≤(aa:Int):=dA
   have ae:aa<(l0.length:Int):=dA
   obtain⟨ak,e208,al⟩:=Kd.at_string HR0.out aa ac ae
   cases e208
   replace ac:=eq_true ac
   replace ae:=eq_true ae
   have ah:0≤(aa:Int):=dA
   have ai:aa<(l0.length:Int):=dA
   obtain⟨ao,e209,aq⟩:=Kd.at_string HR0.out aa ah ai
   obtain rfl:ak=ao:=(by injection e209)
   replace ah:=eq_true ah
   replace ai:=eq_true ai
   go_wp2_with (first|(go_at_call 54;(with_reducible refine (slices_isNaN_string.calls (rdOf ByteArray.empty l0 aa) true _ A13.out).mono ?_);rintro e w' ⟨rfl,⟨nd,rfl⟩⟩)|(go_at_call 54;(with_reducible refine (slices_isNaN_string.calls a1 aj _ A15.out).mono ?_);rintro e w' ⟨rfl,⟨nd,rfl⟩⟩))
   go_ret2
   exact⟨by first|rfl|(simp;done)|(simp [*];done),by repeat (first|exact Drawn0.refl _|apply Drawn0.step)⟩
def node_Kid.j0:Nat→ByteArray→Bool→Bool→List (S62)→List ByteArray→List Int→Option (Int)
 | 0,_,_,_,_,_,_=>none
 | k+1,x1,x13,x213000,x213001,x213002,x213003=>if x13=true then (some (-1)) else ((slices_BinarySearch_string_string.f k x213002 x1).bind fun bt214=>(if bt214.2=true then (some (wrap64 (bt214.1+1))) else (some bt214.1)))
def node_Kid.f (k:Nat) (a0_0:Bool) (l0_1:List (S62)) (l0_2:List ByteArray) (l0_3:List Int) (a1:ByteArray):Option (Int):=if a0_0=true then (node_Kid.j0 k a1 true a0_0 l0_1 l0_2 l0_3) else ((node_May.f k a0_0 l0_1 l0_2 l0_3).bind fun t213=>(node_Kid.j0 k a1 (!t213) a0_0 l0_1 l0_2 l0_3))
theorem node_Kid.mono_l:∀ k,(∀ y0 y1 y2 y3 y4 y5,LeO (node_Kid.j0 k y0 y1 y2 y3 y4 y5) (node_Kid.j0 (k+1) y0 y1 y2 y3 y4 y5))
 | 0=>fun _ _ _ _ _ _ r h=>by simp [node_Kid.j0] at h
 | k+1=>by
  have ih0:=node_Kid.mono_l k
  ·intro y0 y1 y2 y3 y4 y5
   unfold node_Kid.j0
   repeat' first
   | (with_reducible exact ih0 _ _ _ _ _ _)
   | (with_reducible exact node_May.mono _ _ _ _ _)
   | (with_reducible exact slices_BinarySearch_string_string.mono _ _ _)
   | (with_reducible exact LeO.refl _)
   | (with_reducible exact LeO.none _)
   | (with_reducible refine LeO.ite ?_ ?_)
   | (with_reducible refine LeO.bind ?_ (fun _=>?_))
   | exact ih0 _ _ _ _ _ _
   | exact node_May.mono _ _ _ _ _
   | exact slices_BinarySearch_string_string.mono _ _ _
   | exact LeO.none _
   | refine LeO.ite ?_ ?_
   | refine LeO.bind ?_ (fun _=>?_)
theorem node_Kid.mono:∀ a0 a1 a2 a3 a4 k,LeO (node_Kid.f k a0 a1 a2 a3 a4) (node_Kid.f (k+1) a0 a1 a2 a3 a4):=by
 intro a0 a1 a2 a3 a4 k
 have ih0:=node_Kid.mono_l k
 unfold node_Kid.f
 repeat' first
   | (with_reducible exact ih0 _ _ _ _ _ _)
   | (with_reducible exact node_May.mono _ _ _ _ _)
   | (with_reducible exact slices_BinarySearch_string_string.mono _ _ _)
   | (with_reducible exact LeO.refl _)
   | (with_reducible exact LeO.none _)
   | (with_reducible refine LeO.ite ?_ ?_)
   | (with_reducible refine LeO.bind ?_ (fun _=>?_))
   | exact ih0 _ _ _ _ _ _
   | exact node_May.mono _ _ _ _ _
   | exact slices_BinarySearch_string_string.mono _ _ _
   | exact LeO.none _
   | refine LeO.ite ?_ ?_
   | refine LeO.bind ?_ (fun _=>?_)
set_option maxHeartbeats 8000000 in
set_option maxRecDepth 100000 in
theorem node_Kid.calls (k:Nat) (af:Bool) (al:Option Addr) (am:Nat) (ab:List (S62)) (ah:Option Addr) (ai:Nat) (aa:List ByteArray) (ao:Option Addr) (ap:Nat) (ac:List Int) (a1:ByteArray) (r:Int) (w:World) (av:Kd.C k62 w al ab.length ab) (aw:ab.length≤am) (ax:Kd.C Kd.string w ah aa.length aa) (ay:aa.length≤ai) (az:Kd.C (Kd.int .i64) w ao ac.length ac) (aA:ac.length≤ap) (h:node_Kid.f k af ab aa ac a1=some r) :
  Calls Try.prog 20 #[.agg #[.bool af,.slice al ab.length am,.slice ah aa.length ai,.slice ao ac.length ap],.string a1] w fun e w'=>e = .returned (.int .i64 r)∧Below w.heap.size w w':=by
 have hu36:=Try.underlying36
 have bb:=aK av
 have bc:=aK aw
 clear av aw
 have aq:=aK ax
 have ar:=aK ay
 clear ax ay
 have bf:=aK az
 have bg:=aK aA
 clear az aA
 have HB:=aK (Below.refl w.heap.size w)
 have H:(if af=true then (node_Kid.j0 k a1 true af ab aa ac) else ((node_May.f k af ab aa ac).bind fun ag=>(node_Kid.j0 k a1 (!ag) af ab aa ac)))=some r:=h
 clear h
 have HC3:=aK H
 clear H
 go_enter Try.func20,Try.ntmps20
 go_upto_region 1 with (first|((with_reducible refine gate_dst (N:=2) rfl ?_);refine box_event ?hg (N:=2) ?hd (cs:=#[.bool af,.slice al ab.length am,.slice ah aa.length ai,.slice ao ac.length ap]) (t:=36) ?hr ?_;(case hd=>rfl);(case hg=>rfl);(case hr=>first|(go_simp;done)|(go_simp;rfl));intro bh hg w4 hbox hb;have ae:=aK (hbox);have bD:=bZ HB hg;have bF:=bZ HB hg;replace HB:=bW HB hb;clear hb hbox hg))
 (try simp only [Act.put,List.setIfInBounds_toArray,List.set_cons_zero,List.set_cons_succ])
 go_cut [13] (fun v13 wc=>∃ (kq:Nat) (ak:Bool),v13 = .bool ak∧Aside0 (node_Kid.j0 kq a1 ak af ab aa ac=some r)∧Aside0 (kq≤k)∧Aside0 (wc.heap[bh]? = some (.cells #[.bool af,(.slice al ab.length am),(.slice ah aa.length ai),(.slice ao ac.length ap)] 36 (0,0)))∧Aside0 (Below w.heap.size w wc))
 case first =>
  have H:=HC3.out
  clear HC3
  by_cases c5:af=true
  ·subst c5
   have H1:(node_Kid.j0 k a1 true true ab aa ac)=some r:=by rw [if_pos rfl] at H;exact H
   clear H
   have H:=H1
   clear H1
   have H':=aK H
   clear H
   obtain⟨aC,aD,aE,aG,aH,aI,aJ,aM⟩:=bf4 (w:=w4) ae
   go_wp2
   go_meet
   case rel=>exact⟨_,(true),(by first|rfl|(simp;done)|(simp [*];done)),H',⟨by first|omega|exact Nat.le_refl _⟩,bK ae,bV HB⟩
  replace c5:=Bool.eq_false_iff.mpr c5
  subst c5
  have H1:((node_May.f k false ab aa ac).bind fun ag=>(node_Kid.j0 k a1 (!ag) false ab aa ac))=some r:=by rw [if_neg (show ¬ (false=true) by decide)] at H;exact H
  clear H
  have H:=H1
  clear H1
  replace H:=oS H
  obtain⟨ag,A70,H⟩:=H
  replace H:(node_Kid.j0 k a1 (!ag) false ab aa ac)=some r:=H
  have A7:=aK A70
  clear A70
  have H':=aK H
  clear H
  obtain⟨aN,aQ,aT,aU,aV,aW,aX,aY⟩:=bf4 (w:=w4) ae
  go_wp2_with (first|(go_at_call 16;(with_reducible refine (node_May.calls k false _ _ ab _ _ aa _ _ ac ag _ ?side1 ?side2 ?side3 ?side4 ?side5 ?side6 A7.out).mono ?_);(case side1=>repeat (first|exact (Kd.C_below bb.out HB.out)|(with_reducible refine Kd.C_alloc ?_ _)|(with_reducible refine Kd.C_drewN ?_ _)|(with_reducible refine Kd.C_drew ?_)));(case side2=>exact bc.out);(case side3=>repeat (first|exact (Kd.C_below aq.out HB.out)|(with_reducible refine Kd.C_alloc ?_ _)|(with_reducible refine Kd.C_drewN ?_ _)|(with_reducible refine Kd.C_drew ?_)));(case side4=>exact ar.out);(case side5=>repeat (first|exact (Kd.C_below bf.out HB.out)|(with_reducible refine Kd.C_alloc ?_ _)|(with_reducible refine Kd.C_drewN ?_ _)|(with_reducible refine Kd.C_drew ?_)));(case side6=>exact bg.out);rintro e w9 ⟨rfl,hb⟩;replace ae:=bB ae hb;replace HB:=bW HB hb;(try clear hb);(try clear hb2);(try clear hk);(try clear hi)))
  go_meet
  case rel=>exact⟨_,(!ag),(by first|rfl|(simp;done)|(simp [*];done)),H',⟨by first|omega|exact Nat.le_refl _⟩,bK ae,bV HB⟩
 case rest =>
  clear HC3
  try clear c2
  try clear p2
  try clear c5
  try clear aC aD aE aG
  try clear aN aQ aT aU
  try clear aH aI aJ aM
  try clear aV aW aX aY
  obtain⟨kq,ak,rfl,HA,HJ2,ae,HB⟩:=hcut
  cases kq with
  | zero=>exact absurd HA.out (by simp [node_Kid.j0])
  | succ kj2 =>
   have H:=HA.out
   clear HA
   simp only [node_Kid.j0] at H
   by_cases c10:ak=true
   ·subst c10
    have H1:(some (-1))=some r:=by rw [if_pos rfl] at H;exact H
    clear H
    have H:=H1
    clear H1
    obtain rfl:=Option.some.inj H
    go_wp2
    go_ret
    exact xB HB
   replace c10:=Bool.eq_false_iff.mpr c10
   subst c10
   have H1:((slices_BinarySearch_string_string.f kj2 aa a1).bind fun au=>(if au.2=true then (some (wrap64 (au.1+1))) else (some au.1)))=some r:=by rw [if_neg (show ¬ (false=true) by decide)] at H;exact H
   clear H
   have H:=H1
   clear H1
   replace H:=oS H
   obtain⟨⟨aj,aZ⟩,ba,H⟩:=H
   replace H:(if aZ=true then (some (wrap64 (aj+1))) else (some aj))=some r:=H
   have A11:=aK ba
   clear ba
   by_cases c12:aZ=true
   ·subst c12
    have H1:(some (wrap64 (aj+1)))=some r:=by rw [if_pos rfl] at H;exact H
    clear H
    have H:=H1
    clear H1
    obtain rfl:=Option.some.inj H
    obtain⟨bi,bj,bk,bl,bm,bn,bo,bp⟩:=bf4 (w:=wc) ae
    go_wp2_with (first|((with_reducible refine gate_callee (f:=37) rfl ?_);refine gL (some 18) Try.func37 #[.slice ah aa.length ai,.string a1] ?_;(with_reducible refine (slices_BinarySearch_string_string.calls kj2 _ _ aa a1 aj true _ ?side1 ?side2 A11.out).mono ?_);(case side1=>repeat (first|exact (Kd.C_below aq.out HB.out)|(with_reducible refine Kd.C_alloc ?_ _)|(with_reducible refine Kd.C_drewN ?_ _)|(with_reducible refine Kd.C_drew ?_)));(case side2=>exact ar.out);rintro e w' ⟨rfl,⟨nd,rfl⟩⟩;refine⟨_,rfl,?_⟩))
    go_ret
    exact xB HB
   replace c12:=Bool.eq_false_iff.mpr c12
   subst c12
   have H1:(some aj)=some r:=by rw [if_neg (show ¬ (false=true) by decide)] at H;exact H
   clear H
   have H:=H1
   clear H1
   obtain rfl:=Option.some.inj H
   obtain⟨bq,br,bs,bu,bv,bw,bx,bA⟩:=bf4 (w:=wc) ae
   go_wp2_with (first|((with_reducible refine gate_callee (f:=37) rfl ?_);refine gL (some 18) Try.func37 #[.slice ah aa.length ai,.string a1] ?_;(with_reducible refine (slices_BinarySearch_string_string.calls kj2 _ _ aa a1 aj false _ ?side1 ?side2 A11.out).mono ?_);(case side1=>repeat (first|exact (Kd.C_below aq.out HB.out)|(with_reducible refine Kd.C_alloc ?_ _)|(with_reducible refine Kd.C_drewN ?_ _)|(with_reducible refine Kd.C_drew ?_)));(case side2=>exact ar.out);rintro e w' ⟨rfl,⟨nd,rfl⟩⟩;refine⟨_,rfl,?_⟩))
   go_ret
   exact xB HB
mutual
def num_Get.l0:Nat→Int→List Int→Int→Int→Option (Int × Int × Int)
 | 0,_,_,_,_=>none
 | k+1,x5,x9,x10,x11=>if x11<x10 then (if 0≤x11 then (if x11<(x9.length:Int) then (if x11=9 then (num_Get.j1 k x5 x11 (rd x9 x11) x9 x10 x11 (decide ((rd x9 x11)>1))) else (num_Get.j1 k x5 x11 (rd x9 x11) x9 x10 x11 false)) else (none)) else (none)) else (some (0,0,2))
def num_Get.j1:Nat→Int→Int→Int→List Int→Int→Int→Bool→Option (Int × Int × Int)
 | 0,_,_,_,_,_,_,_=>none
 | k+1,x5,x6,x7,x9,x10,x11,x21=>if x21=true then (some (0,0,1)) else (if 0≤(wrap64 (7 * x6)) then (if x7>127 then (num_Get.l0 k (Go.bits .or .u64 x5 (shl .u64 (IntKind.u64.wrap (Go.bits .and .u8 x7 127)) (wrap64 (7 * x6)))) x9 x10 (wrap64 (x11+1))) else (if x6>0 then (num_Get.j2 k (Go.bits .or .u64 x5 (shl .u64 (IntKind.u64.wrap (Go.bits .and .u8 x7 127)) (wrap64 (7 * x6)))) x6 (x7 == 0)) else (num_Get.j2 k (Go.bits .or .u64 x5 (shl .u64 (IntKind.u64.wrap (Go.bits .and .u8 x7 127)) (wrap64 (7 * x6)))) x6 false))) else (none))
def num_Get.j2:Nat→Int→Int→Bool→Option (Int × Int × Int)
 | 0,_,_,_=>none
 | k+1,x5,x6,x37=>if x37=true then (some (0,0,1)) else (if (Go.bits .and .u64 x5 1)=1 then (some (Go.bits .xor .i64 (-1) (wrap64 (x5 / 2)),wrap64 (x6+1),0)) else (some (wrap64 (x5 / 2),wrap64 (x6+1),0)))
end
def num_Get.f (k:Nat) (l0:List Int):Option (Int × Int × Int):=num_Get.l0 k 0 l0 (l0.length:Int) 0
theorem num_Get.mono_l:∀ k,(∀ y0 y1 y2 y3,LeO (num_Get.l0 k y0 y1 y2 y3) (num_Get.l0 (k+1) y0 y1 y2 y3))∧(∀ y0 y1 y2 y3 y4 y5 y6,LeO (num_Get.j1 k y0 y1 y2 y3 y4 y5 y6) (num_Get.j1 (k+1) y0 y1 y2 y3 y4 y5 y6))∧(∀ y0 y1 y2,LeO (num_Get.j2 k y0 y1 y2) (num_Get.j2 (k+1) y0 y1 y2))
 | 0=>⟨fun _ _ _ _ r h=>by simp [num_Get.l0] at h,fun _ _ _ _ _ _ _ r h=>by simp [num_Get.j1] at h,fun _ _ _ r h=>by simp [num_Get.j2] at h⟩
 | k+1=>by
  obtain⟨ih0,ih1,ih2⟩:=num_Get.mono_l k
  refine⟨?_,?_,?_⟩
  ·intro y0 y1 y2 y3
   unfold num_Get.l0
   repeat' first
   | (with_reducible exact ih0 _ _ _ _)
   | (with_reducible exact ih1 _ _ _ _ _ _ _)
   | (with_reducible exact ih2 _ _ _)
   | (with_reducible exact LeO.refl _)
   | (with_reducible exact LeO.none _)
   | (with_reducible refine LeO.ite ?_ ?_)
   | (with_reducible refine LeO.bind ?_ (fun _=>?_))
   | exact ih0 _ _ _ _
   | exact ih1 _ _ _ _ _ _ _
   | exact ih2 _ _ _
   | exact LeO.none _
   | refine LeO.ite ?_ ?_
   | refine LeO.bind ?_ (fun _=>?_)
  ·intro y0 y1 y2 y3 y4 y5 y6
   unfold num_Get.j1
   repeat' first
   | (with_reducible exact ih0 _ _ _ _)
   | (with_reducible exact ih1 _ _ _ _ _ _ _)
   | (with_reducible exact ih2 _ _ _)
   | (with_reducible exact LeO.refl _)
   | (with_reducible exact LeO.none _)
   | (with_reducible refine LeO.ite ?_ ?_)
   | (with_reducible refine LeO.bind ?_ (fun _=>?_))
   | exact ih0 _ _ _ _
   | exact ih1 _ _ _ _ _ _ _
   | exact ih2 _ _ _
   | exact LeO.none _
   | refine LeO.ite ?_ ?_
   | refine LeO.bind ?_ (fun _=>?_)
  ·intro y0 y1 y2
   unfold num_Get.j2
   repeat' first
   | (with_reducible exact ih0 _ _ _ _)
   | (with_reducible exact ih1 _ _ _ _ _ _ _)
   | (with_reducible exact ih2 _ _ _)
   | (with_reducible exact LeO.refl _)
   | (with_reducible exact LeO.none _)
   | (with_reducible refine LeO.ite ?_ ?_)
   | (with_reducible refine LeO.bind ?_ (fun _=>?_))
   | exact ih0 _ _ _ _
   | exact ih1 _ _ _ _ _ _ _
   | exact ih2 _ _ _
   | exact LeO.none _
   | refine LeO.ite ?_ ?_
   | refine LeO.bind ?_ (fun _=>?_)
theorem num_Get.mono:∀ a0 k,LeO (num_Get.f k a0) (num_Get.f (k+1) a0):=by
 intro a0 k
 obtain⟨ih0,ih1,ih2⟩:=num_Get.mono_l k
 unfold num_Get.f
 repeat' first
   | (with_reducible exact ih0 _ _ _ _)
   | (with_reducible exact ih1 _ _ _ _ _ _ _)
   | (with_reducible exact ih2 _ _ _)
   | (with_reducible exact LeO.refl _)
   | (with_reducible exact LeO.none _)
   | (with_reducible refine LeO.ite ?_ ?_)
   | (with_reducible refine LeO.bind ?_ (fun _=>?_))
   | exact ih0 _ _ _ _
   | exact ih1 _ _ _ _ _ _ _
   | exact ih2 _ _ _
   | exact LeO.none _
   | refine LeO.ite ?_ ?_
   | refine LeO.bind ?_ (fun _=>?_)
set_option maxHeartbeats 8000000 in
set_option maxRecDepth 100000 in
theorem num_Get.calls (k:Nat) (A0:Option Addr) (c0:Nat) (l0:List Int) (r1:Int) (r2:Int) (r3:Int) (w:World) (hr0:Kd.C (Kd.int .u8) w A0 l0.length l0) (hc0:l0.length≤c0) (h:num_Get.f k l0=some (r1,r2,r3)) :
  Calls Try.prog 55 #[.slice A0 l0.length c0] w fun e w'=>e = .returned (.tuple #[.int .i64 r1,.int .i64 r2,.int .i64 r3])∧Drawn0 w w':=by
 have HR0:=aK hr0
 have HC0:=aK hc0
 clear hr0 hc0
 have H:(num_Get.l0 k 0 l0 (l0.length:Int) 0)=some (r1,r2,r3):=h
 clear h
 have H':=aK H
 clear H
 go_enter Try.func55,Try.ntmps55
 go_wp2
 go_loopg [5,11] k (fun kq v5 v11 w'=>∃ (ab:Int) (aa:Int),v5 = .int .u64 ab∧v11 = .int .i64 aa∧Aside0 (num_Get.l0 kq ab l0 (l0.length:Int) aa=some (r1,r2,r3))∧Aside0 (kq≤k)∧Drawn0 w w')
 case atStart=>exact⟨(0),(0),(by first|rfl|(simp;done)|(simp [*];done)),(by first|rfl|(simp;done)|(simp [*];done)),H',⟨Nat.le_refl _⟩,by repeat (first|exact Drawn0.refl _|apply Drawn0.step)⟩
 case round =>
  clear H'
  obtain⟨ab,aa,rfl,rfl,HA,HK1,⟨m1,rfl⟩⟩:=hrel
  cases gk with
  | zero=>exact absurd HA.out (by simp [num_Get.l0])
  | succ k1 =>
   have H:=HA.out
   clear HA
   simp only [num_Get.l0] at H
   by_cases c2:aa<(l0.length:Int)
   rotate_left
   ·rw [if_neg c2] at H
    have ak:decide (aa<(l0.length:Int))=false:=decide_eq_false c2
    clear c2
    simp only [Option.some.injEq,Prod.mk.injEq] at H
    obtain⟨rfl,rfl,rfl⟩:=H
    go_wp2
    go_ret3
    exact⟨by first|rfl|(simp;done)|(simp [*];done),by repeat (first|exact Drawn0.refl _|apply Drawn0.step)⟩
   rw [if_pos c2] at H
   have ak:decide (aa<(l0.length:Int))=true:=decide_eq_true c2
   clear c2
   by_cases c3:0≤aa
   rotate_left
   ·rw [if_neg c3] at H
    exact absurd H (by simp)
   rw [if_pos c3] at H
   have ap:decide (0≤aa)=true:=decide_eq_true c3
   clear c3
   by_cases c4:aa<(l0.length:Int)
   rotate_left
   ·rw [if_neg c4] at H
    exact absurd H (by simp)
   rw [if_pos c4] at H
   have aq:decide (aa<(l0.length:Int))=true:=decide_eq_true c4
   clear c4
   have HC5:=aK H
   clear H
   have ah:0≤(aa:Int):=dA
   have ai:aa<(l0.length:Int):=dA
   obtain⟨ax,e216,aj⟩:=Kd.at_int HR0.out aa ah ai
   cases e216
   replace ah:=eq_true ah
   replace ai:=eq_true ai
   go_upto_region 5 with (fail)
   go_cut [21] (fun v21 wc=>∃ (kq:Nat) (ag:Bool),v21 = .bool ag∧Aside0 (num_Get.j1 kq ab aa (rd l0 aa) l0 (l0.length:Int) aa ag=some (r1,r2,r3))∧Aside0 (kq≤k1)∧Drawn0 w wc)
   case first =>
    have H:=HC5.out
    clear HC5
    by_cases c6:aa=9
    rotate_left
    ·rw [if_neg c6] at H
     have ae:(aa == 9)=false:=beq_eq_false_iff_ne.mpr c6
     have al:(aa != 9)=true:=bne_iff_ne.mpr c6
     (first|rw [ae]|(simp only [i64_w,i32_w];rw [ae])|skip)
     have H':=aK H
     clear H
     go_wp2
     go_meet
     case rel=>exact⟨_,(false),(by first|rfl|(simp;done)|(simp [*];done)),H',⟨by have:=HK1.out;first|omega|exact Nat.le_refl _⟩,by repeat (first|exact Drawn0.refl _|apply Drawn0.step)⟩
    rw [if_pos c6] at H
    have ae:(aa == 9)=true:=beq_iff_eq.mpr c6
    have al:(aa != 9)=false:=bne_eq_false_iff_eq.mpr c6
    clear c6
    (first|rw [ae]|(simp only [i64_w,i32_w];rw [ae])|skip)
    have H':=aK H
    clear H
    go_wp2
    go_meet
    case rel=>exact⟨_,(decide ((rd l0 aa)>1)),(by first|rfl|(simp;done)|(simp [*];done)),H',⟨by have:=HK1.out;first|omega|exact Nat.le_refl _⟩,by repeat (first|exact Drawn0.refl _|apply Drawn0.step)⟩
   case rest =>
    clear HC5
    try clear c2
    try clear ak
    try clear p2
    try clear q2
    try clear hx2
    try clear c3
    try clear ap
    try clear c4
    try clear aq
    try clear c5
    try clear c6
    try clear ae
    try clear al
    try clear aj
    try clear ah
    try clear ai
    obtain⟨kq,ag,rfl,HA,HJ4,⟨mc4,rfl⟩⟩:=hcut
    cases kq with
    | zero=>exact absurd HA.out (by simp [num_Get.j1])
    | succ kj4 =>
     have H:=HA.out
     clear HA
     simp only [num_Get.j1] at H
     by_cases c7:ag=true
     ·subst c7
      have H1:(some (0,0,1))=some (r1,r2,r3):=by rw [if_pos rfl] at H;exact H
      clear H
      have H:=H1
      clear H1
      simp only [Option.some.injEq,Prod.mk.injEq] at H
      obtain⟨rfl,rfl,rfl⟩:=H
      go_wp2
      go_ret3
      exact⟨by first|rfl|(simp;done)|(simp [*];done),by repeat (first|exact Drawn0.refl _|apply Drawn0.step)⟩
     replace c7:=Bool.eq_false_iff.mpr c7
     subst c7
     have H1:(if 0≤(wrap64 (7 * aa)) then (if (rd l0 aa)>127 then (num_Get.l0 kj4 (Go.bits .or .u64 ab (shl .u64 (IntKind.u64.wrap (Go.bits .and .u8 (rd l0 aa) 127)) (wrap64 (7 * aa)))) l0 (l0.length:Int) (wrap64 (aa+1))) else (if aa>0 then (num_Get.j2 kj4 (Go.bits .or .u64 ab (shl .u64 (IntKind.u64.wrap (Go.bits .and .u8 (rd l0 aa) 127)) (wrap64 (7 * aa)))) aa ((rd l0 aa) == 0)) else (num_Get.j2 kj4 (Go.bits .or .u64 ab (shl .u64 (IntKind.u64.wrap (Go.bits .and .u8 (rd l0 aa) 127)) (wrap64 (7 * aa)))) aa false))) else (none))=some (r1,r2,r3):=by rw [if_neg (show ¬ (false=true) by decide)] at H;exact H
     clear H
     have H:=H1
     clear H1
     obtain⟨ji8,hji8⟩:∃ j_:Int,(wrap64 (7 * aa))=j_:=⟨_,rfl⟩
     replace H:(if 0≤(ji8) then (if (rd l0 aa)>127 then (num_Get.l0 kj4 (Go.bits .or .u64 ab (shl .u64 (IntKind.u64.wrap (Go.bits .and .u8 (rd l0 aa) 127)) (ji8))) l0 (l0.length:Int) (wrap64 (aa+1))) else (if aa>0 then (num_Get.j2 kj4 (Go.bits .or .u64 ab (shl .u64 (IntKind.u64.wrap (Go.bits .and .u8 (rd l0 aa) 127)) (ji8))) aa ((rd l0 aa) == 0)) else (num_Get.j2 kj4 (Go.bits .or .u64 ab (shl .u64 (IntKind.u64.wrap (Go.bits .and .u8 (rd l0 aa) 127)) (ji8))) aa false))) else (none))=some (r1,r2,r3):=by first|(rw [hji8] at H;exact H)|(simp only [hji8] at H ⊢;exact H)
     have hji8w:(IntKind.i64.wrap (7 * aa))=ji8:=(i64_w _).trans hji8
     by_cases c9:0≤(ji8)
     rotate_left
     ·rw [if_neg c9] at H
      exact absurd H (by simp)
     rw [if_pos c9] at H
     have av:=eq_true c9
     have aw:decide (0≤(ji8))=true:=decide_eq_true c9
     clear c9
     obtain⟨ji10,hji10⟩:∃ j_:Int,(shl .u64 (IntKind.u64.wrap (Go.bits .and .u8 (rd l0 aa) 127)) (ji8))=j_:=⟨_,rfl⟩
     replace H:(if (rd l0 aa)>127 then (num_Get.l0 kj4 (Go.bits .or .u64 ab (ji10)) l0 (l0.length:Int) (wrap64 (aa+1))) else (if aa>0 then (num_Get.j2 kj4 (Go.bits .or .u64 ab (ji10)) aa ((rd l0 aa) == 0)) else (num_Get.j2 kj4 (Go.bits .or .u64 ab (ji10)) aa false)))=some (r1,r2,r3):=by first|(rw [hji10] at H;exact H)|(simp only [hji10] at H ⊢;exact H)
     have hji10_:(IntKind.u64.wrap ((IntKind.u64.wrap (Go.bits .and .u8 (rd l0 aa) 127)) * 2 ^ min (ji8).toNat 64))=ji10:=hji10
     have hji10z:(ji8)≤64→(IntKind.u64.wrap ((IntKind.u64.wrap (Go.bits .and .u8 (rd l0 aa) 127)) * 2 ^ (ji8).toNat))=ji10:=shl_small hji10
     by_cases c11:(rd l0 aa)>127
     ·rw [if_pos c11] at H
      have ao:decide (127<(rd l0 aa))=true:=decide_eq_true c11
      clear c11
      have H':=aK H
      clear H
      go_wp2
      go_roundg kj4
      case measure=>have:=HK1.out;have:=HJ4.out;omega
      case rel=>exact⟨(Go.bits .or .u64 ab (ji10)),(wrap64 (aa+1)),(by first|rfl|(simp;done)|(simp only [← hji10] <;> (first|rfl|simp))|(simp [*];done)),(by first|rfl|(simp;done)|(simp [*];done)),H',⟨by have:=HK1.out;have:=HJ4.out;omega⟩,by repeat (first|exact Drawn0.refl _|apply Drawn0.step)⟩
     rw [if_neg c11] at H
     have ao:decide (127<(rd l0 aa))=false:=decide_eq_false c11
     clear c11
     have am:=aK H
     clear H
     go_upto_region 9 with (fail)
     go_cut [37] (fun v37 wc=>∃ (kq:Nat) (af:Bool),v37 = .bool af∧Aside0 (num_Get.j2 kq (Go.bits .or .u64 ab (ji10)) aa af=some (r1,r2,r3))∧Aside0 (kq≤kj4)∧Drawn0 w wc)
     case first =>
      have H:=am.out
      clear am
      by_cases c13:aa>0
      rotate_left
      ·rw [if_neg c13] at H
       have ac:decide (0<aa)=false:=decide_eq_false c13
       clear c13
       (first|rw [ac]|(simp only [i64_w,i32_w];rw [ac])|skip)
       have H':=aK H
       clear H
       go_wp2
       go_meet
       case rel=>exact⟨_,(false),(by first|rfl|(simp;done)|(simp [*];done)),H',⟨by have:=HK1.out;have:=HJ4.out;first|omega|exact Nat.le_refl _⟩,by repeat (first|exact Drawn0.refl _|apply Drawn0.step)⟩
      rw [if_pos c13] at H
      have ac:decide (0<aa)=true:=decide_eq_true c13
      clear c13
      (first|rw [ac]|(simp only [i64_w,i32_w];rw [ac])|skip)
      have H':=aK H
      clear H
      go_wp2
      go_meet
      case rel=>exact⟨_,(((rd l0 aa) == 0)),(by first|rfl|(simp;done)|(simp [*];done)),H',⟨by have:=HK1.out;have:=HJ4.out;first|omega|exact Nat.le_refl _⟩,by repeat (first|exact Drawn0.refl _|apply Drawn0.step)⟩
     case rest =>
      clear am
      try clear c1
      try clear c2
      try clear ak
      try clear p2
      try clear q2
      try clear hx2
      try clear c3
      try clear ap
      try clear c4
      try clear aq
      try clear c5
      try clear c6
      try clear ae
      try clear al
      try clear p6
      try clear c7
      try clear c9
      try clear av
      try clear aw
      try clear c11
      try clear ao
      try clear c13
      try clear ac
      try clear aj
      try clear p2
      try clear ah
      try clear q2
      try clear ai
      obtain⟨kq,af,rfl,HA,ay,⟨mc11,rfl⟩⟩:=hcut
      cases kq with
      | zero=>exact absurd HA.out (by simp [num_Get.j2])
      | succ az =>
       have H:=HA.out
       clear HA
       simp only [num_Get.j2] at H
       by_cases c14:af=true
       ·subst c14
        have H1:(some (0,0,1))=some (r1,r2,r3):=by rw [if_pos rfl] at H;exact H
        clear H
        have H:=H1
        clear H1
        simp only [Option.some.injEq,Prod.mk.injEq] at H
        obtain⟨rfl,rfl,rfl⟩:=H
        go_wp2
        go_ret3
        exact⟨by first|rfl|(simp;done)|(simp only [← hji8,← hji10] <;> (first|rfl|simp))|(simp [*];done),by repeat (first|exact Drawn0.refl _|apply Drawn0.step)⟩
       replace c14:=Bool.eq_false_iff.mpr c14
       subst c14
       have H1:(if (Go.bits .and .u64 (Go.bits .or .u64 ab (ji10)) 1)=1 then (some (Go.bits .xor .i64 (-1) (wrap64 ((Go.bits .or .u64 ab (ji10)) / 2)),wrap64 (aa+1),0)) else (some (wrap64 ((Go.bits .or .u64 ab (ji10)) / 2),wrap64 (aa+1),0)))=some (r1,r2,r3):=by rw [if_neg (show ¬ (false=true) by decide)] at H;exact H
       clear H
       have H:=H1
       clear H1
       by_cases c15:(Go.bits .and .u64 (Go.bits .or .u64 ab (ji10)) 1)=1
       rotate_left
       ·rw [if_neg c15] at H
        have ar:((Go.bits .and .u64 (Go.bits .or .u64 ab (ji10)) 1) == 1)=false:=beq_eq_false_iff_ne.mpr c15
        have au:((Go.bits .and .u64 (Go.bits .or .u64 ab (ji10)) 1) != 1)=true:=bne_iff_ne.mpr c15
        simp only [Option.some.injEq,Prod.mk.injEq] at H
        obtain⟨rfl,rfl,rfl⟩:=H
        go_wp2
        go_ret3
        exact⟨by first|rfl|(simp;done)|(simp only [← hji8,← hji10] <;> (first|rfl|simp))|(simp [*];done),by repeat (first|exact Drawn0.refl _|apply Drawn0.step)⟩
       rw [if_pos c15] at H
       have ar:((Go.bits .and .u64 (Go.bits .or .u64 ab (ji10)) 1) == 1)=true:=beq_iff_eq.mpr c15
       have au:((Go.bits .and .u64 (Go.bits .or .u64 ab (ji10)) 1) != 1)=false:=bne_eq_false_iff_eq.mpr c15
       clear c15
       simp only [Option.some.injEq,Prod.mk.injEq] at H
       obtain⟨rfl,rfl,rfl⟩:=H
       go_wp2
       go_ret3
       exact⟨by first|rfl|(simp;done)|(simp only [← hji8,← hji10] <;> (first|rfl|simp))|(simp [*];done),by repeat (first|exact Drawn0.refl _|apply Drawn0.step)⟩
end Go.Proofs.Ytmmjpieafbjggaa.P
end
section
set_option linter.unusedVariables false
set_option linter.unusedSimpArgs false
namespace Go.Proofs.Ytmmjpieafbjggaa.P
open Go.RowKit Go.Proofs.YtmmjpieafbjggaaW.PrintWords Go.Proofs.YtmmjpieafbjggaaW.PrintLast Go.Proofs.YtmmjpieafbjggaaW.PrintMore
attribute [local go_sem] max2_int min2_int max_two min_two max_three min_three max_four min_four
attribute [local go_sem] x_str_gtr x_str_leq x_str_geq ext_bits ext_frombits ext_neg x_store_float Instr.field asAgg
theorem kept_g {w W:World} {g:Nat} (h:Kept w W (fun k=>k=g)) (i:Nat) (u:Value):Kept w (W.setCell ⟨g,i,none⟩ u) (fun k=>k=g):=Kept.setCell h (p:=⟨g,i,none⟩) (Or.inl rfl) u
/-- A part is passed. -/
def tookF (l:List Int) (bad:Bool) (n e:Int):Option (List Int × Bool) :=
  if bad=true then some (l,true) else if e=0 then (if 0≤n then (if n≤(l.length:Int) then some (l.drop n.toNat,false) else none) else none) else some (l,true)
/-- The reader's cells. -/
def Rdr (w0 w:World) (g:Nat) (l:List Int) (bad:Bool):Prop :=
  ∃ (A:Option Addr) (c:Nat),w.heap[g]? = some (.cells #[.slice A l.length c,.bool bad] 75 (0,0))∧Kd.C (Kd.int .u8) w0 A l.length l∧l.length≤c
set_option maxHeartbeats 2000000 in
set_option maxRecDepth 100000 in
theorem took_calls {w0 w:World} (g:Nat) (l:List Int) (bad:Bool) (n e:Int) (hb:Below w0.heap.size w0 w) (hg:w0.heap.size≤g) (hr:Rdr w0 w g l bad) (r:List Int × Bool) (h:tookF l bad n e=some r) :
    Calls Try.prog 40 #[.pointer (some ⟨g,0,none⟩),.int .i64 n,.int .i64 e] w fun en w'=>en = .returned (.tuple #[])∧Rdr w0 w' g r.1 r.2∧Kept w w' (fun k=>k=g)∧Below w0.heap.size w0 w':=by
  obtain⟨A,c,hbox,hR,hc⟩:=hr
  have HR:=Aside0.mk hR
  have HC:=Aside0.mk hc
  have BK:=Aside0.mk hbox
  have HB:=Aside0.mk hb
  have GE:=Aside0.mk hg
  clear hR hc hbox hb hg
  obtain⟨hc0,hc1,hf0,hf1⟩:=bf2 BK
  unfold tookF at h
  cases bad
  · rw [if_neg (by decide)] at h
    by_cases he:e=0
    · subst he
      rw [if_pos rfl] at h
      by_cases h0:0≤n
      · rw [if_pos h0] at h
        by_cases h1:n≤(l.length:Int)
        · rw [if_pos h1] at h
          obtain rfl:=Option.some.inj h
          obtain⟨i0,hi0,_,hsz,_⟩:=info_parts (P:=Try.prog) info5
          have hcut:=cut_from (P:=Try.prog) 30 5 .i64 Try.underlying30 hi0 1 hsz A l.length c n h0 h1
          have hr1:=Kd.C_drop (m:=n.toNat) (c:=c) HR.out (by omega) HC.out
          obtain⟨A1,hA1⟩:∃ A1,A1=(if c=n.toNat then A else (A:Option Addr).map (·.add (n.toNat * 1))):=⟨_,rfl⟩
          obtain⟨c1,hc1'⟩:∃ c1,c1=c - n.toNat:=⟨_,rfl⟩
          have hy:(l.drop n.toNat).length=l.length - n.toNat:=List.length_drop
          replace hr1:Kd.C (Kd.int .u8) w0 A1 (l.drop n.toNat).length (l.drop n.toNat):=by rw [hA1];exact hr1
          rw [← hy,← hA1,← hc1'] at hcut
          have hle:(l.drop n.toNat).length≤c1:=by
            have:=HC.out
            omega
          clear hA1 hc1' hy hi0 hsz h
          generalize l.drop n.toNat=l1 at hcut hr1 hle ⊢
          go_enter Try.func40,Try.ntmps40
          go_wp2
          go_end0
          refine⟨rfl,?_,?_,?_⟩
          · exact⟨A1,c1,bR BK,hr1,hle⟩
          · exact kept_g (kept_g (Kept.refl _ _) _ _) _ _
          · exact below_set (below_set HB.out GE.out) GE.out
        · rw [if_neg h1] at h;cases h
      · rw [if_neg h0] at h;cases h
    · rw [if_neg he] at h
      have heb0:(e == 0)=false:=beq_eq_false_iff_ne.mpr he
      have heb1:(e != 0)=true:=bne_iff_ne.mpr he
      obtain rfl:=Option.some.inj h
      go_enter Try.func40,Try.ntmps40
      go_wp2
      go_end0
      refine⟨rfl,?_,?_,?_⟩
      · exact⟨A,c,bR BK,HR.out,HC.out⟩
      · exact kept_g (Kept.refl _ _) _ _
      · exact below_set HB.out GE.out
  · rw [if_pos rfl] at h
    obtain rfl:=Option.some.inj h
    go_enter Try.func40,Try.ntmps40
    go_wp2
    go_end0
    refine⟨rfl,?_,?_,?_⟩
    · exact⟨A,c,bR BK,HR.out,HC.out⟩
    · exact kept_g (Kept.refl _ _) _ _
    · exact below_set HB.out GE.out
/-- A number is read. -/
def numF (k:Nat) (l:List Int) (bad:Bool):Option (Int × List Int × Bool) :=
  (num_Get.f k l).bind fun t=>(tookF l bad t.2.1 t.2.2).bind fun s=>some (t.1,s.1,s.2)
theorem numF_mono (l:List Int) (bad:Bool) (k:Nat):LeO (numF k l bad) (numF (k+1) l bad):=by
  unfold numF
  exact LeO.bind (num_Get.mono _ _) (fun _=>LeO.refl _)
set_option maxHeartbeats 2000000 in
set_option maxRecDepth 100000 in
theorem num_calls {w0 w:World} (k g:Nat) (l:List Int) (bad:Bool) (hb:Below w0.heap.size w0 w) (hg:w0.heap.size≤g) (hr:Rdr w0 w g l bad) (x:Int) (l':List Int) (bad':Bool) (h:numF k l bad=some (x,l',bad')) :
    Calls Try.prog 38 #[.pointer (some ⟨g,0,none⟩)] w fun en w'=>en = .returned (.int .i64 x)∧Rdr w0 w' g l' bad'∧Kept w w' (fun k=>k=g)∧Below w0.heap.size w0 w':=by
  unfold numF at h
  obtain⟨⟨x1,n1,e1⟩,h1,h⟩:=Option.bind_eq_some_iff.1 h
  obtain⟨⟨l2,b2⟩,h2,h⟩:=Option.bind_eq_some_iff.1 h
  obtain⟨rfl,rfl,rfl⟩:x1=x∧l2=l'∧b2=bad':=by
    have:=Option.some.inj h
    simp only [Prod.mk.injEq] at this
    exact this
  have A1:=Aside0.mk h1
  have A2:=Aside0.mk h2
  have RD:=Aside0.mk hr
  clear h h1 h2
  obtain⟨A,c,hbox,hR,hc⟩:=hr
  have HR:=Aside0.mk hR
  have HC:=Aside0.mk hc
  have BK:=Aside0.mk hbox
  have HB:=Aside0.mk hb
  have GE:=Aside0.mk hg
  clear hR hc hbox hb hg
  obtain⟨hc0,hc1,hf0,hf1⟩:=bf2 BK
  go_enter Try.func38,Try.ntmps38
  go_wp2_with (first|((with_reducible refine gate_callee (f:=55) rfl ?_);refine goesL_ (some 11) rfl rfl Try.func55 (by kernel_rfl) rfl #[.slice A l.length c] rfl (by (try simp only [List.map_toArray,List.map_cons,List.map_nil]);first|done|rfl|(simp only [List.length_drop,List.length_take];rfl)) ?_;(with_reducible refine (num_Get.calls k _ _ l x1 n1 e1 _ ?s1 ?s2 A1.out).mono ?_);(case s1=>exact Kd.C_below HR.out HB.out);(case s2=>exact HC.out);rintro e w' ⟨rfl,⟨nd,rfl⟩⟩;refine⟨_,rfl,?_⟩)|((with_reducible refine gate_callee (f:=40) rfl ?_);refine goesL_ (some 18) rfl rfl Try.func40 (by kernel_rfl) rfl #[.pointer (some ⟨g,0,none⟩),.int .i64 n1,.int .i64 e1] rfl (by (try simp only [List.map_toArray,List.map_cons,List.map_nil]);first|done|rfl|(simp only [List.length_drop,List.length_take];rfl)) ?_;(with_reducible refine (took_calls (w0:=w0) g l bad n1 e1 ?t1 GE.out ?t3 (l2,b2) A2.out).mono ?_);(case t1=>exact pw_below_drewN HB.out _);(case t3=>exact⟨A,c,blk_drewN BK.out _,HR.out,HC.out⟩);rintro e w2 ⟨rfl,hr2,hk2,hb2⟩;refine⟨_,rfl,?_⟩;have RD2:=Aside0.mk hr2;have KP2:=Aside0.mk hk2;have HB2:=Aside0.mk hb2;clear hr2 hk2 hb2))
  trace_state
  go_ret
  exact⟨rfl,RD2.out,KP2.out,HB2.out⟩
end Go.Proofs.Ytmmjpieafbjggaa.P
end
section
namespace Go.Proofs.Ytmmjpieafbjggaa.P
open Go.RowKit Go.Proofs.YtmmjpieafbjggaaW.PrintWords Go.Proofs.YtmmjpieafbjggaaW.PrintLast Go.Proofs.YtmmjpieafbjggaaW.PrintMore
attribute [local go_sem] max2_int min2_int max_two min_two max_three min_three max_four min_four   -- for this text's walks alone
attribute [local go_sem] x_str_gtr x_str_leq x_str_geq ext_bits ext_frombits ext_neg x_store_float Instr.field asAgg
set_option linter.unusedVariables false
set_option linter.unusedSimpArgs false
def num_GetText.j0:Nat→List Int→Int→Int→Bool→Option (ByteArray × Int × Int)
 | 0,_,_,_,_=>none
 | k+1,x0,x5,x6,x18=>if x18=true then (some ((⟨#[]⟩:ByteArray),0,1)) else (if x5>(wrap64 ((x0.length:Int) - x6)) then (some ((⟨#[]⟩:ByteArray),0,2)) else (if 0≤x6 then (if x6≤(wrap64 (x6+x5)) then (if (wrap64 (x6+x5))≤(x0.length:Int) then (some (strOfNums ((x0.take ((wrap64 (x6+x5)):Int).toNat).drop (x6:Int).toNat),wrap64 (x6+x5),0)) else (none)) else (none)) else (none)))
def num_GetText.f (k:Nat) (l0:List Int):Option (ByteArray × Int × Int):=(num_Get.f k l0).bind fun bt220=>(if bt220.2.2=0 then (if bt220.1<0 then (num_GetText.j0 k l0 bt220.1 bt220.2.1 true) else (num_GetText.j0 k l0 bt220.1 bt220.2.1 (decide (bt220.1>65536)))) else (some ((⟨#[]⟩:ByteArray),0,bt220.2.2)))
theorem num_GetText.mono_l:∀ k,(∀ y0 y1 y2 y3,LeO (num_GetText.j0 k y0 y1 y2 y3) (num_GetText.j0 (k+1) y0 y1 y2 y3))
 | 0=>fun _ _ _ _ r h=>by simp [num_GetText.j0] at h
 | k+1=>by
  have ih0:=num_GetText.mono_l k
  ·intro y0 y1 y2 y3
   unfold num_GetText.j0
   repeat' first
   | (with_reducible exact ih0 _ _ _ _)
   | (with_reducible exact num_Get.mono _ _)
   | (with_reducible exact LeO.refl _)
   | (with_reducible exact LeO.none _)
   | (with_reducible refine LeO.ite ?_ ?_)
   | (with_reducible refine LeO.bind ?_ (fun _=>?_))
   | exact ih0 _ _ _ _
   | exact num_Get.mono _ _
   | exact LeO.none _
   | refine LeO.ite ?_ ?_
   | refine LeO.bind ?_ (fun _=>?_)
theorem num_GetText.mono:∀ a0 k,LeO (num_GetText.f k a0) (num_GetText.f (k+1) a0):=by
 intro a0 k
 have ih0:=num_GetText.mono_l k
 unfold num_GetText.f
 repeat' first
   | (with_reducible exact ih0 _ _ _ _)
   | (with_reducible exact num_Get.mono _ _)
   | (with_reducible exact LeO.refl _)
   | (with_reducible exact LeO.none _)
   | (with_reducible refine LeO.ite ?_ ?_)
   | (with_reducible refine LeO.bind ?_ (fun _=>?_))
   | exact ih0 _ _ _ _
   | exact num_Get.mono _ _
   | exact LeO.none _
   | refine LeO.ite ?_ ?_
   | refine LeO.bind ?_ (fun _=>?_)
set_option maxHeartbeats 8000000 in
set_option maxRecDepth 100000 in
theorem num_GetText.calls (k:Nat) (A0:Option Addr) (c0:Nat) (l0:List Int) (r1:ByteArray) (r2:Int) (r3:Int) (w:World) (hr0:Kd.C (Kd.int .u8) w A0 l0.length l0) (hc0:l0.length≤c0) (h:num_GetText.f k l0=some (r1,r2,r3)) :
  Calls Try.prog 41 #[.slice A0 l0.length c0] w fun e w'=>e = .returned (.tuple #[.string r1,.int .i64 r2,.int .i64 r3])∧Drawn0 w w':=by
 have HR0:=aK hr0
 have HC0:=aK hc0
 clear hr0 hc0
 have H:((num_Get.f k l0).bind fun ac=>(if ac.2.2=0 then (if ac.1<0 then (num_GetText.j0 k l0 ac.1 ac.2.1 true) else (num_GetText.j0 k l0 ac.1 ac.2.1 (decide (ac.1>65536)))) else (some ((⟨#[]⟩:ByteArray),0,ac.2.2))))=some (r1,r2,r3):=h
 clear h
 replace H:=oS H
 obtain⟨⟨ab,aa,ae⟩,A20,H⟩:=H
 replace H:(if ae=0 then (if ab<0 then (num_GetText.j0 k l0 ab aa true) else (num_GetText.j0 k l0 ab aa (decide (ab>65536)))) else (some ((⟨#[]⟩:ByteArray),0,ae)))=some (r1,r2,r3):=H
 have A2:=aK A20
 clear A20
 by_cases c3:ae=0
 rotate_left
 ·rw [if_neg c3] at H
  have ak:(ae == 0)=false:=beq_eq_false_iff_ne.mpr c3
  have al:(ae != 0)=true:=bne_iff_ne.mpr c3
  simp only [Option.some.injEq,Prod.mk.injEq] at H
  obtain⟨rfl,rfl,rfl⟩:=H
  go_enter Try.func41,Try.ntmps41
  go_wp2_with (first|((with_reducible refine gate_callee (f:=55) rfl ?_);refine gL (some 10) Try.func55 #[.slice A0 l0.length c0] ?_;(with_reducible refine (num_Get.calls k _ _ l0 ab aa ae _ ?side1 ?side2 A2.out).mono ?_);(case side1=>repeat (first|exact HR0.out|(with_reducible refine Kd.C_alloc ?_ _)|(with_reducible refine Kd.C_drewN ?_ _)|(with_reducible refine Kd.C_drew ?_)));(case side2=>exact HC0.out);rintro e w' ⟨rfl,⟨nd,rfl⟩⟩;refine⟨_,rfl,?_⟩))
  go_ret3
  exact⟨by first|rfl|(simp;done)|(simp [*];done),by repeat (first|exact Drawn0.refl _|apply Drawn0.step)⟩
 rw [if_pos c3] at H
 have ak:(ae == 0)=true:=beq_iff_eq.mpr c3
 have al:(ae != 0)=false:=bne_eq_false_iff_eq.mpr c3
 clear c3
 have HC4:=aK H
 clear H
 go_enter Try.func41,Try.ntmps41
 go_upto_region 4 with (first|((with_reducible refine gate_callee (f:=55) rfl ?_);refine gL (some 10) Try.func55 #[.slice A0 l0.length c0] ?_;(with_reducible refine (num_Get.calls k _ _ l0 ab aa ae _ ?side1 ?side2 A2.out).mono ?_);(case side1=>repeat (first|exact HR0.out|(with_reducible refine Kd.C_alloc ?_ _)|(with_reducible refine Kd.C_drewN ?_ _)|(with_reducible refine Kd.C_drew ?_)));(case side2=>exact HC0.out);rintro e w' ⟨rfl,⟨nd,rfl⟩⟩;refine⟨_,rfl,?_⟩))
 (try simp only [Act.put,List.setIfInBounds_toArray,List.set_cons_zero,List.set_cons_succ])
 go_cut [18] (fun v18 wc=>∃ (kq:Nat) (ah:Bool),v18 = .bool ah∧Aside0 (num_GetText.j0 kq l0 ab aa ah=some (r1,r2,r3))∧Aside0 (kq≤k)∧Drawn0 w wc)
 case first =>
  have H:=HC4.out
  clear HC4
  by_cases c5:ab<0
  ·rw [if_pos c5] at H
   have af:decide (ab<0)=true:=decide_eq_true c5
   clear c5
   (first|rw [af]|(simp only [i64_w,i32_w];rw [af])|skip)
   have H':=aK H
   clear H
   go_wp2
   go_meet
   case rel=>exact⟨_,(true),(by first|rfl|(simp;done)|(simp [*];done)),H',⟨by first|omega|exact Nat.le_refl _⟩,by repeat (first|exact Drawn0.refl _|apply Drawn0.step)⟩
  rw [if_neg c5] at H
  have af:decide (ab<0)=false:=decide_eq_false c5
  clear c5
  (first|rw [af]|(simp only [i64_w,i32_w];rw [af])|skip)
  have H':=aK H
  clear H
  go_wp2
  go_meet
  case rel=>exact⟨_,(decide (ab>65536)),(by first|rfl|(simp;done)|(simp [*];done)),H',⟨by first|omega|exact Nat.le_refl _⟩,by repeat (first|exact Drawn0.refl _|apply Drawn0.step)⟩
 case rest =>
  clear HC4
  try clear p2
  try clear c3
  try clear ak
  try clear al
  try clear c4
  try clear c5
  try clear af
  obtain⟨kq,ah,rfl,HA,HJ3,⟨mc3,rfl⟩⟩:=hcut
  cases kq with
  | zero=>exact absurd HA.out (by simp [num_GetText.j0])
  | succ kj3 =>
   have H:=HA.out
   clear HA
   simp only [num_GetText.j0] at H
   by_cases c6:ah=true
   ·subst c6
    have H1:(some ((⟨#[]⟩:ByteArray),0,1))=some (r1,r2,r3):=by rw [if_pos rfl] at H;exact H
    clear H
    have H:=H1
    clear H1
    simp only [Option.some.injEq,Prod.mk.injEq] at H
    obtain⟨rfl,rfl,rfl⟩:=H
    go_wp2
    go_ret3
    exact⟨by first|rfl|(simp;done)|(simp [*];done),by repeat (first|exact Drawn0.refl _|apply Drawn0.step)⟩
   replace c6:=Bool.eq_false_iff.mpr c6
   subst c6
   have H1:(if ab>(wrap64 ((l0.length:Int) - aa)) then (some ((⟨#[]⟩:ByteArray),0,2)) else (if 0≤aa then (if aa≤(wrap64 (aa+ab)) then (if (wrap64 (aa+ab))≤(l0.length:Int) then (some (strOfNums ((l0.take ((wrap64 (aa+ab)):Int).toNat).drop (aa:Int).toNat),wrap64 (aa+ab),0)) else (none)) else (none)) else (none)))=some (r1,r2,r3):=by rw [if_neg (show ¬ (false=true) by decide)] at H;exact H
   clear H
   have H:=H1
   clear H1
   by_cases c7:ab>(wrap64 ((l0.length:Int) - aa))
   ·rw [if_pos c7] at H
    have ao:decide ((wrap64 ((l0.length:Int) - aa))<ab)=true:=decide_eq_true c7
    clear c7
    simp only [Option.some.injEq,Prod.mk.injEq] at H
    obtain⟨rfl,rfl,rfl⟩:=H
    go_wp2
    go_ret3
    exact⟨by first|rfl|(simp;done)|(simp [*];done),by repeat (first|exact Drawn0.refl _|apply Drawn0.step)⟩
   rw [if_neg c7] at H
   have ao:decide ((wrap64 ((l0.length:Int) - aa))<ab)=false:=decide_eq_false c7
   clear c7
   by_cases c8:0≤aa
   rotate_left
   ·rw [if_neg c8] at H
    exact absurd H (by simp)
   rw [if_pos c8] at H
   have aw:=eq_true c8
   have ax:decide (0≤aa)=true:=decide_eq_true c8
   clear c8
   by_cases c9:aa≤(wrap64 (aa+ab))
   rotate_left
   ·rw [if_neg c9] at H
    exact absurd H (by simp)
   rw [if_pos c9] at H
   have ay:=eq_true c9
   have az:decide (aa≤(wrap64 (aa+ab)))=true:=decide_eq_true c9
   by_cases c10:(wrap64 (aa+ab))≤(l0.length:Int)
   rotate_left
   ·rw [if_neg c10] at H
    exact absurd H (by simp)
   rw [if_pos c10] at H
   have aq:=eq_true c10
   have ar:decide ((wrap64 (aa+ab))≤(l0.length:Int))=true:=decide_eq_true c10
   obtain⟨ag,hy223⟩:∃ y_:List Int,y_=((l0.take ((wrap64 (aa+ab)):Int).toNat).drop (aa:Int).toNat):=⟨_,rfl⟩
   replace H:(some (strOfNums ag,wrap64 (aa+ab),0))=some (r1,r2,r3):=by first|(rw [hy223];with_reducible exact H)|(have H2_:=(Option.bind_some _ _).symm.trans H;rw [hy223];with_reducible exact H2_)|(have H2_:=(Option.bind_some _ _).symm.trans H;with_reducible exact H2_)|with_reducible exact H|(rw [hy223];exact H)|exact H
   have Ny223:=aK hy223
   clear hy223
   simp only [Option.some.injEq,Prod.mk.injEq] at H
   obtain⟨rfl,rfl,rfl⟩:=H
   have q11:((wrap64 (aa+ab)):Int)≤((l0.length:Int):Int):=dA
   obtain⟨i011,hi011,_,hsz11,_⟩:=info_parts info5
   have hroom11:l0.length≤c0:=HC0.out
   have hC11:Kd.C (Kd.int .u8) _ A0 l0.length l0:=HR0.out
   have ql11:(aa:Int)≤((wrap64 (aa+ab)):Int):=dA
   have ap:(0:Int)≤(aa:Int):=dA
   have hcut11:=cut_mid (P:=Try.prog) 30 5 .i64 .i64 Try.underlying30 hi011 1 hsz11 A0 l0.length c0 aa (wrap64 (aa+ab)) ap ql11 q11 hroom11
   have ai:=Kd.C_mid (lo:=(aa:Int).toNat) (hi:=((wrap64 (aa+ab)):Int).toNat) (c:=c0) hC11 (by omega) (by omega) hroom11
   obtain⟨A11,hA11⟩:∃ A1,A1=(if c0=(aa:Int).toNat then A0 else (A0:Option Addr).map (·.add ((aa:Int).toNat * 1))):=⟨_,rfl⟩
   obtain⟨c11,aj⟩:∃ c1,c1=c0 - (aa:Int).toNat:=⟨_,rfl⟩
   have hy11:ag.length=((wrap64 (aa+ab)):Int).toNat - (aa:Int).toNat:=(by rw [Ny223.out,List.length_drop,List.length_take] <;> omega)
   rw [show ((l0).take ((wrap64 (aa+ab)):Int).toNat).drop (aa:Int).toNat=ag from Ny223.out.symm] at ai
   replace ai:Kd.C (Kd.int .u8) _ A11 ag.length ag:=(by rw [hA11];exact ai)
   rw [← hy11,← hA11,← aj] at hcut11
   have am:=aK ai
   have au:=aK (show ag.length≤c11 from by rw [hy11,aj];exact Nat.sub_le_sub_right (Nat.le_trans (by omega) hroom11) _)
   clear ai hC11 hroom11 hi011 hsz11 aj
   have KY11:=aK hy11
   have KA11:=aK hA11
   clear hy11 hA11
   replace q11:=eq_true q11
   have av:=Kd.x_C_string (P:=Try.prog) (A:=A11) (c:=c11) Try.underlying30 Try.underlying5 Try.underlying9 am.out
   go_wp2
   go_ret3
   exact⟨by first|rfl|(simp;done)|(simp [*];done),by repeat (first|exact Drawn0.refl _|apply Drawn0.step)⟩
def math_NaN.f  : Option (Nat):=some 9221120237041090561
set_option maxHeartbeats 8000000 in
set_option maxRecDepth 100000 in
theorem math_NaN.calls  (r:Nat) (w:World) (h:math_NaN.f  = some r) :
  Calls Try.prog 73 #[] w fun e w'=>e = .returned (.float .f64 r)∧Drawn0 w w':=by
 have H:(some 9221120237041090561)=some r:=h
 clear h
 obtain rfl:=Option.some.inj H
 go_enter Try.func73,Try.ntmps73
 go_wp2
 go_ret
 exact⟨by first|rfl|(simp;done)|(simp [*];done),by repeat (first|exact Drawn0.refl _|apply Drawn0.step)⟩
def float_Of.l0:Nat→Int→List Int→Int→Int→Option (Nat × Bool)
 | 0,_,_,_,_=>none
 | k+1,x4,x11,x12,x13=>if x13<x12 then (if 0≤x13 then (if x13<(x11.length:Int) then (float_Of.l0 k (Go.bits .or .u64 (IntKind.u64.wrap (x4 * 256)) (IntKind.u64.wrap (rd x11 x13))) x11 x12 (wrap64 (x13+1))) else (none)) else (none)) else (if x4=0 then ((math_NaN.f).bind fun t228=>((float_Clean.f t228).bind fun t229=>(some (t229,true)))) else (if (Go.bits .and .u64 x4 9223372036854775808)=0 then ((float_place.f (Int.toNat (Go.bits .xor .u64 18446744073709551615 x4))).bind fun t230=>(if t230=x4 then (some (Int.toNat (Go.bits .xor .u64 18446744073709551615 x4),true)) else (some (0,false)))) else ((float_place.f (Int.toNat (Go.bits .andNot .u64 x4 9223372036854775808))).bind fun t231=>(if t231=x4 then (some (Int.toNat (Go.bits .andNot .u64 x4 9223372036854775808),true)) else (some (0,false))))))
def float_Of.f (k:Nat) (l0:List Int):Option (Nat × Bool):=if (l0.length:Int)=8 then (float_Of.l0 k 0 l0 (l0.length:Int) 0) else (some (0,false))
theorem float_Of.mono_l:∀ k,(∀ y0 y1 y2 y3,LeO (float_Of.l0 k y0 y1 y2 y3) (float_Of.l0 (k+1) y0 y1 y2 y3))
 | 0=>fun _ _ _ _ r h=>by simp [float_Of.l0] at h
 | k+1=>by
  have ih0:=float_Of.mono_l k
  ·intro y0 y1 y2 y3
   unfold float_Of.l0
   repeat' first
   | (with_reducible exact ih0 _ _ _ _)
   | (with_reducible exact LeO.refl _)
   | (with_reducible exact LeO.none _)
   | (with_reducible refine LeO.ite ?_ ?_)
   | (with_reducible refine LeO.bind ?_ (fun _=>?_))
   | exact ih0 _ _ _ _
   | exact LeO.none _
   | refine LeO.ite ?_ ?_
   | refine LeO.bind ?_ (fun _=>?_)
theorem float_Of.mono:∀ a0 k,LeO (float_Of.f k a0) (float_Of.f (k+1) a0):=by
 intro a0 k
 have ih0:=float_Of.mono_l k
 unfold float_Of.f
 repeat' first
   | (with_reducible exact ih0 _ _ _ _)
   | (with_reducible exact LeO.refl _)
   | (with_reducible exact LeO.none _)
   | (with_reducible refine LeO.ite ?_ ?_)
   | (with_reducible refine LeO.bind ?_ (fun _=>?_))
   | exact ih0 _ _ _ _
   | exact LeO.none _
   | refine LeO.ite ?_ ?_
   | refine LeO.bind ?_ (fun _=>?_)
set_option maxHeartbeats 8000000 in
set_option maxRecDepth 100000 in
theorem float_Of.calls (k:Nat) (A0:Option Addr) (c0:Nat) (l0:List Int) (r1:Nat) (r2:Bool) (w:World) (hr0:Kd.C (Kd.int .u8) w A0 l0.length l0) (hc0:l0.length≤c0) (h:float_Of.f k l0=some (r1,r2)) :
  Calls Try.prog 67 #[.slice A0 l0.length c0] w fun e w'=>e = .returned (.tuple #[.float .f64 r1,.bool r2])∧Drawn0 w w':=by
 have HR0:=aK hr0
 have HC0:=aK hc0
 clear hr0 hc0
 have H:(if (l0.length:Int)=8 then (float_Of.l0 k 0 l0 (l0.length:Int) 0) else (some (0,false)))=some (r1,r2):=h
 clear h
 by_cases c2:(l0.length:Int)=8
 rotate_left
 ·rw [if_neg c2] at H
  have aj:((l0.length:Int) == 8)=false:=beq_eq_false_iff_ne.mpr c2
  have ak:((l0.length:Int) != 8)=true:=bne_iff_ne.mpr c2
  simp only [Option.some.injEq,Prod.mk.injEq] at H
  obtain⟨rfl,rfl⟩:=H
  go_enter Try.func67,Try.ntmps67
  go_wp2
  go_ret2
  exact⟨by first|rfl|(simp;done)|(simp [*];done),by repeat (first|exact Drawn0.refl _|apply Drawn0.step)⟩
 rw [if_pos c2] at H
 have aj:((l0.length:Int) == 8)=true:=beq_iff_eq.mpr c2
 have ak:((l0.length:Int) != 8)=false:=bne_eq_false_iff_eq.mpr c2
 clear c2
 have H':=aK H
 clear H
 go_enter Try.func67,Try.ntmps67
 go_wp2
 go_loopg [4,13] k (fun kq v4 v13 w'=>∃ (aa:Int) (ab:Int),v4 = .int .u64 aa∧v13 = .int .i64 ab∧Aside0 (float_Of.l0 kq aa l0 (l0.length:Int) ab=some (r1,r2))∧Aside0 (kq≤k)∧Drawn0 w w')
 case atStart=>exact⟨(0),(0),(by first|rfl|(simp;done)|(simp [*];done)),(by first|rfl|(simp;done)|(simp [*];done)),H',⟨Nat.le_refl _⟩,by repeat (first|exact Drawn0.refl _|apply Drawn0.step)⟩
 case round =>
  clear H'
  try clear c2
  try clear aj
  try clear ak
  try clear p2
  obtain⟨aa,ab,rfl,rfl,HA,HK1,⟨m1,rfl⟩⟩:=hrel
  cases gk with
  | zero=>exact absurd HA.out (by simp [float_Of.l0])
  | succ k1 =>
   have H:=HA.out
   clear HA
   simp only [float_Of.l0] at H
   by_cases c3:ab<(l0.length:Int)
   ·rw [if_pos c3] at H
    have au:decide (ab<(l0.length:Int))=true:=decide_eq_true c3
    clear c3
    by_cases c4:0≤ab
    rotate_left
    ·rw [if_neg c4] at H
     exact absurd H (by simp)
    rw [if_pos c4] at H
    have aC:decide (0≤ab)=true:=decide_eq_true c4
    clear c4
    by_cases c5:ab<(l0.length:Int)
    rotate_left
    ·rw [if_neg c5] at H
     exact absurd H (by simp)
    rw [if_pos c5] at H
    have aD:decide (ab<(l0.length:Int))=true:=decide_eq_true c5
    clear c5
    have H':=aK H
    clear H
    have ah:0≤(ab:Int):=dA
    have ai:ab<(l0.length:Int):=dA
    obtain⟨aA,e227,az⟩:=Kd.at_int HR0.out ab ah ai
    cases e227
    replace ah:=eq_true ah
    replace ai:=eq_true ai
    go_wp2
    go_roundg k1
    case measure=>have:=HK1.out;omega
    case rel=>exact⟨(Go.bits .or .u64 (IntKind.u64.wrap (aa * 256)) (IntKind.u64.wrap (rd l0 ab))),(wrap64 (ab+1)),(by first|rfl|(simp;done)|(simp [*];done)),(by first|rfl|(simp;done)|(simp [*];done)),H',⟨by have:=HK1.out;omega⟩,by repeat (first|exact Drawn0.refl _|apply Drawn0.step)⟩
   rw [if_neg c3] at H
   have au:decide (ab<(l0.length:Int))=false:=decide_eq_false c3
   clear c3
   by_cases c6:aa=0
   ·rw [if_pos c6] at H
    have av:(aa == 0)=true:=beq_iff_eq.mpr c6
    have aw:(aa != 0)=false:=bne_eq_false_iff_eq.mpr c6
    clear c6
    replace H:=oS H
    obtain⟨af,A70,H⟩:=H
    replace H:((float_Clean.f af).bind fun ag=>(some (ag,true)))=some (r1,r2):=H
    have A7:=aK A70
    clear A70
    replace H:=oS H
    obtain⟨ag,A80,H⟩:=H
    replace H:(some (ag,true))=some (r1,r2):=H
    have A8:=aK A80
    clear A80
    simp only [Option.some.injEq,Prod.mk.injEq] at H
    obtain⟨rfl,rfl⟩:=H
    go_wp2_with (first|((with_reducible refine gate_callee (f:=73) rfl ?_);refine gL (some 29) Try.func73 #[] ?_;(with_reducible refine (math_NaN.calls  af _ A7.out).mono ?_);rintro e w' ⟨rfl,⟨nd,rfl⟩⟩;refine⟨_,rfl,?_⟩)|((with_reducible refine gate_callee (f:=64) rfl ?_);refine gL (some 30) Try.func64 #[.float .f64 af] ?_;(with_reducible refine (float_Clean.calls af ag _ A8.out).mono ?_);rintro e w' ⟨rfl,⟨nd,rfl⟩⟩;refine⟨_,rfl,?_⟩))
    go_ret2
    exact⟨by first|rfl|(simp;done)|(simp [*];done),by repeat (first|exact Drawn0.refl _|apply Drawn0.step)⟩
   rw [if_neg c6] at H
   have av:(aa == 0)=false:=beq_eq_false_iff_ne.mpr c6
   have aw:(aa != 0)=true:=bne_iff_ne.mpr c6
   by_cases c9:(Go.bits .and .u64 aa 9223372036854775808)=0
   rotate_left
   ·rw [if_neg c9] at H
    have ax:((Go.bits .and .u64 aa 9223372036854775808) == 0)=false:=beq_eq_false_iff_ne.mpr c9
    have ay:((Go.bits .and .u64 aa 9223372036854775808) != 0)=true:=bne_iff_ne.mpr c9
    replace H:=oS H
    obtain⟨ac,al,H⟩:=H
    replace H:(if ac=aa then (some (Int.toNat (Go.bits .andNot .u64 aa 9223372036854775808),true)) else (some (0,false)))=some (r1,r2):=H
    have A12:=aK al
    clear al
    by_cases c13:ac=aa
    rotate_left
    ·rw [if_neg c13] at H
     have ao:(ac == aa)=false:=beq_eq_false_iff_ne.mpr c13
     have ap:(ac != aa)=true:=bne_iff_ne.mpr c13
     simp only [Option.some.injEq,Prod.mk.injEq] at H
     obtain⟨rfl,rfl⟩:=H
     go_wp2_with (first|((with_reducible refine gate_callee (f:=74) rfl ?_);refine gL (some 39) Try.func74 #[.float .f64 (Int.toNat (Go.bits .andNot .u64 aa 9223372036854775808))] ?_;(with_reducible refine (float_place.calls (Int.toNat (Go.bits .andNot .u64 aa 9223372036854775808)) ac _ A12.out).mono ?_);rintro e w' ⟨rfl,⟨nd,rfl⟩⟩;refine⟨_,rfl,?_⟩))
     go_ret2
     exact⟨by first|rfl|(simp;done)|(simp [*];done),by repeat (first|exact Drawn0.refl _|apply Drawn0.step)⟩
    rw [if_pos c13] at H
    have ao:(ac == aa)=true:=beq_iff_eq.mpr c13
    have ap:(ac != aa)=false:=bne_eq_false_iff_eq.mpr c13
    clear c13
    simp only [Option.some.injEq,Prod.mk.injEq] at H
    obtain⟨rfl,rfl⟩:=H
    go_wp2_with (first|((with_reducible refine gate_callee (f:=74) rfl ?_);refine gL (some 39) Try.func74 #[.float .f64 (Int.toNat (Go.bits .andNot .u64 aa 9223372036854775808))] ?_;(with_reducible refine (float_place.calls (Int.toNat (Go.bits .andNot .u64 aa 9223372036854775808)) ac _ A12.out).mono ?_);rintro e w' ⟨rfl,⟨nd,rfl⟩⟩;refine⟨_,rfl,?_⟩))
    go_ret2
    exact⟨by first|rfl|(simp;done)|(simp [*];done),by repeat (first|exact Drawn0.refl _|apply Drawn0.step)⟩
   rw [if_pos c9] at H
   have ax:((Go.bits .and .u64 aa 9223372036854775808) == 0)=true:=beq_iff_eq.mpr c9
   have ay:((Go.bits .and .u64 aa 9223372036854775808) != 0)=false:=bne_eq_false_iff_eq.mpr c9
   clear c9
   replace H:=oS H
   obtain⟨ae,am,H⟩:=H
   replace H:(if ae=aa then (some (Int.toNat (Go.bits .xor .u64 18446744073709551615 aa),true)) else (some (0,false)))=some (r1,r2):=H
   have A10:=aK am
   clear am
   by_cases c11:ae=aa
   rotate_left
   ·rw [if_neg c11] at H
    have aq:(ae == aa)=false:=beq_eq_false_iff_ne.mpr c11
    have ar:(ae != aa)=true:=bne_iff_ne.mpr c11
    simp only [Option.some.injEq,Prod.mk.injEq] at H
    obtain⟨rfl,rfl⟩:=H
    go_wp2_with (first|((with_reducible refine gate_callee (f:=74) rfl ?_);refine gL (some 39) Try.func74 #[.float .f64 (Int.toNat (Go.bits .xor .u64 18446744073709551615 aa))] ?_;(with_reducible refine (float_place.calls (Int.toNat (Go.bits .xor .u64 18446744073709551615 aa)) ae _ A10.out).mono ?_);rintro e w' ⟨rfl,⟨nd,rfl⟩⟩;refine⟨_,rfl,?_⟩))
    go_ret2
    exact⟨by first|rfl|(simp;done)|(simp [*];done),by repeat (first|exact Drawn0.refl _|apply Drawn0.step)⟩
   rw [if_pos c11] at H
   have aq:(ae == aa)=true:=beq_iff_eq.mpr c11
   have ar:(ae != aa)=false:=bne_eq_false_iff_eq.mpr c11
   clear c11
   simp only [Option.some.injEq,Prod.mk.injEq] at H
   obtain⟨rfl,rfl⟩:=H
   go_wp2_with (first|((with_reducible refine gate_callee (f:=74) rfl ?_);refine gL (some 39) Try.func74 #[.float .f64 (Int.toNat (Go.bits .xor .u64 18446744073709551615 aa))] ?_;(with_reducible refine (float_place.calls (Int.toNat (Go.bits .xor .u64 18446744073709551615 aa)) ae _ A10.out).mono ?_);rintro e w' ⟨rfl,⟨nd,rfl⟩⟩;refine⟨_,rfl,?_⟩))
   go_ret2
   exact⟨by first|rfl|(simp;done)|(simp [*];done),by repeat (first|exact Drawn0.refl _|apply Drawn0.step)⟩
def datum_Get.f (k:Nat) (l0:List Int):Option (Int × Nat × ByteArray × Int × Int):=(num_Get.f k l0).bind fun bt233=>(if bt233.2.2=0 then (if bt233.1=0 then ((datum_May.f bt233.1 0 (⟨#[]⟩:ByteArray)).bind fun t237=>(if t237=true then (some (bt233.1,0,(⟨#[]⟩:ByteArray),wrap64 (bt233.2.1+0),0)) else (some (0,0,(⟨#[]⟩:ByteArray),0,1)))) else (if bt233.1=1 then (if (wrap64 ((l0.length:Int) - bt233.2.1))<8 then (some (0,0,(⟨#[]⟩:ByteArray),0,2)) else (if 0≤bt233.2.1 then (if bt233.2.1≤(wrap64 (bt233.2.1+8)) then (if (wrap64 (bt233.2.1+8))≤(l0.length:Int) then ((float_Of.f k ((l0.take ((wrap64 (bt233.2.1+8)):Int).toNat).drop (bt233.2.1:Int).toNat)).bind fun bt242=>(if bt242.2=true then ((datum_May.f bt233.1 bt242.1 (⟨#[]⟩:ByteArray)).bind fun t244=>(if t244=true then (some (bt233.1,bt242.1,(⟨#[]⟩:ByteArray),wrap64 (bt233.2.1+8),0)) else (some (0,0,(⟨#[]⟩:ByteArray),0,1)))) else (some (0,0,(⟨#[]⟩:ByteArray),0,1)))) else (none)) else (none)) else (none))) else (if bt233.1=2 then (if 0≤bt233.2.1 then (if bt233.2.1≤(l0.length:Int) then ((num_GetText.f k (l0.drop (bt233.2.1:Int).toNat)).bind fun bt249=>(if bt249.2.2=0 then ((datum_May.f bt233.1 0 bt249.1).bind fun t252=>(if t252=true then (some (bt233.1,0,bt249.1,wrap64 (bt233.2.1+bt249.2.1),0)) else (some (0,0,(⟨#[]⟩:ByteArray),0,1)))) else (some (0,0,(⟨#[]⟩:ByteArray),0,bt249.2.2)))) else (none)) else (none)) else (some (0,0,(⟨#[]⟩:ByteArray),0,1))))) else (some (0,0,(⟨#[]⟩:ByteArray),0,bt233.2.2)))
theorem datum_Get.mono:∀ a0 k,LeO (datum_Get.f k a0) (datum_Get.f (k+1) a0):=by
 intro a0 k
 unfold datum_Get.f
 repeat' first
   | (with_reducible exact float_Of.mono _ _)
   | (with_reducible exact num_Get.mono _ _)
   | (with_reducible exact num_GetText.mono _ _)
   | (with_reducible exact LeO.refl _)
   | (with_reducible exact LeO.none _)
   | (with_reducible refine LeO.ite ?_ ?_)
   | (with_reducible refine LeO.bind ?_ (fun _=>?_))
   | exact float_Of.mono _ _
   | exact num_Get.mono _ _
   | exact num_GetText.mono _ _
   | exact LeO.none _
   | refine LeO.ite ?_ ?_
   | refine LeO.bind ?_ (fun _=>?_)
set_option maxHeartbeats 8000000 in
set_option maxRecDepth 100000 in
theorem datum_Get.calls (k:Nat) (A0:Option Addr) (c0:Nat) (l0:List Int) (r1:Int) (r2:Nat) (r3:ByteArray) (r4:Int) (r5:Int) (w:World) (hr0:Kd.C (Kd.int .u8) w A0 l0.length l0) (hc0:l0.length≤c0) (h:datum_Get.f k l0=some (r1,r2,r3,r4,r5)) :
  Calls Try.prog 56 #[.slice A0 l0.length c0] w fun e w'=>e = .returned (.tuple #[.agg #[.int .i64 r1,.float .f64 r2,.string r3],.int .i64 r4,.int .i64 r5])∧Below w.heap.size w w':=by
 have hu54:=Try.underlying54
 have HR0:=aK hr0
 have HC0:=aK hc0
 clear hr0 hc0
 have HB:=aK (Below.refl w.heap.size w)
 have H:((num_Get.f k l0).bind fun ai=>(if ai.2.2=0 then (if ai.1=0 then ((datum_May.f ai.1 0 (⟨#[]⟩:ByteArray)).bind fun aH=>(if aH=true then (some (ai.1,0,(⟨#[]⟩:ByteArray),wrap64 (ai.2.1+0),0)) else (some (0,0,(⟨#[]⟩:ByteArray),0,1)))) else (if ai.1=1 then (if (wrap64 ((l0.length:Int) - ai.2.1))<8 then (some (0,0,(⟨#[]⟩:ByteArray),0,2)) else (if 0≤ai.2.1 then (if ai.2.1≤(wrap64 (ai.2.1+8)) then (if (wrap64 (ai.2.1+8))≤(l0.length:Int) then ((float_Of.f k ((l0.take ((wrap64 (ai.2.1+8)):Int).toNat).drop (ai.2.1:Int).toNat)).bind fun aq=>(if aq.2=true then ((datum_May.f ai.1 aq.1 (⟨#[]⟩:ByteArray)).bind fun aw=>(if aw=true then (some (ai.1,aq.1,(⟨#[]⟩:ByteArray),wrap64 (ai.2.1+8),0)) else (some (0,0,(⟨#[]⟩:ByteArray),0,1)))) else (some (0,0,(⟨#[]⟩:ByteArray),0,1)))) else (none)) else (none)) else (none))) else (if ai.1=2 then (if 0≤ai.2.1 then (if ai.2.1≤(l0.length:Int) then ((num_GetText.f k (l0.drop (ai.2.1:Int).toNat)).bind fun am=>(if am.2.2=0 then ((datum_May.f ai.1 0 am.1).bind fun az=>(if az=true then (some (ai.1,0,am.1,wrap64 (ai.2.1+am.2.1),0)) else (some (0,0,(⟨#[]⟩:ByteArray),0,1)))) else (some (0,0,(⟨#[]⟩:ByteArray),0,am.2.2)))) else (none)) else (none)) else (some (0,0,(⟨#[]⟩:ByteArray),0,1))))) else (some (0,0,(⟨#[]⟩:ByteArray),0,ai.2.2))))=some (r1,r2,r3,r4,r5):=h
 clear h
 replace H:=oS H
 obtain⟨⟨ae,ab,ao⟩,A20,H⟩:=H
 replace H:(if ao=0 then (if ae=0 then ((datum_May.f ae 0 (⟨#[]⟩:ByteArray)).bind fun aH=>(if aH=true then (some (ae,0,(⟨#[]⟩:ByteArray),wrap64 (ab+0),0)) else (some (0,0,(⟨#[]⟩:ByteArray),0,1)))) else (if ae=1 then (if (wrap64 ((l0.length:Int) - ab))<8 then (some (0,0,(⟨#[]⟩:ByteArray),0,2)) else (if 0≤ab then (if ab≤(wrap64 (ab+8)) then (if (wrap64 (ab+8))≤(l0.length:Int) then ((float_Of.f k ((l0.take ((wrap64 (ab+8)):Int).toNat).drop (ab:Int).toNat)).bind fun aq=>(if aq.2=true then ((datum_May.f ae aq.1 (⟨#[]⟩:ByteArray)).bind fun aw=>(if aw=true then (some (ae,aq.1,(⟨#[]⟩:ByteArray),wrap64 (ab+8),0)) else (some (0,0,(⟨#[]⟩:ByteArray),0,1)))) else (some (0,0,(⟨#[]⟩:ByteArray),0,1)))) else (none)) else (none)) else (none))) else (if ae=2 then (if 0≤ab then (if ab≤(l0.length:Int) then ((num_GetText.f k (l0.drop (ab:Int).toNat)).bind fun am=>(if am.2.2=0 then ((datum_May.f ae 0 am.1).bind fun az=>(if az=true then (some (ae,0,am.1,wrap64 (ab+am.2.1),0)) else (some (0,0,(⟨#[]⟩:ByteArray),0,1)))) else (some (0,0,(⟨#[]⟩:ByteArray),0,am.2.2)))) else (none)) else (none)) else (some (0,0,(⟨#[]⟩:ByteArray),0,1))))) else (some (0,0,(⟨#[]⟩:ByteArray),0,ao)))=some (r1,r2,r3,r4,r5):=H
 have A2:=aK A20
 clear A20
 by_cases c3:ao=0
 rotate_left
 ·rw [if_neg c3] at H
  have bq:(ao == 0)=false:=beq_eq_false_iff_ne.mpr c3
  have br:(ao != 0)=true:=bne_iff_ne.mpr c3
  simp only [Option.some.injEq,Prod.mk.injEq] at H
  obtain⟨rfl,rfl,rfl,rfl,rfl⟩:=H
  go_enter Try.func56,Try.ntmps56
  go_wp2_with (first|((with_reducible refine gate_dst (N:=2) rfl ?_);refine box_event ?hg (N:=2) ?hd (cs:=#[.int .i64 0,.float .f64 0,.string (⟨#[]⟩:ByteArray)]) (t:=54) ?hr ?_;(case hd=>rfl);(case hg=>rfl);(case hr=>first|(go_simp;done)|(go_simp;rfl));intro aj hg aV hbox hb;have aa:=aK (hbox);have au:=bZ HB hg;have av:=bZ HB hg;replace HB:=bW HB hb;clear hb hbox hg)|((with_reducible refine gate_callee (f:=55) rfl ?_);refine gL (some 13) Try.func55 #[.slice A0 l0.length c0] ?_;(with_reducible refine (num_Get.calls k _ _ l0 ae ab ao _ ?side1 ?side2 A2.out).mono ?_);(case side1=>repeat (first|exact (Kd.C_below HR0.out HB.out)|(with_reducible refine Kd.C_alloc ?_ _)|(with_reducible refine Kd.C_drewN ?_ _)|(with_reducible refine Kd.C_drew ?_)));(case side2=>exact HC0.out);rintro e w' ⟨rfl,⟨nd,rfl⟩⟩;refine⟨_,rfl,?_⟩;(try (rw [drewN_self aV];generalize hq_:World.drewN aV _=aV;have n0_:=bE aa hq_.symm;have n1_:=bH HB hq_.symm;clear aa HB hq_;have aa:=n0_;have HB:=n1_;clear n0_ n1_));obtain⟨bs,bu,bv,bw,bx,bA⟩:=bf3 (w:=aV) aa))
  refine bodyPost_ret (results_ctt rfl _ _ aj 54 #[.int .i64 0,.float .f64 0,.string (⟨#[]⟩:ByteArray)] (0,0) _ rfl (bR aa) Try.underlying54 rfl (by kernel_rfl)) rfl ?_
  exact xB HB
 rw [if_pos c3] at H
 have bq:(ao == 0)=true:=beq_iff_eq.mpr c3
 have br:(ao != 0)=false:=bne_eq_false_iff_eq.mpr c3
 clear c3
 by_cases c4:ae=0
 ·rw [if_pos c4] at H
  have bD:(ae == 0)=true:=beq_iff_eq.mpr c4
  have bF:(ae != 0)=false:=bne_eq_false_iff_eq.mpr c4
  clear c4
  replace H:=oS H
  obtain⟨aH,A50,H⟩:=H
  replace H:(if aH=true then (some (ae,0,(⟨#[]⟩:ByteArray),wrap64 (ab+0),0)) else (some (0,0,(⟨#[]⟩:ByteArray),0,1)))=some (r1,r2,r3,r4,r5):=H
  have A5:=aK A50
  clear A50
  by_cases c6:aH=true
  rotate_left
  ·replace c6:=Bool.eq_false_iff.mpr c6
   subst c6
   have H1:(some (0,0,(⟨#[]⟩:ByteArray),0,1))=some (r1,r2,r3,r4,r5):=by rw [if_neg (show ¬ (false=true) by decide)] at H;exact H
   clear H
   have H:=H1
   clear H1
   simp only [Option.some.injEq,Prod.mk.injEq] at H
   obtain⟨rfl,rfl,rfl,rfl,rfl⟩:=H
   go_enter Try.func56,Try.ntmps56
   go_wp2_with (first|((with_reducible refine gate_dst (N:=2) rfl ?_);refine box_event ?hg (N:=2) ?hd (cs:=#[.int .i64 0,.float .f64 0,.string (⟨#[]⟩:ByteArray)]) (t:=54) ?hr ?_;(case hd=>rfl);(case hg=>rfl);(case hr=>first|(go_simp;done)|(go_simp;rfl));intro aj hg w14 hbox hb;have aa:=aK (hbox);have au:=bZ HB hg;have av:=bZ HB hg;replace HB:=bW HB hb;clear hb hbox hg)|((with_reducible refine gate_callee (f:=55) rfl ?_);refine gL (some 13) Try.func55 #[.slice A0 l0.length c0] ?_;(with_reducible refine (num_Get.calls k _ _ l0 ae ab ao _ ?side1 ?side2 A2.out).mono ?_);(case side1=>repeat (first|exact (Kd.C_below HR0.out HB.out)|(with_reducible refine Kd.C_alloc ?_ _)|(with_reducible refine Kd.C_drewN ?_ _)|(with_reducible refine Kd.C_drew ?_)));(case side2=>exact HC0.out);rintro e w' ⟨rfl,⟨nd,rfl⟩⟩;refine⟨_,rfl,?_⟩;(try (rw [drewN_self w14];generalize hq_:World.drewN w14 _=w14;have n0_:=bE aa hq_.symm;have n1_:=bH HB hq_.symm;clear aa HB hq_;have aa:=n0_;have HB:=n1_;clear n0_ n1_)))|((with_reducible refine gate_dst (N:=8) rfl ?_);refine box_event ?hg (N:=8) ?hd (cs:=#[.int .i64 0,.float .f64 0,.string (⟨#[]⟩:ByteArray)]) (t:=54) ?hr ?_;(case hd=>rfl);(case hg=>rfl);(case hr=>first|(go_simp;done)|(go_simp;rfl));intro af hg w15 hbox hb;have ac:=aK (hbox);have ax:=bZ HB hg;have ay:=bZ HB hg;have ag:=bL aa hg;have ah:=bG aa hg;replace aa:=bB aa hb;replace HB:=bW HB hb;clear hb hbox hg;have hnb16:=ah.out;have hnc16:=ag.out;obtain⟨bX,bY,b8,b9,ca,cb⟩:=bf3 (w:=w15) ac)|((with_reducible refine gate_callee (f:=48) rfl ?_);refine gL (some 64) Try.func48 #[.agg #[.int .i64 ae,.float .f64 0,.string (⟨#[]⟩:ByteArray)]] ?_;(with_reducible refine (datum_May.calls ae 0 (⟨#[]⟩:ByteArray) false _ A5.out).mono ?_);rintro e w18 ⟨rfl,hb⟩;refine⟨_,rfl,?_⟩;replace aa:=bB aa hb;replace ac:=aK (blk_below (g:=af) (o:=.cells #[.int .i64 ae,.float .f64 0,.string (⟨#[]⟩:ByteArray)] 54 (0,0)) (bR ac) hb);replace HB:=bW HB hb;(try clear hb);(try clear hb2);(try clear hk);(try clear hi);obtain⟨cd,cf,cg,ch,cj,cm⟩:=bf3 (w:=w18) aa))
   refine bodyPost_ret (results_ctt rfl _ _ aj 54 #[.int .i64 0,.float .f64 0,.string (⟨#[]⟩:ByteArray)] (0,0) _ rfl (bR aa) Try.underlying54 rfl (by kernel_rfl)) rfl ?_
   exact xB HB
  subst c6
  have H1:(some (ae,0,(⟨#[]⟩:ByteArray),wrap64 (ab+0),0))=some (r1,r2,r3,r4,r5):=by rw [if_pos rfl] at H;exact H
  clear H
  have H:=H1
  clear H1
  simp only [Option.some.injEq,Prod.mk.injEq] at H
  obtain⟨rfl,rfl,rfl,rfl,rfl⟩:=H
  go_enter Try.func56,Try.ntmps56
  go_wp2_with (first|((with_reducible refine gate_dst (N:=2) rfl ?_);refine box_event ?hg (N:=2) ?hd (cs:=#[.int .i64 0,.float .f64 0,.string (⟨#[]⟩:ByteArray)]) (t:=54) ?hr ?_;(case hd=>rfl);(case hg=>rfl);(case hr=>first|(go_simp;done)|(go_simp;rfl));intro aj hg w7 hbox hb;have aa:=aK (hbox);have au:=bZ HB hg;have av:=bZ HB hg;replace HB:=bW HB hb;clear hb hbox hg)|((with_reducible refine gate_callee (f:=55) rfl ?_);refine gL (some 13) Try.func55 #[.slice A0 l0.length c0] ?_;(with_reducible refine (num_Get.calls k _ _ l0 ae ab ao _ ?side1 ?side2 A2.out).mono ?_);(case side1=>repeat (first|exact (Kd.C_below HR0.out HB.out)|(with_reducible refine Kd.C_alloc ?_ _)|(with_reducible refine Kd.C_drewN ?_ _)|(with_reducible refine Kd.C_drew ?_)));(case side2=>exact HC0.out);rintro e w' ⟨rfl,⟨nd,rfl⟩⟩;refine⟨_,rfl,?_⟩;(try (rw [drewN_self w7];generalize hq_:World.drewN w7 _=w7;have n0_:=bE aa hq_.symm;have n1_:=bH HB hq_.symm;clear aa HB hq_;have aa:=n0_;have HB:=n1_;clear n0_ n1_)))|((with_reducible refine gate_dst (N:=8) rfl ?_);refine box_event ?hg (N:=8) ?hd (cs:=#[.int .i64 0,.float .f64 0,.string (⟨#[]⟩:ByteArray)]) (t:=54) ?hr ?_;(case hd=>rfl);(case hg=>rfl);(case hr=>first|(go_simp;done)|(go_simp;rfl));intro af hg w8 hbox hb;have ac:=aK (hbox);have ax:=bZ HB hg;have ay:=bZ HB hg;have ag:=bL aa hg;have ah:=bG aa hg;replace aa:=bB aa hb;replace HB:=bW HB hb;clear hb hbox hg;have hnb9:=ah.out;have hnc9:=ag.out;obtain⟨cn,cp,cq,ct,cu,cv⟩:=bf3 (w:=w8) ac)|((with_reducible refine gate_callee (f:=48) rfl ?_);refine gL (some 64) Try.func48 #[.agg #[.int .i64 ae,.float .f64 0,.string (⟨#[]⟩:ByteArray)]] ?_;(with_reducible refine (datum_May.calls ae 0 (⟨#[]⟩:ByteArray) true _ A5.out).mono ?_);rintro e w11 ⟨rfl,hb⟩;refine⟨_,rfl,?_⟩;replace aa:=bB aa hb;replace ac:=aK (blk_below (g:=af) (o:=.cells #[.int .i64 ae,.float .f64 0,.string (⟨#[]⟩:ByteArray)] 54 (0,0)) (bR ac) hb);replace HB:=bW HB hb;(try clear hb);(try clear hb2);(try clear hk);(try clear hi);obtain⟨cw,cx,cz,cA,cB,cC⟩:=bf3 (w:=w11) ac;obtain⟨cD,cE,cF,cG,cH,cI⟩:=bf3 (w:=w11) aa))
  refine bodyPost_ret (results_ctt rfl _ _ aj 54 #[.int .i64 ae,.float .f64 0,.string (⟨#[]⟩:ByteArray)] (0,0) _ rfl (bR aa) Try.underlying54 rfl (by kernel_rfl)) rfl ?_
  exact xB HB
 rw [if_neg c4] at H
 have bD:(ae == 0)=false:=beq_eq_false_iff_ne.mpr c4
 have bF:(ae != 0)=true:=bne_iff_ne.mpr c4
 by_cases c20:ae=1
 rotate_left
 ·rw [if_neg c20] at H
  have bj:(ae == 1)=false:=beq_eq_false_iff_ne.mpr c20
  have bk:(ae != 1)=true:=bne_iff_ne.mpr c20
  by_cases c61:ae=2
  rotate_left
  ·rw [if_neg c61] at H
   have bl:(ae == 2)=false:=beq_eq_false_iff_ne.mpr c61
   have bm:(ae != 2)=true:=bne_iff_ne.mpr c61
   simp only [Option.some.injEq,Prod.mk.injEq] at H
   obtain⟨rfl,rfl,rfl,rfl,rfl⟩:=H
   go_enter Try.func56,Try.ntmps56
   go_wp2_with (first|((with_reducible refine gate_dst (N:=2) rfl ?_);refine box_event ?hg (N:=2) ?hd (cs:=#[.int .i64 0,.float .f64 0,.string (⟨#[]⟩:ByteArray)]) (t:=54) ?hr ?_;(case hd=>rfl);(case hg=>rfl);(case hr=>first|(go_simp;done)|(go_simp;rfl));intro aj hg w95 hbox hb;have aa:=aK (hbox);have au:=bZ HB hg;have av:=bZ HB hg;replace HB:=bW HB hb;clear hb hbox hg)|((with_reducible refine gate_callee (f:=55) rfl ?_);refine gL (some 13) Try.func55 #[.slice A0 l0.length c0] ?_;(with_reducible refine (num_Get.calls k _ _ l0 ae ab ao _ ?side1 ?side2 A2.out).mono ?_);(case side1=>repeat (first|exact (Kd.C_below HR0.out HB.out)|(with_reducible refine Kd.C_alloc ?_ _)|(with_reducible refine Kd.C_drewN ?_ _)|(with_reducible refine Kd.C_drew ?_)));(case side2=>exact HC0.out);rintro e w' ⟨rfl,⟨nd,rfl⟩⟩;refine⟨_,rfl,?_⟩;(try (rw [drewN_self w95];generalize hq_:World.drewN w95 _=w95;have n0_:=bE aa hq_.symm;have n1_:=bH HB hq_.symm;clear aa HB hq_;have aa:=n0_;have HB:=n1_;clear n0_ n1_)))|((with_reducible refine gate_dst (N:=8) rfl ?_);refine box_event ?hg (N:=8) ?hd (cs:=#[.int .i64 0,.float .f64 0,.string (⟨#[]⟩:ByteArray)]) (t:=54) ?hr ?_;(case hd=>rfl);(case hg=>rfl);(case hr=>first|(go_simp;done)|(go_simp;rfl));intro af hg w96 hbox hb;have ac:=aK (hbox);have ax:=bZ HB hg;have ay:=bZ HB hg;have ag:=bL aa hg;have ah:=bG aa hg;replace aa:=bB aa hb;replace HB:=bW HB hb;clear hb hbox hg;have hnb97:=ah.out;have hnc97:=ag.out;obtain⟨cJ,cK,cL,cM,cN,cO⟩:=bf3 (w:=w96) ac;obtain⟨cP,cQ,cR,cS,cT,cU⟩:=bf3 (w:=w96) aa))
   refine bodyPost_ret (results_ctt rfl _ _ aj 54 #[.int .i64 0,.float .f64 0,.string (⟨#[]⟩:ByteArray)] (0,0) _ rfl (bR aa) Try.underlying54 rfl (by kernel_rfl)) rfl ?_
   exact xB HB
  rw [if_pos c61] at H
  have bl:(ae == 2)=true:=beq_iff_eq.mpr c61
  have bm:(ae != 2)=false:=bne_eq_false_iff_eq.mpr c61
  clear c61
  by_cases c62:0≤ab
  rotate_left
  ·rw [if_neg c62] at H
   exact absurd H (by simp)
  rw [if_pos c62] at H
  have fI:=eq_true c62
  have fJ:decide (0≤ab)=true:=decide_eq_true c62
  clear c62
  by_cases c63:ab≤(l0.length:Int)
  rotate_left
  ·rw [if_neg c63] at H
   exact absurd H (by simp)
  rw [if_pos c63] at H
  have fK:=eq_true c63
  have fL:decide (ab≤(l0.length:Int))=true:=decide_eq_true c63
  clear c63
  obtain⟨ak,hy245⟩:∃ y_:List Int,y_=(l0.drop (ab:Int).toNat):=⟨_,rfl⟩
  replace H:((num_GetText.f k ak).bind fun am=>(if am.2.2=0 then ((datum_May.f ae 0 am.1).bind fun az=>(if az=true then (some (ae,0,am.1,wrap64 (ab+am.2.1),0)) else (some (0,0,(⟨#[]⟩:ByteArray),0,1)))) else (some (0,0,(⟨#[]⟩:ByteArray),0,am.2.2))))=some (r1,r2,r3,r4,r5):=by first|(rw [hy245];with_reducible exact H)|(have H2_:=(Option.bind_some _ _).symm.trans H;rw [hy245];with_reducible exact H2_)|(have H2_:=(Option.bind_some _ _).symm.trans H;with_reducible exact H2_)|with_reducible exact H|(rw [hy245];exact H)|exact H
  have Ny245:=aK hy245
  clear hy245
  replace H:=oS H
  obtain⟨⟨ar,aI,aA⟩,bc,H⟩:=H
  replace H:(if aA=0 then ((datum_May.f ae 0 ar).bind fun az=>(if az=true then (some (ae,0,ar,wrap64 (ab+aI),0)) else (some (0,0,(⟨#[]⟩:ByteArray),0,1)))) else (some (0,0,(⟨#[]⟩:ByteArray),0,aA)))=some (r1,r2,r3,r4,r5):=H
  have A64:=aK bc
  clear bc
  by_cases c65:aA=0
  rotate_left
  ·rw [if_neg c65] at H
   have bn:(aA == 0)=false:=beq_eq_false_iff_ne.mpr c65
   have bo:(aA != 0)=true:=bne_iff_ne.mpr c65
   simp only [Option.some.injEq,Prod.mk.injEq] at H
   obtain⟨rfl,rfl,rfl,rfl,rfl⟩:=H
   go_enter Try.func56,Try.ntmps56
   go_wp2_with (first|((with_reducible refine gate_dst (N:=2) rfl ?_);refine box_event ?hg (N:=2) ?hd (cs:=#[.int .i64 0,.float .f64 0,.string (⟨#[]⟩:ByteArray)]) (t:=54) ?hr ?_;(case hd=>rfl);(case hg=>rfl);(case hr=>first|(go_simp;done)|(go_simp;rfl));intro aj hg w87 hbox hb;have aa:=aK (hbox);have au:=bZ HB hg;have av:=bZ HB hg;replace HB:=bW HB hb;clear hb hbox hg)|((with_reducible refine gate_callee (f:=55) rfl ?_);refine gL (some 13) Try.func55 #[.slice A0 l0.length c0] ?_;(with_reducible refine (num_Get.calls k _ _ l0 ae ab ao _ ?side1 ?side2 A2.out).mono ?_);(case side1=>repeat (first|exact (Kd.C_below HR0.out HB.out)|(with_reducible refine Kd.C_alloc ?_ _)|(with_reducible refine Kd.C_drewN ?_ _)|(with_reducible refine Kd.C_drew ?_)));(case side2=>exact HC0.out);rintro e w' ⟨rfl,⟨nd,rfl⟩⟩;refine⟨_,rfl,?_⟩;(try (rw [drewN_self w87];generalize hq_:World.drewN w87 _=w87;have n0_:=bE aa hq_.symm;have n1_:=bH HB hq_.symm;clear aa HB hq_;have aa:=n0_;have HB:=n1_;clear n0_ n1_)))|((with_reducible refine gate_dst (N:=8) rfl ?_);refine box_event ?hg (N:=8) ?hd (cs:=#[.int .i64 0,.float .f64 0,.string (⟨#[]⟩:ByteArray)]) (t:=54) ?hr ?_;(case hd=>rfl);(case hg=>rfl);(case hr=>first|(go_simp;done)|(go_simp;rfl));intro af hg w88 hbox hb;have ac:=aK (hbox);have ax:=bZ HB hg;have ay:=bZ HB hg;have ag:=bL aa hg;have ah:=bG aa hg;replace aa:=bB aa hb;replace HB:=bW HB hb;clear hb hbox hg;have hnb89:=ah.out;have hnc89:=ag.out;obtain⟨cV,cX,cY,cZ,da,db⟩:=bf3 (w:=w88) ac)|((with_reducible refine gate_store (t:=54) (p:=8) rfl ?_);refine store_event (t:=54) (p:=8) (v:=?vo_w91) (w1:=(((w88.setCell ⟨af,0,none⟩ (.int .i64 ae)).setCell ⟨af,1,none⟩ (.float .f64 0)).setCell ⟨af,2,none⟩ (.string (⟨#[]⟩:ByteArray)))) ?hg ?ho ?hn ?hr ?_;(case ho=>rfl);(case hg=>rfl);(case hn=>rfl);(case hr=>first|(go_simp;done)|(go_simp;rfl));intro w91 hw;replace aa:=bE aa hw;replace ac:Aside0 (w91.heap[af]? = some (.cells #[.int .i64 ae,.float .f64 0,.string (⟨#[]⟩:ByteArray)] 54 (0,0))):=bP ac hw;replace HB:=bH HB hw;clear hw;have q92:(ab:Int)≤((l0.length:Int):Int):=dA;obtain⟨i092,hi092,_,hsz92,_⟩:=info_parts info5;have hroom92:l0.length≤c0:=HC0.out;have hC92:Kd.C (Kd.int .u8) _ A0 l0.length l0:=HR0.out;have bI:(0:Int)≤(ab:Int):=dA;have hcut92:=cut_from (P:=Try.prog) 30 5 .i64 Try.underlying30 hi092 1 hsz92 A0 l0.length c0 ab bI q92;have aJ:=Kd.C_drop (m:=(ab:Int).toNat) (c:=c0) hC92 (by omega) hroom92;obtain⟨A92,hA92⟩:∃ A1,A1=(if c0=(ab:Int).toNat then A0 else (A0:Option Addr).map (·.add ((ab:Int).toNat * 1))):=⟨_,rfl⟩;obtain⟨c92,aW⟩:∃ c1,c1=c0 - (ab:Int).toNat:=⟨_,rfl⟩;have hy92:ak.length=l0.length - (ab:Int).toNat:=(by rw [Ny245.out,List.length_drop] <;> omega);rw [show (l0).drop (ab:Int).toNat=ak from Ny245.out.symm] at aJ;replace aJ:Kd.C (Kd.int .u8) _ A92 ak.length ak:=(by rw [hA92];exact aJ);rw [← hy92,← hA92,← aW] at hcut92;have aC:=aK aJ;have aD:=aK (show ak.length≤c92 from by rw [hy92,aW];exact Nat.sub_le_sub_right hroom92 _);clear aJ hC92 hroom92 hi092 hsz92 aW;have KY92:=aK hy92;have KA92:=aK hA92;clear hy92 hA92;replace q92:=eq_true q92)|((with_reducible refine gate_callee (f:=41) rfl ?_);refine gL (some 54) Try.func41 #[.slice A92 ak.length c92] ?_;(with_reducible refine (num_GetText.calls k _ _ ak ar aI aA _ ?side1 ?side2 A64.out).mono ?_);(case side1=>repeat (first|exact (Kd.C_below aC.out HB.out)|(with_reducible refine Kd.C_alloc ?_ _)|(with_reducible refine Kd.C_drewN ?_ _)|(with_reducible refine Kd.C_drew ?_)));(case side2=>exact aD.out);rintro e w' ⟨rfl,⟨nd,rfl⟩⟩;refine⟨_,rfl,?_⟩;(try (rw [drewN_self w91];generalize hq_:World.drewN w91 _=w91;have n0_:=bE aa hq_.symm;have n1_:=bE ac hq_.symm;have n2_:=bH HB hq_.symm;clear aa ac HB hq_;have aa:=n0_;have ac:=n1_;have HB:=n2_;clear n0_ n1_ n2_));obtain⟨dc,dd,de,df,dg,dh⟩:=bf3 (w:=w91) ac;obtain⟨di,dj,dk,dl,dm,dn⟩:=bf3 (w:=w91) aa))
   refine bodyPost_ret (results_ctt rfl _ _ aj 54 #[.int .i64 0,.float .f64 0,.string (⟨#[]⟩:ByteArray)] (0,0) _ rfl (bR aa) Try.underlying54 rfl (by kernel_rfl)) rfl ?_
   exact xB HB
  rw [if_pos c65] at H
  have bn:(aA == 0)=true:=beq_iff_eq.mpr c65
  have bo:(aA != 0)=false:=bne_eq_false_iff_eq.mpr c65
  clear c65
  replace H:=oS H
  obtain⟨az,bf,H⟩:=H
  replace H:(if az=true then (some (ae,0,ar,wrap64 (ab+aI),0)) else (some (0,0,(⟨#[]⟩:ByteArray),0,1)))=some (r1,r2,r3,r4,r5):=H
  have A66:=aK bf
  clear bf
  by_cases c67:az=true
  rotate_left
  ·replace c67:=Bool.eq_false_iff.mpr c67
   subst c67
   have H1:(some (0,0,(⟨#[]⟩:ByteArray),0,1))=some (r1,r2,r3,r4,r5):=by rw [if_neg (show ¬ (false=true) by decide)] at H;exact H
   clear H
   have H:=H1
   clear H1
   simp only [Option.some.injEq,Prod.mk.injEq] at H
   obtain⟨rfl,rfl,rfl,rfl,rfl⟩:=H
   go_enter Try.func56,Try.ntmps56
   go_wp2_with (first|((with_reducible refine gate_dst (N:=2) rfl ?_);refine box_event ?hg (N:=2) ?hd (cs:=#[.int .i64 0,.float .f64 0,.string (⟨#[]⟩:ByteArray)]) (t:=54) ?hr ?_;(case hd=>rfl);(case hg=>rfl);(case hr=>first|(go_simp;done)|(go_simp;rfl));intro aj hg w78 hbox hb;have aa:=aK (hbox);have au:=bZ HB hg;have av:=bZ HB hg;replace HB:=bW HB hb;clear hb hbox hg)|((with_reducible refine gate_callee (f:=55) rfl ?_);refine gL (some 13) Try.func55 #[.slice A0 l0.length c0] ?_;(with_reducible refine (num_Get.calls k _ _ l0 ae ab ao _ ?side1 ?side2 A2.out).mono ?_);(case side1=>repeat (first|exact (Kd.C_below HR0.out HB.out)|(with_reducible refine Kd.C_alloc ?_ _)|(with_reducible refine Kd.C_drewN ?_ _)|(with_reducible refine Kd.C_drew ?_)));(case side2=>exact HC0.out);rintro e w' ⟨rfl,⟨nd,rfl⟩⟩;refine⟨_,rfl,?_⟩;(try (rw [drewN_self w78];generalize hq_:World.drewN w78 _=w78;have n0_:=bE aa hq_.symm;have n1_:=bH HB hq_.symm;clear aa HB hq_;have aa:=n0_;have HB:=n1_;clear n0_ n1_)))|((with_reducible refine gate_dst (N:=8) rfl ?_);refine box_event ?hg (N:=8) ?hd (cs:=#[.int .i64 0,.float .f64 0,.string (⟨#[]⟩:ByteArray)]) (t:=54) ?hr ?_;(case hd=>rfl);(case hg=>rfl);(case hr=>first|(go_simp;done)|(go_simp;rfl));intro af hg w79 hbox hb;have ac:=aK (hbox);have ax:=bZ HB hg;have ay:=bZ HB hg;have ag:=bL aa hg;have ah:=bG aa hg;replace aa:=bB aa hb;replace HB:=bW HB hb;clear hb hbox hg;have hnb80:=ah.out;have hnc80:=ag.out;obtain⟨dp,dq,dr,dt,du,dv⟩:=bf3 (w:=w79) ac)|((with_reducible refine gate_store (t:=54) (p:=8) rfl ?_);refine store_event (t:=54) (p:=8) (v:=?vo_w82) (w1:=(((w79.setCell ⟨af,0,none⟩ (.int .i64 ae)).setCell ⟨af,1,none⟩ (.float .f64 0)).setCell ⟨af,2,none⟩ (.string (⟨#[]⟩:ByteArray)))) ?hg ?ho ?hn ?hr ?_;(case ho=>rfl);(case hg=>rfl);(case hn=>rfl);(case hr=>first|(go_simp;done)|(go_simp;rfl));intro w82 hw;replace aa:=bE aa hw;replace ac:Aside0 (w82.heap[af]? = some (.cells #[.int .i64 ae,.float .f64 0,.string (⟨#[]⟩:ByteArray)] 54 (0,0))):=bP ac hw;replace HB:=bH HB hw;clear hw;have q83:(ab:Int)≤((l0.length:Int):Int):=dA;obtain⟨i083,hi083,_,hsz83,_⟩:=info_parts info5;have hroom83:l0.length≤c0:=HC0.out;have hC83:Kd.C (Kd.int .u8) _ A0 l0.length l0:=HR0.out;have bJ:(0:Int)≤(ab:Int):=dA;have hcut83:=cut_from (P:=Try.prog) 30 5 .i64 Try.underlying30 hi083 1 hsz83 A0 l0.length c0 ab bJ q83;have aM:=Kd.C_drop (m:=(ab:Int).toNat) (c:=c0) hC83 (by omega) hroom83;obtain⟨A83,hA83⟩:∃ A1,A1=(if c0=(ab:Int).toNat then A0 else (A0:Option Addr).map (·.add ((ab:Int).toNat * 1))):=⟨_,rfl⟩;obtain⟨c83,aX⟩:∃ c1,c1=c0 - (ab:Int).toNat:=⟨_,rfl⟩;have hy83:ak.length=l0.length - (ab:Int).toNat:=(by rw [Ny245.out,List.length_drop] <;> omega);rw [show (l0).drop (ab:Int).toNat=ak from Ny245.out.symm] at aM;replace aM:Kd.C (Kd.int .u8) _ A83 ak.length ak:=(by rw [hA83];exact aM);rw [← hy83,← hA83,← aX] at hcut83;have aC:=aK aM;have aD:=aK (show ak.length≤c83 from by rw [hy83,aX];exact Nat.sub_le_sub_right hroom83 _);clear aM hC83 hroom83 hi083 hsz83 aX;have KY83:=aK hy83;have KA83:=aK hA83;clear hy83 hA83;replace q83:=eq_true q83)|((with_reducible refine gate_callee (f:=41) rfl ?_);refine gL (some 54) Try.func41 #[.slice A83 ak.length c83] ?_;(with_reducible refine (num_GetText.calls k _ _ ak ar aI aA _ ?side1 ?side2 A64.out).mono ?_);(case side1=>repeat (first|exact (Kd.C_below aC.out HB.out)|(with_reducible refine Kd.C_alloc ?_ _)|(with_reducible refine Kd.C_drewN ?_ _)|(with_reducible refine Kd.C_drew ?_)));(case side2=>exact aD.out);rintro e w' ⟨rfl,⟨nd,rfl⟩⟩;refine⟨_,rfl,?_⟩;(try (rw [drewN_self w82];generalize hq_:World.drewN w82 _=w82;have n0_:=bE aa hq_.symm;have n1_:=bE ac hq_.symm;have n2_:=bH HB hq_.symm;clear aa ac HB hq_;have aa:=n0_;have ac:=n1_;have HB:=n2_;clear n0_ n1_ n2_));obtain⟨dw,dx,dy,dz,dB,dC⟩:=bf3 (w:=w82) ac)|((with_reducible refine gate_callee (f:=48) rfl ?_);refine gL (some 64) Try.func48 #[.agg #[.int .i64 ae,.float .f64 0,.string ar]] ?_;(with_reducible refine (datum_May.calls ae 0 ar false _ A66.out).mono ?_);rintro e w85 ⟨rfl,hb⟩;refine⟨_,rfl,?_⟩;replace aa:=bB aa hb;replace ac:=aK (blk_below (g:=af) (o:=.cells #[.int .i64 ae,.float .f64 0,.string ar] 54 (0,0)) (bR ac) hb);replace HB:=bW HB hb;(try clear hb);(try clear hb2);(try clear hk);(try clear hi);obtain⟨dD,dE,dF,dG,dH,dI⟩:=bf3 (w:=w85) aa))
   refine bodyPost_ret (results_ctt rfl _ _ aj 54 #[.int .i64 0,.float .f64 0,.string (⟨#[]⟩:ByteArray)] (0,0) _ rfl (bR aa) Try.underlying54 rfl (by kernel_rfl)) rfl ?_
   exact xB HB
  subst c67
  have H1:(some (ae,0,ar,wrap64 (ab+aI),0))=some (r1,r2,r3,r4,r5):=by rw [if_pos rfl] at H;exact H
  clear H
  have H:=H1
  clear H1
  simp only [Option.some.injEq,Prod.mk.injEq] at H
  obtain⟨rfl,rfl,rfl,rfl,rfl⟩:=H
  go_enter Try.func56,Try.ntmps56
  go_wp2_with (first|((with_reducible refine gate_dst (N:=2) rfl ?_);refine box_event ?hg (N:=2) ?hd (cs:=#[.int .i64 0,.float .f64 0,.string (⟨#[]⟩:ByteArray)]) (t:=54) ?hr ?_;(case hd=>rfl);(case hg=>rfl);(case hr=>first|(go_simp;done)|(go_simp;rfl));intro aj hg w68 hbox hb;have aa:=aK (hbox);have au:=bZ HB hg;have av:=bZ HB hg;replace HB:=bW HB hb;clear hb hbox hg)|((with_reducible refine gate_callee (f:=55) rfl ?_);refine gL (some 13) Try.func55 #[.slice A0 l0.length c0] ?_;(with_reducible refine (num_Get.calls k _ _ l0 ae ab ao _ ?side1 ?side2 A2.out).mono ?_);(case side1=>repeat (first|exact (Kd.C_below HR0.out HB.out)|(with_reducible refine Kd.C_alloc ?_ _)|(with_reducible refine Kd.C_drewN ?_ _)|(with_reducible refine Kd.C_drew ?_)));(case side2=>exact HC0.out);rintro e w' ⟨rfl,⟨nd,rfl⟩⟩;refine⟨_,rfl,?_⟩;(try (rw [drewN_self w68];generalize hq_:World.drewN w68 _=w68;have n0_:=bE aa hq_.symm;have n1_:=bH HB hq_.symm;clear aa HB hq_;have aa:=n0_;have HB:=n1_;clear n0_ n1_)))|((with_reducible refine gate_dst (N:=8) rfl ?_);refine box_event ?hg (N:=8) ?hd (cs:=#[.int .i64 0,.float .f64 0,.string (⟨#[]⟩:ByteArray)]) (t:=54) ?hr ?_;(case hd=>rfl);(case hg=>rfl);(case hr=>first|(go_simp;done)|(go_simp;rfl));intro af hg w69 hbox hb;have ac:=aK (hbox);have ax:=bZ HB hg;have ay:=bZ HB hg;have ag:=bL aa hg;have ah:=bG aa hg;replace aa:=bB aa hb;replace HB:=bW HB hb;clear hb hbox hg;have hnb70:=ah.out;have hnc70:=ag.out;obtain⟨dJ,dK,dL,dM,dN,dO⟩:=bf3 (w:=w69) ac)|((with_reducible refine gate_store (t:=54) (p:=8) rfl ?_);refine store_event (t:=54) (p:=8) (v:=?vo_w72) (w1:=(((w69.setCell ⟨af,0,none⟩ (.int .i64 ae)).setCell ⟨af,1,none⟩ (.float .f64 0)).setCell ⟨af,2,none⟩ (.string (⟨#[]⟩:ByteArray)))) ?hg ?ho ?hn ?hr ?_;(case ho=>rfl);(case hg=>rfl);(case hn=>rfl);(case hr=>first|(go_simp;done)|(go_simp;rfl));intro w72 hw;replace aa:=bE aa hw;replace ac:Aside0 (w72.heap[af]? = some (.cells #[.int .i64 ae,.float .f64 0,.string (⟨#[]⟩:ByteArray)] 54 (0,0))):=bP ac hw;replace HB:=bH HB hw;clear hw;have q73:(ab:Int)≤((l0.length:Int):Int):=dA;obtain⟨i073,hi073,_,hsz73,_⟩:=info_parts info5;have hroom73:l0.length≤c0:=HC0.out;have hC73:Kd.C (Kd.int .u8) _ A0 l0.length l0:=HR0.out;have bM:(0:Int)≤(ab:Int):=dA;have hcut73:=cut_from (P:=Try.prog) 30 5 .i64 Try.underlying30 hi073 1 hsz73 A0 l0.length c0 ab bM q73;have aN:=Kd.C_drop (m:=(ab:Int).toNat) (c:=c0) hC73 (by omega) hroom73;obtain⟨A73,hA73⟩:∃ A1,A1=(if c0=(ab:Int).toNat then A0 else (A0:Option Addr).map (·.add ((ab:Int).toNat * 1))):=⟨_,rfl⟩;obtain⟨c73,aY⟩:∃ c1,c1=c0 - (ab:Int).toNat:=⟨_,rfl⟩;have hy73:ak.length=l0.length - (ab:Int).toNat:=(by rw [Ny245.out,List.length_drop] <;> omega);rw [show (l0).drop (ab:Int).toNat=ak from Ny245.out.symm] at aN;replace aN:Kd.C (Kd.int .u8) _ A73 ak.length ak:=(by rw [hA73];exact aN);rw [← hy73,← hA73,← aY] at hcut73;have aC:=aK aN;have aD:=aK (show ak.length≤c73 from by rw [hy73,aY];exact Nat.sub_le_sub_right hroom73 _);clear aN hC73 hroom73 hi073 hsz73 aY;have KY73:=aK hy73;have KA73:=aK hA73;clear hy73 hA73;replace q73:=eq_true q73)|((with_reducible refine gate_callee (f:=41) rfl ?_);refine gL (some 54) Try.func41 #[.slice A73 ak.length c73] ?_;(with_reducible refine (num_GetText.calls k _ _ ak ar aI aA _ ?side1 ?side2 A64.out).mono ?_);(case side1=>repeat (first|exact (Kd.C_below aC.out HB.out)|(with_reducible refine Kd.C_alloc ?_ _)|(with_reducible refine Kd.C_drewN ?_ _)|(with_reducible refine Kd.C_drew ?_)));(case side2=>exact aD.out);rintro e w' ⟨rfl,⟨nd,rfl⟩⟩;refine⟨_,rfl,?_⟩;(try (rw [drewN_self w72];generalize hq_:World.drewN w72 _=w72;have n0_:=bE aa hq_.symm;have n1_:=bE ac hq_.symm;have n2_:=bH HB hq_.symm;clear aa ac HB hq_;have aa:=n0_;have ac:=n1_;have HB:=n2_;clear n0_ n1_ n2_));obtain⟨dP,dQ,dR,dS,dT,dU⟩:=bf3 (w:=w72) ac)|((with_reducible refine gate_callee (f:=48) rfl ?_);refine gL (some 64) Try.func48 #[.agg #[.int .i64 ae,.float .f64 0,.string ar]] ?_;(with_reducible refine (datum_May.calls ae 0 ar true _ A66.out).mono ?_);rintro e w75 ⟨rfl,hb⟩;refine⟨_,rfl,?_⟩;replace aa:=bB aa hb;replace ac:=aK (blk_below (g:=af) (o:=.cells #[.int .i64 ae,.float .f64 0,.string ar] 54 (0,0)) (bR ac) hb);replace HB:=bW HB hb;(try clear hb);(try clear hb2);(try clear hk);(try clear hi);obtain⟨dV,dW,dX,dY,dZ,d3⟩:=bf3 (w:=w75) ac;obtain⟨d4,d5,d6,d7,d8,d9⟩:=bf3 (w:=w75) aa))
  refine bodyPost_ret (results_ctt rfl _ _ aj 54 #[.int .i64 ae,.float .f64 0,.string ar] (0,0) _ rfl (bR aa) Try.underlying54 rfl (by kernel_rfl)) rfl ?_
  exact xB HB
 rw [if_pos c20] at H
 have bj:(ae == 1)=true:=beq_iff_eq.mpr c20
 have bk:(ae != 1)=false:=bne_eq_false_iff_eq.mpr c20
 clear c20
 by_cases c21:(wrap64 ((l0.length:Int) - ab))<8
 ·rw [if_pos c21] at H
  have bp:decide ((wrap64 ((l0.length:Int) - ab))<8)=true:=decide_eq_true c21
  clear c21
  simp only [Option.some.injEq,Prod.mk.injEq] at H
  obtain⟨rfl,rfl,rfl,rfl,rfl⟩:=H
  go_enter Try.func56,Try.ntmps56
  go_wp2_with (first|((with_reducible refine gate_dst (N:=2) rfl ?_);refine box_event ?hg (N:=2) ?hd (cs:=#[.int .i64 0,.float .f64 0,.string (⟨#[]⟩:ByteArray)]) (t:=54) ?hr ?_;(case hd=>rfl);(case hg=>rfl);(case hr=>first|(go_simp;done)|(go_simp;rfl));intro aj hg w22 hbox hb;have aa:=aK (hbox);have au:=bZ HB hg;have av:=bZ HB hg;replace HB:=bW HB hb;clear hb hbox hg)|((with_reducible refine gate_callee (f:=55) rfl ?_);refine gL (some 13) Try.func55 #[.slice A0 l0.length c0] ?_;(with_reducible refine (num_Get.calls k _ _ l0 ae ab ao _ ?side1 ?side2 A2.out).mono ?_);(case side1=>repeat (first|exact (Kd.C_below HR0.out HB.out)|(with_reducible refine Kd.C_alloc ?_ _)|(with_reducible refine Kd.C_drewN ?_ _)|(with_reducible refine Kd.C_drew ?_)));(case side2=>exact HC0.out);rintro e w' ⟨rfl,⟨nd,rfl⟩⟩;refine⟨_,rfl,?_⟩;(try (rw [drewN_self w22];generalize hq_:World.drewN w22 _=w22;have n0_:=bE aa hq_.symm;have n1_:=bH HB hq_.symm;clear aa HB hq_;have aa:=n0_;have HB:=n1_;clear n0_ n1_)))|((with_reducible refine gate_dst (N:=8) rfl ?_);refine box_event ?hg (N:=8) ?hd (cs:=#[.int .i64 0,.float .f64 0,.string (⟨#[]⟩:ByteArray)]) (t:=54) ?hr ?_;(case hd=>rfl);(case hg=>rfl);(case hr=>first|(go_simp;done)|(go_simp;rfl));intro af hg w23 hbox hb;have ac:=aK (hbox);have ax:=bZ HB hg;have ay:=bZ HB hg;have ag:=bL aa hg;have ah:=bG aa hg;replace aa:=bB aa hb;replace HB:=bW HB hb;clear hb hbox hg;have hnb24:=ah.out;have hnc24:=ag.out;obtain⟨ed,eg,eh,ei,ej,ek⟩:=bf3 (w:=w23) ac;obtain⟨el,em,ep,er,es,et⟩:=bf3 (w:=w23) aa))
  refine bodyPost_ret (results_ctt rfl _ _ aj 54 #[.int .i64 0,.float .f64 0,.string (⟨#[]⟩:ByteArray)] (0,0) _ rfl (bR aa) Try.underlying54 rfl (by kernel_rfl)) rfl ?_
  exact xB HB
 rw [if_neg c21] at H
 have bp:decide ((wrap64 ((l0.length:Int) - ab))<8)=false:=decide_eq_false c21
 clear c21
 by_cases c27:0≤ab
 rotate_left
 ·rw [if_neg c27] at H
  exact absurd H (by simp)
 rw [if_pos c27] at H
 have fM:=eq_true c27
 have fN:decide (0≤ab)=true:=decide_eq_true c27
 clear c27
 by_cases c28:ab≤(wrap64 (ab+8))
 rotate_left
 ·rw [if_neg c28] at H
  exact absurd H (by simp)
 rw [if_pos c28] at H
 have fO:=eq_true c28
 have fP:decide (ab≤(wrap64 (ab+8)))=true:=decide_eq_true c28
 by_cases c29:(wrap64 (ab+8))≤(l0.length:Int)
 rotate_left
 ·rw [if_neg c29] at H
  exact absurd H (by simp)
 rw [if_pos c29] at H
 have fQ:=eq_true c29
 have fR:decide ((wrap64 (ab+8))≤(l0.length:Int))=true:=decide_eq_true c29
 obtain⟨al,hy238⟩:∃ y_:List Int,y_=((l0.take ((wrap64 (ab+8)):Int).toNat).drop (ab:Int).toNat):=⟨_,rfl⟩
 replace H:((float_Of.f k al).bind fun aq=>(if aq.2=true then ((datum_May.f ae aq.1 (⟨#[]⟩:ByteArray)).bind fun aw=>(if aw=true then (some (ae,aq.1,(⟨#[]⟩:ByteArray),wrap64 (ab+8),0)) else (some (0,0,(⟨#[]⟩:ByteArray),0,1)))) else (some (0,0,(⟨#[]⟩:ByteArray),0,1))))=some (r1,r2,r3,r4,r5):=by first|(rw [hy238];with_reducible exact H)|(have H2_:=(Option.bind_some _ _).symm.trans H;rw [hy238];with_reducible exact H2_)|(have H2_:=(Option.bind_some _ _).symm.trans H;with_reducible exact H2_)|with_reducible exact H|(rw [hy238];exact H)|exact H
 have Ny238:=aK hy238
 clear hy238
 replace H:=oS H
 obtain⟨⟨ap,bg⟩,bh,H⟩:=H
 replace H:(if bg=true then ((datum_May.f ae ap (⟨#[]⟩:ByteArray)).bind fun aw=>(if aw=true then (some (ae,ap,(⟨#[]⟩:ByteArray),wrap64 (ab+8),0)) else (some (0,0,(⟨#[]⟩:ByteArray),0,1)))) else (some (0,0,(⟨#[]⟩:ByteArray),0,1)))=some (r1,r2,r3,r4,r5):=H
 have A30:=aK bh
 clear bh
 by_cases c31:bg=true
 rotate_left
 ·replace c31:=Bool.eq_false_iff.mpr c31
  subst c31
  have H1:(some (0,0,(⟨#[]⟩:ByteArray),0,1))=some (r1,r2,r3,r4,r5):=by rw [if_neg (show ¬ (false=true) by decide)] at H;exact H
  clear H
  have H:=H1
  clear H1
  simp only [Option.some.injEq,Prod.mk.injEq] at H
  obtain⟨rfl,rfl,rfl,rfl,rfl⟩:=H
  go_enter Try.func56,Try.ntmps56
  go_wp2_with (first|((with_reducible refine gate_dst (N:=2) rfl ?_);refine box_event ?hg (N:=2) ?hd (cs:=#[.int .i64 0,.float .f64 0,.string (⟨#[]⟩:ByteArray)]) (t:=54) ?hr ?_;(case hd=>rfl);(case hg=>rfl);(case hr=>first|(go_simp;done)|(go_simp;rfl));intro aj hg w53 hbox hb;have aa:=aK (hbox);have au:=bZ HB hg;have av:=bZ HB hg;replace HB:=bW HB hb;clear hb hbox hg)|((with_reducible refine gate_callee (f:=55) rfl ?_);refine gL (some 13) Try.func55 #[.slice A0 l0.length c0] ?_;(with_reducible refine (num_Get.calls k _ _ l0 ae ab ao _ ?side1 ?side2 A2.out).mono ?_);(case side1=>repeat (first|exact (Kd.C_below HR0.out HB.out)|(with_reducible refine Kd.C_alloc ?_ _)|(with_reducible refine Kd.C_drewN ?_ _)|(with_reducible refine Kd.C_drew ?_)));(case side2=>exact HC0.out);rintro e w' ⟨rfl,⟨nd,rfl⟩⟩;refine⟨_,rfl,?_⟩;(try (rw [drewN_self w53];generalize hq_:World.drewN w53 _=w53;have n0_:=bE aa hq_.symm;have n1_:=bH HB hq_.symm;clear aa HB hq_;have aa:=n0_;have HB:=n1_;clear n0_ n1_)))|((with_reducible refine gate_dst (N:=8) rfl ?_);refine box_event ?hg (N:=8) ?hd (cs:=#[.int .i64 0,.float .f64 0,.string (⟨#[]⟩:ByteArray)]) (t:=54) ?hr ?_;(case hd=>rfl);(case hg=>rfl);(case hr=>first|(go_simp;done)|(go_simp;rfl));intro af hg w54 hbox hb;have ac:=aK (hbox);have ax:=bZ HB hg;have ay:=bZ HB hg;have ag:=bL aa hg;have ah:=bG aa hg;replace aa:=bB aa hb;replace HB:=bW HB hb;clear hb hbox hg;have hnb55:=ah.out;have hnc55:=ag.out;obtain⟨eu,ev,ex,ey,ez,eA⟩:=bf3 (w:=w54) ac)|((with_reducible refine gate_store (t:=54) (p:=8) rfl ?_);refine store_event (t:=54) (p:=8) (v:=?vo_w57) (w1:=(((w54.setCell ⟨af,0,none⟩ (.int .i64 ae)).setCell ⟨af,1,none⟩ (.float .f64 0)).setCell ⟨af,2,none⟩ (.string (⟨#[]⟩:ByteArray)))) ?hg ?ho ?hn ?hr ?_;(case ho=>rfl);(case hg=>rfl);(case hn=>rfl);(case hr=>first|(go_simp;done)|(go_simp;rfl));intro w57 hw;replace aa:=bE aa hw;replace ac:Aside0 (w57.heap[af]? = some (.cells #[.int .i64 ae,.float .f64 0,.string (⟨#[]⟩:ByteArray)] 54 (0,0))):=bP ac hw;replace HB:=bH HB hw;clear hw;have q58:((wrap64 (ab+8)):Int)≤((l0.length:Int):Int):=dA;obtain⟨i058,hi058,_,hsz58,_⟩:=info_parts info5;have hroom58:l0.length≤c0:=HC0.out;have hC58:Kd.C (Kd.int .u8) _ A0 l0.length l0:=HR0.out;have ql58:(ab:Int)≤((wrap64 (ab+8)):Int):=dA;have bN:(0:Int)≤(ab:Int):=dA;have hcut58:=cut_mid (P:=Try.prog) 30 5 .i64 .i64 Try.underlying30 hi058 1 hsz58 A0 l0.length c0 ab (wrap64 (ab+8)) bN ql58 q58 hroom58;have aQ:=Kd.C_mid (lo:=(ab:Int).toNat) (hi:=((wrap64 (ab+8)):Int).toNat) (c:=c0) hC58 (by omega) (by omega) hroom58;obtain⟨A58,hA58⟩:∃ A1,A1=(if c0=(ab:Int).toNat then A0 else (A0:Option Addr).map (·.add ((ab:Int).toNat * 1))):=⟨_,rfl⟩;obtain⟨c58,aZ⟩:∃ c1,c1=c0 - (ab:Int).toNat:=⟨_,rfl⟩;have hy58:al.length=((wrap64 (ab+8)):Int).toNat - (ab:Int).toNat:=(by rw [Ny238.out,List.length_drop,List.length_take] <;> omega);rw [show ((l0).take ((wrap64 (ab+8)):Int).toNat).drop (ab:Int).toNat=al from Ny238.out.symm] at aQ;replace aQ:Kd.C (Kd.int .u8) _ A58 al.length al:=(by rw [hA58];exact aQ);rw [← hy58,← hA58,← aZ] at hcut58;have aE:=aK aQ;have aG:=aK (show al.length≤c58 from by rw [hy58,aZ];exact Nat.sub_le_sub_right (Nat.le_trans (by omega) hroom58) _);clear aQ hC58 hroom58 hi058 hsz58 aZ;have KY58:=aK hy58;have KA58:=aK hA58;clear hy58 hA58;replace q58:=eq_true q58)|((with_reducible refine gate_callee (f:=67) rfl ?_);refine gL (some 41) Try.func67 #[.slice A58 al.length c58] ?_;(with_reducible refine (float_Of.calls k _ _ al ap false _ ?side1 ?side2 A30.out).mono ?_);(case side1=>repeat (first|exact (Kd.C_below aE.out HB.out)|(with_reducible refine Kd.C_alloc ?_ _)|(with_reducible refine Kd.C_drewN ?_ _)|(with_reducible refine Kd.C_drew ?_)));(case side2=>exact aG.out);rintro e w' ⟨rfl,⟨nd,rfl⟩⟩;refine⟨_,rfl,?_⟩;(try (rw [drewN_self w57];generalize hq_:World.drewN w57 _=w57;have n0_:=bE aa hq_.symm;have n1_:=bE ac hq_.symm;have n2_:=bH HB hq_.symm;clear aa ac HB hq_;have aa:=n0_;have ac:=n1_;have HB:=n2_;clear n0_ n1_ n2_));obtain⟨eB,eC,eD,eE,eF,eG⟩:=bf3 (w:=w57) ac;obtain⟨eH,eI,eJ,eK,eL,eM⟩:=bf3 (w:=w57) aa))
  refine bodyPost_ret (results_ctt rfl _ _ aj 54 #[.int .i64 0,.float .f64 0,.string (⟨#[]⟩:ByteArray)] (0,0) _ rfl (bR aa) Try.underlying54 rfl (by kernel_rfl)) rfl ?_
  exact xB HB
 subst c31
 have H1:((datum_May.f ae ap (⟨#[]⟩:ByteArray)).bind fun aw=>(if aw=true then (some (ae,ap,(⟨#[]⟩:ByteArray),wrap64 (ab+8),0)) else (some (0,0,(⟨#[]⟩:ByteArray),0,1))))=some (r1,r2,r3,r4,r5):=by rw [if_pos rfl] at H;exact H
 clear H
 have H:=H1
 clear H1
 replace H:=oS H
 obtain⟨aw,bi,H⟩:=H
 replace H:(if aw=true then (some (ae,ap,(⟨#[]⟩:ByteArray),wrap64 (ab+8),0)) else (some (0,0,(⟨#[]⟩:ByteArray),0,1)))=some (r1,r2,r3,r4,r5):=H
 have A32:=aK bi
 clear bi
 by_cases c33:aw=true
 rotate_left
 ·replace c33:=Bool.eq_false_iff.mpr c33
  subst c33
  have H1:(some (0,0,(⟨#[]⟩:ByteArray),0,1))=some (r1,r2,r3,r4,r5):=by rw [if_neg (show ¬ (false=true) by decide)] at H;exact H
  clear H
  have H:=H1
  clear H1
  simp only [Option.some.injEq,Prod.mk.injEq] at H
  obtain⟨rfl,rfl,rfl,rfl,rfl⟩:=H
  go_enter Try.func56,Try.ntmps56
  go_wp2_with (first|((with_reducible refine gate_dst (N:=2) rfl ?_);refine box_event ?hg (N:=2) ?hd (cs:=#[.int .i64 0,.float .f64 0,.string (⟨#[]⟩:ByteArray)]) (t:=54) ?hr ?_;(case hd=>rfl);(case hg=>rfl);(case hr=>first|(go_simp;done)|(go_simp;rfl));intro aj hg w44 hbox hb;have aa:=aK (hbox);have au:=bZ HB hg;have av:=bZ HB hg;replace HB:=bW HB hb;clear hb hbox hg)|((with_reducible refine gate_callee (f:=55) rfl ?_);refine gL (some 13) Try.func55 #[.slice A0 l0.length c0] ?_;(with_reducible refine (num_Get.calls k _ _ l0 ae ab ao _ ?side1 ?side2 A2.out).mono ?_);(case side1=>repeat (first|exact (Kd.C_below HR0.out HB.out)|(with_reducible refine Kd.C_alloc ?_ _)|(with_reducible refine Kd.C_drewN ?_ _)|(with_reducible refine Kd.C_drew ?_)));(case side2=>exact HC0.out);rintro e w' ⟨rfl,⟨nd,rfl⟩⟩;refine⟨_,rfl,?_⟩;(try (rw [drewN_self w44];generalize hq_:World.drewN w44 _=w44;have n0_:=bE aa hq_.symm;have n1_:=bH HB hq_.symm;clear aa HB hq_;have aa:=n0_;have HB:=n1_;clear n0_ n1_)))|((with_reducible refine gate_dst (N:=8) rfl ?_);refine box_event ?hg (N:=8) ?hd (cs:=#[.int .i64 0,.float .f64 0,.string (⟨#[]⟩:ByteArray)]) (t:=54) ?hr ?_;(case hd=>rfl);(case hg=>rfl);(case hr=>first|(go_simp;done)|(go_simp;rfl));intro af hg w45 hbox hb;have ac:=aK (hbox);have ax:=bZ HB hg;have ay:=bZ HB hg;have ag:=bL aa hg;have ah:=bG aa hg;replace aa:=bB aa hb;replace HB:=bW HB hb;clear hb hbox hg;have hnb46:=ah.out;have hnc46:=ag.out;obtain⟨eN,eO,eP,eQ,eR,eS⟩:=bf3 (w:=w45) ac)|((with_reducible refine gate_store (t:=54) (p:=8) rfl ?_);refine store_event (t:=54) (p:=8) (v:=?vo_w48) (w1:=(((w45.setCell ⟨af,0,none⟩ (.int .i64 ae)).setCell ⟨af,1,none⟩ (.float .f64 0)).setCell ⟨af,2,none⟩ (.string (⟨#[]⟩:ByteArray)))) ?hg ?ho ?hn ?hr ?_;(case ho=>rfl);(case hg=>rfl);(case hn=>rfl);(case hr=>first|(go_simp;done)|(go_simp;rfl));intro w48 hw;replace aa:=bE aa hw;replace ac:Aside0 (w48.heap[af]? = some (.cells #[.int .i64 ae,.float .f64 0,.string (⟨#[]⟩:ByteArray)] 54 (0,0))):=bP ac hw;replace HB:=bH HB hw;clear hw;have q49:((wrap64 (ab+8)):Int)≤((l0.length:Int):Int):=dA;obtain⟨i049,hi049,_,hsz49,_⟩:=info_parts info5;have hroom49:l0.length≤c0:=HC0.out;have hC49:Kd.C (Kd.int .u8) _ A0 l0.length l0:=HR0.out;have ql49:(ab:Int)≤((wrap64 (ab+8)):Int):=dA;have bO:(0:Int)≤(ab:Int):=dA;have hcut49:=cut_mid (P:=Try.prog) 30 5 .i64 .i64 Try.underlying30 hi049 1 hsz49 A0 l0.length c0 ab (wrap64 (ab+8)) bO ql49 q49 hroom49;have aT:=Kd.C_mid (lo:=(ab:Int).toNat) (hi:=((wrap64 (ab+8)):Int).toNat) (c:=c0) hC49 (by omega) (by omega) hroom49;obtain⟨A49,hA49⟩:∃ A1,A1=(if c0=(ab:Int).toNat then A0 else (A0:Option Addr).map (·.add ((ab:Int).toNat * 1))):=⟨_,rfl⟩;obtain⟨c49,ba⟩:∃ c1,c1=c0 - (ab:Int).toNat:=⟨_,rfl⟩;have hy49:al.length=((wrap64 (ab+8)):Int).toNat - (ab:Int).toNat:=(by rw [Ny238.out,List.length_drop,List.length_take] <;> omega);rw [show ((l0).take ((wrap64 (ab+8)):Int).toNat).drop (ab:Int).toNat=al from Ny238.out.symm] at aT;replace aT:Kd.C (Kd.int .u8) _ A49 al.length al:=(by rw [hA49];exact aT);rw [← hy49,← hA49,← ba] at hcut49;have aE:=aK aT;have aG:=aK (show al.length≤c49 from by rw [hy49,ba];exact Nat.sub_le_sub_right (Nat.le_trans (by omega) hroom49) _);clear aT hC49 hroom49 hi049 hsz49 ba;have KY49:=aK hy49;have KA49:=aK hA49;clear hy49 hA49;replace q49:=eq_true q49)|((with_reducible refine gate_callee (f:=67) rfl ?_);refine gL (some 41) Try.func67 #[.slice A49 al.length c49] ?_;(with_reducible refine (float_Of.calls k _ _ al ap true _ ?side1 ?side2 A30.out).mono ?_);(case side1=>repeat (first|exact (Kd.C_below aE.out HB.out)|(with_reducible refine Kd.C_alloc ?_ _)|(with_reducible refine Kd.C_drewN ?_ _)|(with_reducible refine Kd.C_drew ?_)));(case side2=>exact aG.out);rintro e w' ⟨rfl,⟨nd,rfl⟩⟩;refine⟨_,rfl,?_⟩;(try (rw [drewN_self w48];generalize hq_:World.drewN w48 _=w48;have n0_:=bE aa hq_.symm;have n1_:=bE ac hq_.symm;have n2_:=bH HB hq_.symm;clear aa ac HB hq_;have aa:=n0_;have ac:=n1_;have HB:=n2_;clear n0_ n1_ n2_));obtain⟨eT,eU,eV,eW,eX,eY⟩:=bf3 (w:=w48) ac)|((with_reducible refine gate_callee (f:=48) rfl ?_);refine gL (some 64) Try.func48 #[.agg #[.int .i64 ae,.float .f64 ap,.string (⟨#[]⟩:ByteArray)]] ?_;(with_reducible refine (datum_May.calls ae ap (⟨#[]⟩:ByteArray) false _ A32.out).mono ?_);rintro e w51 ⟨rfl,hb⟩;refine⟨_,rfl,?_⟩;replace aa:=bB aa hb;replace ac:=aK (blk_below (g:=af) (o:=.cells #[.int .i64 ae,.float .f64 ap,.string (⟨#[]⟩:ByteArray)] 54 (0,0)) (bR ac) hb);replace HB:=bW HB hb;(try clear hb);(try clear hb2);(try clear hk);(try clear hi);obtain⟨eZ,e8,e9,fa,fb,fd⟩:=bf3 (w:=w51) aa))
  refine bodyPost_ret (results_ctt rfl _ _ aj 54 #[.int .i64 0,.float .f64 0,.string (⟨#[]⟩:ByteArray)] (0,0) _ rfl (bR aa) Try.underlying54 rfl (by kernel_rfl)) rfl ?_
  exact xB HB
 subst c33
 have H1:(some (ae,ap,(⟨#[]⟩:ByteArray),wrap64 (ab+8),0))=some (r1,r2,r3,r4,r5):=by rw [if_pos rfl] at H;exact H
 clear H
 have H:=H1
 clear H1
 simp only [Option.some.injEq,Prod.mk.injEq] at H
 obtain⟨rfl,rfl,rfl,rfl,rfl⟩:=H
 go_enter Try.func56,Try.ntmps56
 go_wp2_with (first|((with_reducible refine gate_dst (N:=2) rfl ?_);refine box_event ?hg (N:=2) ?hd (cs:=#[.int .i64 0,.float .f64 0,.string (⟨#[]⟩:ByteArray)]) (t:=54) ?hr ?_;(case hd=>rfl);(case hg=>rfl);(case hr=>first|(go_simp;done)|(go_simp;rfl));intro aj hg w34 hbox hb;have aa:=aK (hbox);have au:=bZ HB hg;have av:=bZ HB hg;replace HB:=bW HB hb;clear hb hbox hg)|((with_reducible refine gate_callee (f:=55) rfl ?_);refine gL (some 13) Try.func55 #[.slice A0 l0.length c0] ?_;(with_reducible refine (num_Get.calls k _ _ l0 ae ab ao _ ?side1 ?side2 A2.out).mono ?_);(case side1=>repeat (first|exact (Kd.C_below HR0.out HB.out)|(with_reducible refine Kd.C_alloc ?_ _)|(with_reducible refine Kd.C_drewN ?_ _)|(with_reducible refine Kd.C_drew ?_)));(case side2=>exact HC0.out);rintro e w' ⟨rfl,⟨nd,rfl⟩⟩;refine⟨_,rfl,?_⟩;(try (rw [drewN_self w34];generalize hq_:World.drewN w34 _=w34;have n0_:=bE aa hq_.symm;have n1_:=bH HB hq_.symm;clear aa HB hq_;have aa:=n0_;have HB:=n1_;clear n0_ n1_)))|((with_reducible refine gate_dst (N:=8) rfl ?_);refine box_event ?hg (N:=8) ?hd (cs:=#[.int .i64 0,.float .f64 0,.string (⟨#[]⟩:ByteArray)]) (t:=54) ?hr ?_;(case hd=>rfl);(case hg=>rfl);(case hr=>first|(go_simp;done)|(go_simp;rfl));intro af hg w35 hbox hb;have ac:=aK (hbox);have ax:=bZ HB hg;have ay:=bZ HB hg;have ag:=bL aa hg;have ah:=bG aa hg;replace aa:=bB aa hb;replace HB:=bW HB hb;clear hb hbox hg;have hnb36:=ah.out;have hnc36:=ag.out;obtain⟨fe,ff,fg,fh,fi,fj⟩:=bf3 (w:=w35) ac)|((with_reducible refine gate_store (t:=54) (p:=8) rfl ?_);refine store_event (t:=54) (p:=8) (v:=?vo_w38) (w1:=(((w35.setCell ⟨af,0,none⟩ (.int .i64 ae)).setCell ⟨af,1,none⟩ (.float .f64 0)).setCell ⟨af,2,none⟩ (.string (⟨#[]⟩:ByteArray)))) ?hg ?ho ?hn ?hr ?_;(case ho=>rfl);(case hg=>rfl);(case hn=>rfl);(case hr=>first|(go_simp;done)|(go_simp;rfl));intro w38 hw;replace aa:=bE aa hw;replace ac:Aside0 (w38.heap[af]? = some (.cells #[.int .i64 ae,.float .f64 0,.string (⟨#[]⟩:ByteArray)] 54 (0,0))):=bP ac hw;replace HB:=bH HB hw;clear hw;have q39:((wrap64 (ab+8)):Int)≤((l0.length:Int):Int):=dA;obtain⟨i039,hi039,_,hsz39,_⟩:=info_parts info5;have hroom39:l0.length≤c0:=HC0.out;have hC39:Kd.C (Kd.int .u8) _ A0 l0.length l0:=HR0.out;have ql39:(ab:Int)≤((wrap64 (ab+8)):Int):=dA;have bU:(0:Int)≤(ab:Int):=dA;have hcut39:=cut_mid (P:=Try.prog) 30 5 .i64 .i64 Try.underlying30 hi039 1 hsz39 A0 l0.length c0 ab (wrap64 (ab+8)) bU ql39 q39 hroom39;have aU:=Kd.C_mid (lo:=(ab:Int).toNat) (hi:=((wrap64 (ab+8)):Int).toNat) (c:=c0) hC39 (by omega) (by omega) hroom39;obtain⟨A39,hA39⟩:∃ A1,A1=(if c0=(ab:Int).toNat then A0 else (A0:Option Addr).map (·.add ((ab:Int).toNat * 1))):=⟨_,rfl⟩;obtain⟨c39,bb⟩:∃ c1,c1=c0 - (ab:Int).toNat:=⟨_,rfl⟩;have hy39:al.length=((wrap64 (ab+8)):Int).toNat - (ab:Int).toNat:=(by rw [Ny238.out,List.length_drop,List.length_take] <;> omega);rw [show ((l0).take ((wrap64 (ab+8)):Int).toNat).drop (ab:Int).toNat=al from Ny238.out.symm] at aU;replace aU:Kd.C (Kd.int .u8) _ A39 al.length al:=(by rw [hA39];exact aU);rw [← hy39,← hA39,← bb] at hcut39;have aE:=aK aU;have aG:=aK (show al.length≤c39 from by rw [hy39,bb];exact Nat.sub_le_sub_right (Nat.le_trans (by omega) hroom39) _);clear aU hC39 hroom39 hi039 hsz39 bb;have KY39:=aK hy39;have KA39:=aK hA39;clear hy39 hA39;replace q39:=eq_true q39)|((with_reducible refine gate_callee (f:=67) rfl ?_);refine gL (some 41) Try.func67 #[.slice A39 al.length c39] ?_;(with_reducible refine (float_Of.calls k _ _ al ap true _ ?side1 ?side2 A30.out).mono ?_);(case side1=>repeat (first|exact (Kd.C_below aE.out HB.out)|(with_reducible refine Kd.C_alloc ?_ _)|(with_reducible refine Kd.C_drewN ?_ _)|(with_reducible refine Kd.C_drew ?_)));(case side2=>exact aG.out);rintro e w' ⟨rfl,⟨nd,rfl⟩⟩;refine⟨_,rfl,?_⟩;(try (rw [drewN_self w38];generalize hq_:World.drewN w38 _=w38;have n0_:=bE aa hq_.symm;have n1_:=bE ac hq_.symm;have n2_:=bH HB hq_.symm;clear aa ac HB hq_;have aa:=n0_;have ac:=n1_;have HB:=n2_;clear n0_ n1_ n2_));obtain⟨fk,fl,fm,fp,fq,ft⟩:=bf3 (w:=w38) ac)|((with_reducible refine gate_callee (f:=48) rfl ?_);refine gL (some 64) Try.func48 #[.agg #[.int .i64 ae,.float .f64 ap,.string (⟨#[]⟩:ByteArray)]] ?_;(with_reducible refine (datum_May.calls ae ap (⟨#[]⟩:ByteArray) true _ A32.out).mono ?_);rintro e w41 ⟨rfl,hb⟩;refine⟨_,rfl,?_⟩;replace aa:=bB aa hb;replace ac:=aK (blk_below (g:=af) (o:=.cells #[.int .i64 ae,.float .f64 ap,.string (⟨#[]⟩:ByteArray)] 54 (0,0)) (bR ac) hb);replace HB:=bW HB hb;(try clear hb);(try clear hb2);(try clear hk);(try clear hi);obtain⟨fu,fv,fw,fz,fA,fB⟩:=bf3 (w:=w41) ac;obtain⟨fC,fD,fE,fF,fG,fH⟩:=bf3 (w:=w41) aa))
 refine bodyPost_ret (results_ctt rfl _ _ aj 54 #[.int .i64 ae,.float .f64 ap,.string (⟨#[]⟩:ByteArray)] (0,0) _ rfl (bR aa) Try.underlying54 rfl (by kernel_rfl)) rfl ?_
 exact xB HB
def cell_Get.f (k:Nat) (l0:List Int):Option (ByteArray × Int × Nat × ByteArray × Int × Int × Nat × ByteArray × Int × Int):=(num_GetText.f k l0).bind fun bt255=>(if bt255.2.2=0 then (if 0≤bt255.2.1 then (if bt255.2.1≤(l0.length:Int) then ((datum_Get.f k (l0.drop (bt255.2.1:Int).toNat)).bind fun bt262=>(if bt262.2.2.2.2=0 then (if 0≤(wrap64 (bt255.2.1+bt262.2.2.2.1)) then (if (wrap64 (bt255.2.1+bt262.2.2.2.1))≤(l0.length:Int) then ((num_Get.f k (l0.drop ((wrap64 (bt255.2.1+bt262.2.2.2.1)):Int).toNat)).bind fun bt271=>(if bt271.2.2=0 then (if bt271.1>0 then (if 0≤(wrap64 ((wrap64 (bt255.2.1+bt262.2.2.2.1))+bt271.2.1)) then (if (wrap64 ((wrap64 (bt255.2.1+bt262.2.2.2.1))+bt271.2.1))≤(l0.length:Int) then ((datum_Get.f k (l0.drop ((wrap64 ((wrap64 (bt255.2.1+bt262.2.2.2.1))+bt271.2.1)):Int).toNat)).bind fun bt278=>(if bt278.2.2.2.2=0 then ((cell_May.f k bt255.1 bt262.1 bt262.2.1 bt262.2.2.1 bt271.1 bt278.1 bt278.2.1 bt278.2.2.1).bind fun t283=>(if t283=true then (some (bt255.1,bt262.1,bt262.2.1,bt262.2.2.1,bt271.1,bt278.1,bt278.2.1,bt278.2.2.1,wrap64 ((wrap64 ((wrap64 (bt255.2.1+bt262.2.2.2.1))+bt271.2.1))+bt278.2.2.2.1),0)) else (some ((⟨#[]⟩:ByteArray),0,0,(⟨#[]⟩:ByteArray),0,0,0,(⟨#[]⟩:ByteArray),0,1)))) else (some ((⟨#[]⟩:ByteArray),0,0,(⟨#[]⟩:ByteArray),0,0,0,(⟨#[]⟩:ByteArray),0,bt278.2.2.2.2)))) else (none)) else (none)) else ((cell_May.f k bt255.1 bt262.1 bt262.2.1 bt262.2.2.1 bt271.1 0 0 (⟨#[]⟩:ByteArray)).bind fun t284=>(if t284=true then (some (bt255.1,bt262.1,bt262.2.1,bt262.2.2.1,bt271.1,0,0,(⟨#[]⟩:ByteArray),wrap64 ((wrap64 (bt255.2.1+bt262.2.2.2.1))+bt271.2.1),0)) else (some ((⟨#[]⟩:ByteArray),0,0,(⟨#[]⟩:ByteArray),0,0,0,(⟨#[]⟩:ByteArray),0,1))))) else (some ((⟨#[]⟩:ByteArray),0,0,(⟨#[]⟩:ByteArray),0,0,0,(⟨#[]⟩:ByteArray),0,bt271.2.2)))) else (none)) else (none)) else (some ((⟨#[]⟩:ByteArray),0,0,(⟨#[]⟩:ByteArray),0,0,0,(⟨#[]⟩:ByteArray),0,bt262.2.2.2.2)))) else (none)) else (none)) else (some ((⟨#[]⟩:ByteArray),0,0,(⟨#[]⟩:ByteArray),0,0,0,(⟨#[]⟩:ByteArray),0,bt255.2.2)))
theorem cell_Get.mono:∀ a0 k,LeO (cell_Get.f k a0) (cell_Get.f (k+1) a0):=by
 intro a0 k
 unfold cell_Get.f
 repeat' first
   | (with_reducible exact cell_May.mono _ _ _ _ _ _ _ _ _)
   | (with_reducible exact datum_Get.mono _ _)
   | (with_reducible exact num_Get.mono _ _)
   | (with_reducible exact num_GetText.mono _ _)
   | (with_reducible exact LeO.refl _)
   | (with_reducible exact LeO.none _)
   | (with_reducible refine LeO.ite ?_ ?_)
   | (with_reducible refine LeO.bind ?_ (fun _=>?_))
   | exact cell_May.mono _ _ _ _ _ _ _ _ _
   | exact datum_Get.mono _ _
   | exact num_Get.mono _ _
   | exact num_GetText.mono _ _
   | exact LeO.none _
   | refine LeO.ite ?_ ?_
   | refine LeO.bind ?_ (fun _=>?_)
set_option maxHeartbeats 8000000 in
set_option maxRecDepth 100000 in
theorem cell_Get.calls (k:Nat) (A0:Option Addr) (c0:Nat) (l0:List Int) (r1:ByteArray) (r2:Int) (r3:Nat) (r4:ByteArray) (r5:Int) (r6:Int) (r7:Nat) (r8:ByteArray) (r9:Int) (r10:Int) (w:World) (hr0:Kd.C (Kd.int .u8) w A0 l0.length l0) (hc0:l0.length≤c0) (h:cell_Get.f k l0=some (r1,r2,r3,r4,r5,r6,r7,r8,r9,r10)) :
  Calls Try.prog 39 #[.slice A0 l0.length c0] w fun e w'=>e = .returned (.tuple #[.agg #[.string r1,.int .i64 r2,.float .f64 r3,.string r4,.int .i64 r5,.int .i64 r6,.float .f64 r7,.string r8],.int .i64 r9,.int .i64 r10])∧Below w.heap.size w w':=by
 have hu62:=Try.underlying62
 have hu54:=Try.underlying54
 have HR0:=aK hr0
 have HC0:=aK hc0
 clear hr0 hc0
 have HB:=aK (Below.refl w.heap.size w)
 have H:((num_GetText.f k l0).bind fun aw=>(if aw.2.2=0 then (if 0≤aw.2.1 then (if aw.2.1≤(l0.length:Int) then ((datum_Get.f k (l0.drop (aw.2.1:Int).toNat)).bind fun ag=>(if ag.2.2.2.2=0 then (if 0≤(wrap64 (aw.2.1+ag.2.2.2.1)) then (if (wrap64 (aw.2.1+ag.2.2.2.1))≤(l0.length:Int) then ((num_Get.f k (l0.drop ((wrap64 (aw.2.1+ag.2.2.2.1)):Int).toNat)).bind fun af=>(if af.2.2=0 then (if af.1>0 then (if 0≤(wrap64 ((wrap64 (aw.2.1+ag.2.2.2.1))+af.2.1)) then (if (wrap64 ((wrap64 (aw.2.1+ag.2.2.2.1))+af.2.1))≤(l0.length:Int) then ((datum_Get.f k (l0.drop ((wrap64 ((wrap64 (aw.2.1+ag.2.2.2.1))+af.2.1)):Int).toNat)).bind fun ac=>(if ac.2.2.2.2=0 then ((cell_May.f k aw.1 ag.1 ag.2.1 ag.2.2.1 af.1 ac.1 ac.2.1 ac.2.2.1).bind fun au=>(if au=true then (some (aw.1,ag.1,ag.2.1,ag.2.2.1,af.1,ac.1,ac.2.1,ac.2.2.1,wrap64 ((wrap64 ((wrap64 (aw.2.1+ag.2.2.2.1))+af.2.1))+ac.2.2.2.1),0)) else (some ((⟨#[]⟩:ByteArray),0,0,(⟨#[]⟩:ByteArray),0,0,0,(⟨#[]⟩:ByteArray),0,1)))) else (some ((⟨#[]⟩:ByteArray),0,0,(⟨#[]⟩:ByteArray),0,0,0,(⟨#[]⟩:ByteArray),0,ac.2.2.2.2)))) else (none)) else (none)) else ((cell_May.f k aw.1 ag.1 ag.2.1 ag.2.2.1 af.1 0 0 (⟨#[]⟩:ByteArray)).bind fun aE=>(if aE=true then (some (aw.1,ag.1,ag.2.1,ag.2.2.1,af.1,0,0,(⟨#[]⟩:ByteArray),wrap64 ((wrap64 (aw.2.1+ag.2.2.2.1))+af.2.1),0)) else (some ((⟨#[]⟩:ByteArray),0,0,(⟨#[]⟩:ByteArray),0,0,0,(⟨#[]⟩:ByteArray),0,1))))) else (some ((⟨#[]⟩:ByteArray),0,0,(⟨#[]⟩:ByteArray),0,0,0,(⟨#[]⟩:ByteArray),0,af.2.2)))) else (none)) else (none)) else (some ((⟨#[]⟩:ByteArray),0,0,(⟨#[]⟩:ByteArray),0,0,0,(⟨#[]⟩:ByteArray),0,ag.2.2.2.2)))) else (none)) else (none)) else (some ((⟨#[]⟩:ByteArray),0,0,(⟨#[]⟩:ByteArray),0,0,0,(⟨#[]⟩:ByteArray),0,aw.2.2))))=some (r1,r2,r3,r4,r5,r6,r7,r8,r9,r10):=h
 clear h
 replace H:=oS H
 obtain⟨⟨ah,ae,aG⟩,A20,H⟩:=H
 replace H:(if aG=0 then (if 0≤ae then (if ae≤(l0.length:Int) then ((datum_Get.f k (l0.drop (ae:Int).toNat)).bind fun ag=>(if ag.2.2.2.2=0 then (if 0≤(wrap64 (ae+ag.2.2.2.1)) then (if (wrap64 (ae+ag.2.2.2.1))≤(l0.length:Int) then ((num_Get.f k (l0.drop ((wrap64 (ae+ag.2.2.2.1)):Int).toNat)).bind fun af=>(if af.2.2=0 then (if af.1>0 then (if 0≤(wrap64 ((wrap64 (ae+ag.2.2.2.1))+af.2.1)) then (if (wrap64 ((wrap64 (ae+ag.2.2.2.1))+af.2.1))≤(l0.length:Int) then ((datum_Get.f k (l0.drop ((wrap64 ((wrap64 (ae+ag.2.2.2.1))+af.2.1)):Int).toNat)).bind fun ac=>(if ac.2.2.2.2=0 then ((cell_May.f k ah ag.1 ag.2.1 ag.2.2.1 af.1 ac.1 ac.2.1 ac.2.2.1).bind fun au=>(if au=true then (some (ah,ag.1,ag.2.1,ag.2.2.1,af.1,ac.1,ac.2.1,ac.2.2.1,wrap64 ((wrap64 ((wrap64 (ae+ag.2.2.2.1))+af.2.1))+ac.2.2.2.1),0)) else (some ((⟨#[]⟩:ByteArray),0,0,(⟨#[]⟩:ByteArray),0,0,0,(⟨#[]⟩:ByteArray),0,1)))) else (some ((⟨#[]⟩:ByteArray),0,0,(⟨#[]⟩:ByteArray),0,0,0,(⟨#[]⟩:ByteArray),0,ac.2.2.2.2)))) else (none)) else (none)) else ((cell_May.f k ah ag.1 ag.2.1 ag.2.2.1 af.1 0 0 (⟨#[]⟩:ByteArray)).bind fun aE=>(if aE=true then (some (ah,ag.1,ag.2.1,ag.2.2.1,af.1,0,0,(⟨#[]⟩:ByteArray),wrap64 ((wrap64 (ae+ag.2.2.2.1))+af.2.1),0)) else (some ((⟨#[]⟩:ByteArray),0,0,(⟨#[]⟩:ByteArray),0,0,0,(⟨#[]⟩:ByteArray),0,1))))) else (some ((⟨#[]⟩:ByteArray),0,0,(⟨#[]⟩:ByteArray),0,0,0,(⟨#[]⟩:ByteArray),0,af.2.2)))) else (none)) else (none)) else (some ((⟨#[]⟩:ByteArray),0,0,(⟨#[]⟩:ByteArray),0,0,0,(⟨#[]⟩:ByteArray),0,ag.2.2.2.2)))) else (none)) else (none)) else (some ((⟨#[]⟩:ByteArray),0,0,(⟨#[]⟩:ByteArray),0,0,0,(⟨#[]⟩:ByteArray),0,aG)))=some (r1,r2,r3,r4,r5,r6,r7,r8,r9,r10):=H
 have A2:=aK A20
 clear A20
 by_cases c3:aG=0
 rotate_left
 ·rw [if_neg c3] at H
  have cN:(aG == 0)=false:=beq_eq_false_iff_ne.mpr c3
  have cO:(aG != 0)=true:=bne_iff_ne.mpr c3
  simp only [Option.some.injEq,Prod.mk.injEq] at H
  obtain⟨rfl,rfl,rfl,rfl,rfl,rfl,rfl,rfl,rfl,rfl⟩:=H
  go_enter Try.func39,Try.ntmps39
  go_wp2_with (first|((with_reducible refine gate_dst (N:=2) rfl ?_);refine box_event ?hg (N:=2) ?hd (cs:=#[.string (⟨#[]⟩:ByteArray),.int .i64 0,.float .f64 0,.string (⟨#[]⟩:ByteArray),.int .i64 0,.int .i64 0,.float .f64 0,.string (⟨#[]⟩:ByteArray)]) (t:=62) ?hr ?_;(case hd=>rfl);(case hg=>rfl);(case hr=>first|(go_simp;done)|(go_simp;rfl));intro ax hg pB hbox hb;have aa:=aK (hbox);have aW:=bZ HB hg;have az:=bZ HB hg;replace HB:=bW HB hb;clear hb hbox hg)|((with_reducible refine gate_dst (N:=5) rfl ?_);refine box_event ?hg (N:=5) ?hd (cs:=#[.string (⟨#[]⟩:ByteArray),.int .i64 0,.float .f64 0,.string (⟨#[]⟩:ByteArray),.int .i64 0,.int .i64 0,.float .f64 0,.string (⟨#[]⟩:ByteArray)]) (t:=62) ?hr ?_;(case hd=>rfl);(case hg=>rfl);(case hr=>first|(go_simp;done)|(go_simp;rfl));intro ai hg bi hbox hb;have ab:=aK (hbox);have aX:=bZ HB hg;have aA:=bZ HB hg;have aq:=bL aa hg;have ar:=bG aa hg;replace aa:=bB aa hb;replace HB:=bW HB hb;clear hb hbox hg)|((with_reducible refine gate_callee (f:=41) rfl ?_);refine gL (some 11) Try.func41 #[.slice A0 l0.length c0] ?_;(with_reducible refine (num_GetText.calls k _ _ l0 ah ae aG _ ?side1 ?side2 A2.out).mono ?_);(case side1=>repeat (first|exact (Kd.C_below HR0.out HB.out)|(with_reducible refine Kd.C_alloc ?_ _)|(with_reducible refine Kd.C_drewN ?_ _)|(with_reducible refine Kd.C_drew ?_)));(case side2=>exact HC0.out);rintro e w' ⟨rfl,⟨nd,rfl⟩⟩;refine⟨_,rfl,?_⟩;(try (rw [drewN_self bi];generalize hq_:World.drewN bi _=bi;have n0_:=bE aa hq_.symm;have n1_:=bE ab hq_.symm;have n2_:=bH HB hq_.symm;clear aa ab HB hq_;have aa:=n0_;have ab:=n1_;have HB:=n2_;clear n0_ n1_ n2_));have hnb127:=ar.out;have hnc127:=aq.out;obtain⟨cP,cQ,cR,cS,cT,cU,cV,cX,cY,cZ,da,db,dc,dd,de,df⟩:=bf8 (w:=bi) ab;obtain⟨dg,dh,di,dj,dk,dl,dm,dn,dp,dq,dr,dt,du,dv,dw,dx⟩:=bf8 (w:=bi) aa))
  refine bodyPost_ret (results_ctt rfl _ _ ax 62 #[.string (⟨#[]⟩:ByteArray),.int .i64 0,.float .f64 0,.string (⟨#[]⟩:ByteArray),.int .i64 0,.int .i64 0,.float .f64 0,.string (⟨#[]⟩:ByteArray)] (0,0) _ rfl (bR aa) Try.underlying62 rfl (by kernel_rfl)) rfl ?_
  exact xB HB
 rw [if_pos c3] at H
 have cN:(aG == 0)=true:=beq_iff_eq.mpr c3
 have cO:(aG != 0)=false:=bne_eq_false_iff_eq.mpr c3
 clear c3
 by_cases c4:0≤ae
 rotate_left
 ·rw [if_neg c4] at H
  exact absurd H (by simp)
 rw [if_pos c4] at H
 have pC:=eq_true c4
 have pD:decide (0≤ae)=true:=decide_eq_true c4
 clear c4
 by_cases c5:ae≤(l0.length:Int)
 rotate_left
 ·rw [if_neg c5] at H
  exact absurd H (by simp)
 rw [if_pos c5] at H
 have pE:=eq_true c5
 have pF:decide (ae≤(l0.length:Int))=true:=decide_eq_true c5
 clear c5
 obtain⟨am,hy258⟩:∃ y_:List Int,y_=(l0.drop (ae:Int).toNat):=⟨_,rfl⟩
 replace H:((datum_Get.f k am).bind fun ag=>(if ag.2.2.2.2=0 then (if 0≤(wrap64 (ae+ag.2.2.2.1)) then (if (wrap64 (ae+ag.2.2.2.1))≤(l0.length:Int) then ((num_Get.f k (l0.drop ((wrap64 (ae+ag.2.2.2.1)):Int).toNat)).bind fun af=>(if af.2.2=0 then (if af.1>0 then (if 0≤(wrap64 ((wrap64 (ae+ag.2.2.2.1))+af.2.1)) then (if (wrap64 ((wrap64 (ae+ag.2.2.2.1))+af.2.1))≤(l0.length:Int) then ((datum_Get.f k (l0.drop ((wrap64 ((wrap64 (ae+ag.2.2.2.1))+af.2.1)):Int).toNat)).bind fun ac=>(if ac.2.2.2.2=0 then ((cell_May.f k ah ag.1 ag.2.1 ag.2.2.1 af.1 ac.1 ac.2.1 ac.2.2.1).bind fun au=>(if au=true then (some (ah,ag.1,ag.2.1,ag.2.2.1,af.1,ac.1,ac.2.1,ac.2.2.1,wrap64 ((wrap64 ((wrap64 (ae+ag.2.2.2.1))+af.2.1))+ac.2.2.2.1),0)) else (some ((⟨#[]⟩:ByteArray),0,0,(⟨#[]⟩:ByteArray),0,0,0,(⟨#[]⟩:ByteArray),0,1)))) else (some ((⟨#[]⟩:ByteArray),0,0,(⟨#[]⟩:ByteArray),0,0,0,(⟨#[]⟩:ByteArray),0,ac.2.2.2.2)))) else (none)) else (none)) else ((cell_May.f k ah ag.1 ag.2.1 ag.2.2.1 af.1 0 0 (⟨#[]⟩:ByteArray)).bind fun aE=>(if aE=true then (some (ah,ag.1,ag.2.1,ag.2.2.1,af.1,0,0,(⟨#[]⟩:ByteArray),wrap64 ((wrap64 (ae+ag.2.2.2.1))+af.2.1),0)) else (some ((⟨#[]⟩:ByteArray),0,0,(⟨#[]⟩:ByteArray),0,0,0,(⟨#[]⟩:ByteArray),0,1))))) else (some ((⟨#[]⟩:ByteArray),0,0,(⟨#[]⟩:ByteArray),0,0,0,(⟨#[]⟩:ByteArray),0,af.2.2)))) else (none)) else (none)) else (some ((⟨#[]⟩:ByteArray),0,0,(⟨#[]⟩:ByteArray),0,0,0,(⟨#[]⟩:ByteArray),0,ag.2.2.2.2))))=some (r1,r2,r3,r4,r5,r6,r7,r8,r9,r10):=by first|(rw [hy258];with_reducible exact H)|(have H2_:=(Option.bind_some _ _).symm.trans H;rw [hy258];with_reducible exact H2_)|(have H2_:=(Option.bind_some _ _).symm.trans H;with_reducible exact H2_)|with_reducible exact H|(rw [hy258];exact H)|exact H
 have Ny258:=aK hy258
 clear hy258
 replace H:=oS H
 obtain⟨⟨aj,ak,al,ay,aI⟩,A60,H⟩:=H
 replace H:(if aI=0 then (if 0≤(wrap64 (ae+ay)) then (if (wrap64 (ae+ay))≤(l0.length:Int) then ((num_Get.f k (l0.drop ((wrap64 (ae+ay)):Int).toNat)).bind fun af=>(if af.2.2=0 then (if af.1>0 then (if 0≤(wrap64 ((wrap64 (ae+ay))+af.2.1)) then (if (wrap64 ((wrap64 (ae+ay))+af.2.1))≤(l0.length:Int) then ((datum_Get.f k (l0.drop ((wrap64 ((wrap64 (ae+ay))+af.2.1)):Int).toNat)).bind fun ac=>(if ac.2.2.2.2=0 then ((cell_May.f k ah aj ak al af.1 ac.1 ac.2.1 ac.2.2.1).bind fun au=>(if au=true then (some (ah,aj,ak,al,af.1,ac.1,ac.2.1,ac.2.2.1,wrap64 ((wrap64 ((wrap64 (ae+ay))+af.2.1))+ac.2.2.2.1),0)) else (some ((⟨#[]⟩:ByteArray),0,0,(⟨#[]⟩:ByteArray),0,0,0,(⟨#[]⟩:ByteArray),0,1)))) else (some ((⟨#[]⟩:ByteArray),0,0,(⟨#[]⟩:ByteArray),0,0,0,(⟨#[]⟩:ByteArray),0,ac.2.2.2.2)))) else (none)) else (none)) else ((cell_May.f k ah aj ak al af.1 0 0 (⟨#[]⟩:ByteArray)).bind fun aE=>(if aE=true then (some (ah,aj,ak,al,af.1,0,0,(⟨#[]⟩:ByteArray),wrap64 ((wrap64 (ae+ay))+af.2.1),0)) else (some ((⟨#[]⟩:ByteArray),0,0,(⟨#[]⟩:ByteArray),0,0,0,(⟨#[]⟩:ByteArray),0,1))))) else (some ((⟨#[]⟩:ByteArray),0,0,(⟨#[]⟩:ByteArray),0,0,0,(⟨#[]⟩:ByteArray),0,af.2.2)))) else (none)) else (none)) else (some ((⟨#[]⟩:ByteArray),0,0,(⟨#[]⟩:ByteArray),0,0,0,(⟨#[]⟩:ByteArray),0,aI)))=some (r1,r2,r3,r4,r5,r6,r7,r8,r9,r10):=H
 have A6:=aK A60
 clear A60
 by_cases c7:aI=0
 rotate_left
 ·rw [if_neg c7] at H
  have dy:(aI == 0)=false:=beq_eq_false_iff_ne.mpr c7
  have dz:(aI != 0)=true:=bne_iff_ne.mpr c7
  simp only [Option.some.injEq,Prod.mk.injEq] at H
  obtain⟨rfl,rfl,rfl,rfl,rfl,rfl,rfl,rfl,rfl,rfl⟩:=H
  go_enter Try.func39,Try.ntmps39
  go_wp2_with (first|((with_reducible refine gate_dst (N:=2) rfl ?_);refine box_event ?hg (N:=2) ?hd (cs:=#[.string (⟨#[]⟩:ByteArray),.int .i64 0,.float .f64 0,.string (⟨#[]⟩:ByteArray),.int .i64 0,.int .i64 0,.float .f64 0,.string (⟨#[]⟩:ByteArray)]) (t:=62) ?hr ?_;(case hd=>rfl);(case hg=>rfl);(case hr=>first|(go_simp;done)|(go_simp;rfl));intro ax hg pG hbox hb;have aa:=aK (hbox);have aW:=bZ HB hg;have az:=bZ HB hg;replace HB:=bW HB hb;clear hb hbox hg)|((with_reducible refine gate_dst (N:=5) rfl ?_);refine box_event ?hg (N:=5) ?hd (cs:=#[.string (⟨#[]⟩:ByteArray),.int .i64 0,.float .f64 0,.string (⟨#[]⟩:ByteArray),.int .i64 0,.int .i64 0,.float .f64 0,.string (⟨#[]⟩:ByteArray)]) (t:=62) ?hr ?_;(case hd=>rfl);(case hg=>rfl);(case hr=>first|(go_simp;done)|(go_simp;rfl));intro ai hg bj hbox hb;have ab:=aK (hbox);have aX:=bZ HB hg;have aA:=bZ HB hg;have aq:=bL aa hg;have ar:=bG aa hg;replace aa:=bB aa hb;replace HB:=bW HB hb;clear hb hbox hg)|((with_reducible refine gate_callee (f:=41) rfl ?_);refine gL (some 11) Try.func41 #[.slice A0 l0.length c0] ?_;(with_reducible refine (num_GetText.calls k _ _ l0 ah ae aG _ ?side1 ?side2 A2.out).mono ?_);(case side1=>repeat (first|exact (Kd.C_below HR0.out HB.out)|(with_reducible refine Kd.C_alloc ?_ _)|(with_reducible refine Kd.C_drewN ?_ _)|(with_reducible refine Kd.C_drew ?_)));(case side2=>exact HC0.out);rintro e w' ⟨rfl,⟨nd,rfl⟩⟩;refine⟨_,rfl,?_⟩;(try (rw [drewN_self bj];generalize hq_:World.drewN bj _=bj;have n0_:=bE aa hq_.symm;have n1_:=bE ab hq_.symm;have n2_:=bH HB hq_.symm;clear aa ab HB hq_;have aa:=n0_;have ab:=n1_;have HB:=n2_;clear n0_ n1_ n2_));have hnb118:=ar.out;have hnc118:=aq.out;obtain⟨dB,dC,dD,dE,dF,dG,dH,dI,dJ,dK,dL,dM,dN,dO,dP,dQ⟩:=bf8 (w:=bj) ab)|((with_reducible refine gate_store (t:=9) (p:=15) rfl ?_);refine store_event (t:=9) (p:=15) (v:=?vo_w120) (w1:=(bj.setCell ⟨ai,0,none⟩ (.string ah))) ?hg ?ho ?hn ?hr ?_;(case ho=>rfl);(case hg=>rfl);(case hn=>rfl);(case hr=>first|(go_simp;done)|(go_simp;rfl));intro dR hw;replace aa:=bE aa hw;replace ab:Aside0 (dR.heap[ai]? = some (.cells #[.string ah,.int .i64 0,.float .f64 0,.string (⟨#[]⟩:ByteArray),.int .i64 0,.int .i64 0,.float .f64 0,.string (⟨#[]⟩:ByteArray)] 62 (0,0))):=bP ab hw;replace HB:=bH HB hw;clear hw;have bJ:(ae:Int)≤((l0.length:Int):Int):=dA;obtain⟨i0121,hi0121,_,hsz121,_⟩:=info_parts info5;have hroom121:l0.length≤c0:=HC0.out;have hC121:Kd.C (Kd.int .u8) _ A0 l0.length l0:=HR0.out;have cE:(0:Int)≤(ae:Int):=dA;have hcut121:=cut_from (P:=Try.prog) 30 5 .i64 Try.underlying30 hi0121 1 hsz121 A0 l0.length c0 ae cE bJ;have aY:=Kd.C_drop (m:=(ae:Int).toNat) (c:=c0) hC121 (by omega) hroom121;obtain⟨cm,hA121⟩:∃ A1,A1=(if c0=(ae:Int).toNat then A0 else (A0:Option Addr).map (·.add ((ae:Int).toNat * 1))):=⟨_,rfl⟩;obtain⟨cn,bA⟩:∃ c1,c1=c0 - (ae:Int).toNat:=⟨_,rfl⟩;have hy121:am.length=l0.length - (ae:Int).toNat:=(by rw [Ny258.out,List.length_drop] <;> omega);rw [show (l0).drop (ae:Int).toNat=am from Ny258.out.symm] at aY;replace aY:Kd.C (Kd.int .u8) _ cm am.length am:=(by rw [hA121];exact aY);rw [← hy121,← hA121,← bA] at hcut121;have aC:=aK aY;have aD:=aK (show am.length≤cn from by rw [hy121,bA];exact Nat.sub_le_sub_right hroom121 _);clear aY hC121 hroom121 hi0121 hsz121 bA;have KY121:=aK hy121;have KA121:=aK hA121;clear hy121 hA121;replace bJ:=eq_true bJ)|((with_reducible refine gate_callee (f:=56) rfl ?_);refine gL (some 24) Try.func56 #[.slice cm am.length cn] ?_;(with_reducible refine (datum_Get.calls k _ _ am aj ak al ay aI _ ?side1 ?side2 A6.out).mono ?_);(case side1=>repeat (first|exact (Kd.C_below aC.out HB.out)|(with_reducible refine Kd.C_alloc ?_ _)|(with_reducible refine Kd.C_drewN ?_ _)|(with_reducible refine Kd.C_drew ?_)));(case side2=>exact aD.out);rintro e cp ⟨rfl,hb⟩;refine⟨_,rfl,?_⟩;replace aa:=bB aa hb;replace ab:=bB ab hb;replace HB:=bW HB hb;(try clear hb);(try clear hb2);(try clear hk);(try clear hi);obtain⟨dS,dT,dU,dV,dW,dX,dY,dZ,d3,d4,d5,d6,d7,d8,d9,ed⟩:=bf8 (w:=cp) ab;obtain⟨eg,eh,ei,ej,ek,el,em,ep,er,es,et,eu,ev,ex,ey,ez⟩:=bf8 (w:=cp) aa))
  refine bodyPost_ret (results_ctt rfl _ _ ax 62 #[.string (⟨#[]⟩:ByteArray),.int .i64 0,.float .f64 0,.string (⟨#[]⟩:ByteArray),.int .i64 0,.int .i64 0,.float .f64 0,.string (⟨#[]⟩:ByteArray)] (0,0) _ rfl (bR aa) Try.underlying62 rfl (by kernel_rfl)) rfl ?_
  exact xB HB
 rw [if_pos c7] at H
 have dy:(aI == 0)=true:=beq_iff_eq.mpr c7
 have dz:(aI != 0)=false:=bne_eq_false_iff_eq.mpr c7
 clear c7
 obtain⟨ji8,hji8⟩:∃ j_:Int,(wrap64 (ae+ay))=j_:=⟨_,rfl⟩
 replace H:(if 0≤(ji8) then (if (ji8)≤(l0.length:Int) then ((num_Get.f k (l0.drop ((ji8):Int).toNat)).bind fun af=>(if af.2.2=0 then (if af.1>0 then (if 0≤(wrap64 ((ji8)+af.2.1)) then (if (wrap64 ((ji8)+af.2.1))≤(l0.length:Int) then ((datum_Get.f k (l0.drop ((wrap64 ((ji8)+af.2.1)):Int).toNat)).bind fun ac=>(if ac.2.2.2.2=0 then ((cell_May.f k ah aj ak al af.1 ac.1 ac.2.1 ac.2.2.1).bind fun au=>(if au=true then (some (ah,aj,ak,al,af.1,ac.1,ac.2.1,ac.2.2.1,wrap64 ((wrap64 ((ji8)+af.2.1))+ac.2.2.2.1),0)) else (some ((⟨#[]⟩:ByteArray),0,0,(⟨#[]⟩:ByteArray),0,0,0,(⟨#[]⟩:ByteArray),0,1)))) else (some ((⟨#[]⟩:ByteArray),0,0,(⟨#[]⟩:ByteArray),0,0,0,(⟨#[]⟩:ByteArray),0,ac.2.2.2.2)))) else (none)) else (none)) else ((cell_May.f k ah aj ak al af.1 0 0 (⟨#[]⟩:ByteArray)).bind fun aE=>(if aE=true then (some (ah,aj,ak,al,af.1,0,0,(⟨#[]⟩:ByteArray),wrap64 ((ji8)+af.2.1),0)) else (some ((⟨#[]⟩:ByteArray),0,0,(⟨#[]⟩:ByteArray),0,0,0,(⟨#[]⟩:ByteArray),0,1))))) else (some ((⟨#[]⟩:ByteArray),0,0,(⟨#[]⟩:ByteArray),0,0,0,(⟨#[]⟩:ByteArray),0,af.2.2)))) else (none)) else (none))=some (r1,r2,r3,r4,r5,r6,r7,r8,r9,r10):=by first|(rw [hji8] at H;exact H)|(simp only [hji8] at H ⊢;exact H)
 (try rw [hji8] at A2)
 (try rw [hji8] at A6)
 have hji8w:(IntKind.i64.wrap (ae+ay))=ji8:=(i64_w _).trans hji8
 by_cases c9:0≤(ji8)
 rotate_left
 ·rw [if_neg c9] at H
  exact absurd H (by simp)
 rw [if_pos c9] at H
 have pH:=eq_true c9
 have pI:decide (0≤(ji8))=true:=decide_eq_true c9
 clear c9
 by_cases c10:(ji8)≤(l0.length:Int)
 rotate_left
 ·rw [if_neg c10] at H
  exact absurd H (by simp)
 rw [if_pos c10] at H
 have pu:=eq_true c10
 have pv:decide ((ji8)≤(l0.length:Int))=true:=decide_eq_true c10
 clear c10
 obtain⟨ap,hy267⟩:∃ y_:List Int,y_=(l0.drop ((ji8):Int).toNat):=⟨_,rfl⟩
 replace H:((num_Get.f k ap).bind fun af=>(if af.2.2=0 then (if af.1>0 then (if 0≤(wrap64 ((ji8)+af.2.1)) then (if (wrap64 ((ji8)+af.2.1))≤(l0.length:Int) then ((datum_Get.f k (l0.drop ((wrap64 ((ji8)+af.2.1)):Int).toNat)).bind fun ac=>(if ac.2.2.2.2=0 then ((cell_May.f k ah aj ak al af.1 ac.1 ac.2.1 ac.2.2.1).bind fun au=>(if au=true then (some (ah,aj,ak,al,af.1,ac.1,ac.2.1,ac.2.2.1,wrap64 ((wrap64 ((ji8)+af.2.1))+ac.2.2.2.1),0)) else (some ((⟨#[]⟩:ByteArray),0,0,(⟨#[]⟩:ByteArray),0,0,0,(⟨#[]⟩:ByteArray),0,1)))) else (some ((⟨#[]⟩:ByteArray),0,0,(⟨#[]⟩:ByteArray),0,0,0,(⟨#[]⟩:ByteArray),0,ac.2.2.2.2)))) else (none)) else (none)) else ((cell_May.f k ah aj ak al af.1 0 0 (⟨#[]⟩:ByteArray)).bind fun aE=>(if aE=true then (some (ah,aj,ak,al,af.1,0,0,(⟨#[]⟩:ByteArray),wrap64 ((ji8)+af.2.1),0)) else (some ((⟨#[]⟩:ByteArray),0,0,(⟨#[]⟩:ByteArray),0,0,0,(⟨#[]⟩:ByteArray),0,1))))) else (some ((⟨#[]⟩:ByteArray),0,0,(⟨#[]⟩:ByteArray),0,0,0,(⟨#[]⟩:ByteArray),0,af.2.2))))=some (r1,r2,r3,r4,r5,r6,r7,r8,r9,r10):=by first|(rw [hy267];with_reducible exact H)|(have H2_:=(Option.bind_some _ _).symm.trans H;rw [hy267];with_reducible exact H2_)|(have H2_:=(Option.bind_some _ _).symm.trans H;with_reducible exact H2_)|with_reducible exact H|(rw [hy267];exact H)|exact H
 have Ny267:=aK hy267
 clear hy267
 replace H:=oS H
 obtain⟨⟨ao,aH,aU⟩,cq,H⟩:=H
 replace H:(if aU=0 then (if ao>0 then (if 0≤(wrap64 ((ji8)+aH)) then (if (wrap64 ((ji8)+aH))≤(l0.length:Int) then ((datum_Get.f k (l0.drop ((wrap64 ((ji8)+aH)):Int).toNat)).bind fun ac=>(if ac.2.2.2.2=0 then ((cell_May.f k ah aj ak al ao ac.1 ac.2.1 ac.2.2.1).bind fun au=>(if au=true then (some (ah,aj,ak,al,ao,ac.1,ac.2.1,ac.2.2.1,wrap64 ((wrap64 ((ji8)+aH))+ac.2.2.2.1),0)) else (some ((⟨#[]⟩:ByteArray),0,0,(⟨#[]⟩:ByteArray),0,0,0,(⟨#[]⟩:ByteArray),0,1)))) else (some ((⟨#[]⟩:ByteArray),0,0,(⟨#[]⟩:ByteArray),0,0,0,(⟨#[]⟩:ByteArray),0,ac.2.2.2.2)))) else (none)) else (none)) else ((cell_May.f k ah aj ak al ao 0 0 (⟨#[]⟩:ByteArray)).bind fun aE=>(if aE=true then (some (ah,aj,ak,al,ao,0,0,(⟨#[]⟩:ByteArray),wrap64 ((ji8)+aH),0)) else (some ((⟨#[]⟩:ByteArray),0,0,(⟨#[]⟩:ByteArray),0,0,0,(⟨#[]⟩:ByteArray),0,1))))) else (some ((⟨#[]⟩:ByteArray),0,0,(⟨#[]⟩:ByteArray),0,0,0,(⟨#[]⟩:ByteArray),0,aU)))=some (r1,r2,r3,r4,r5,r6,r7,r8,r9,r10):=H
 have A11:=aK cq
 clear cq
 by_cases c12:aU=0
 rotate_left
 ·rw [if_neg c12] at H
  have cF:(aU == 0)=false:=beq_eq_false_iff_ne.mpr c12
  have cG:(aU != 0)=true:=bne_iff_ne.mpr c12
  simp only [Option.some.injEq,Prod.mk.injEq] at H
  obtain⟨rfl,rfl,rfl,rfl,rfl,rfl,rfl,rfl,rfl,rfl⟩:=H
  go_enter Try.func39,Try.ntmps39
  go_wp2_with (first|((with_reducible refine gate_dst (N:=2) rfl ?_);refine box_event ?hg (N:=2) ?hd (cs:=#[.string (⟨#[]⟩:ByteArray),.int .i64 0,.float .f64 0,.string (⟨#[]⟩:ByteArray),.int .i64 0,.int .i64 0,.float .f64 0,.string (⟨#[]⟩:ByteArray)]) (t:=62) ?hr ?_;(case hd=>rfl);(case hg=>rfl);(case hr=>first|(go_simp;done)|(go_simp;rfl));intro ax hg pJ hbox hb;have aa:=aK (hbox);have aW:=bZ HB hg;have az:=bZ HB hg;replace HB:=bW HB hb;clear hb hbox hg)|((with_reducible refine gate_dst (N:=5) rfl ?_);refine box_event ?hg (N:=5) ?hd (cs:=#[.string (⟨#[]⟩:ByteArray),.int .i64 0,.float .f64 0,.string (⟨#[]⟩:ByteArray),.int .i64 0,.int .i64 0,.float .f64 0,.string (⟨#[]⟩:ByteArray)]) (t:=62) ?hr ?_;(case hd=>rfl);(case hg=>rfl);(case hr=>first|(go_simp;done)|(go_simp;rfl));intro ai hg bk hbox hb;have ab:=aK (hbox);have aX:=bZ HB hg;have aA:=bZ HB hg;have aq:=bL aa hg;have ar:=bG aa hg;replace aa:=bB aa hb;replace HB:=bW HB hb;clear hb hbox hg)|((with_reducible refine gate_callee (f:=41) rfl ?_);refine gL (some 11) Try.func41 #[.slice A0 l0.length c0] ?_;(with_reducible refine (num_GetText.calls k _ _ l0 ah ae aG _ ?side1 ?side2 A2.out).mono ?_);(case side1=>repeat (first|exact (Kd.C_below HR0.out HB.out)|(with_reducible refine Kd.C_alloc ?_ _)|(with_reducible refine Kd.C_drewN ?_ _)|(with_reducible refine Kd.C_drew ?_)));(case side2=>exact HC0.out);rintro e w' ⟨rfl,⟨nd,rfl⟩⟩;refine⟨_,rfl,?_⟩;(try (rw [drewN_self bk];generalize hq_:World.drewN bk _=bk;have n0_:=bE aa hq_.symm;have n1_:=bE ab hq_.symm;have n2_:=bH HB hq_.symm;clear aa ab HB hq_;have aa:=n0_;have ab:=n1_;have HB:=n2_;clear n0_ n1_ n2_));have hnb106:=ar.out;have hnc106:=aq.out;obtain⟨eA,eB,eC,eD,eE,eF,eG,eH,eI,eJ,eK,eL,eM,eN,eO,eP⟩:=bf8 (w:=bk) ab)|((with_reducible refine gate_store (t:=9) (p:=15) rfl ?_);refine store_event (t:=9) (p:=15) (v:=?vo_w108) (w1:=(bk.setCell ⟨ai,0,none⟩ (.string ah))) ?hg ?ho ?hn ?hr ?_;(case ho=>rfl);(case hg=>rfl);(case hn=>rfl);(case hr=>first|(go_simp;done)|(go_simp;rfl));intro eQ hw;replace aa:=bE aa hw;replace ab:Aside0 (eQ.heap[ai]? = some (.cells #[.string ah,.int .i64 0,.float .f64 0,.string (⟨#[]⟩:ByteArray),.int .i64 0,.int .i64 0,.float .f64 0,.string (⟨#[]⟩:ByteArray)] 62 (0,0))):=bP ab hw;replace HB:=bH HB hw;clear hw;have bM:(ae:Int)≤((l0.length:Int):Int):=dA;obtain⟨i0109,hi0109,_,hsz109,_⟩:=info_parts info5;have hroom109:l0.length≤c0:=HC0.out;have hC109:Kd.C (Kd.int .u8) _ A0 l0.length l0:=HR0.out;have cH:(0:Int)≤(ae:Int):=dA;have hcut109:=cut_from (P:=Try.prog) 30 5 .i64 Try.underlying30 hi0109 1 hsz109 A0 l0.length c0 ae cH bM;have aZ:=Kd.C_drop (m:=(ae:Int).toNat) (c:=c0) hC109 (by omega) hroom109;obtain⟨ct,hA109⟩:∃ A1,A1=(if c0=(ae:Int).toNat then A0 else (A0:Option Addr).map (·.add ((ae:Int).toNat * 1))):=⟨_,rfl⟩;obtain⟨cu,bD⟩:∃ c1,c1=c0 - (ae:Int).toNat:=⟨_,rfl⟩;have hy109:am.length=l0.length - (ae:Int).toNat:=(by rw [Ny258.out,List.length_drop] <;> omega);rw [show (l0).drop (ae:Int).toNat=am from Ny258.out.symm] at aZ;replace aZ:Kd.C (Kd.int .u8) _ ct am.length am:=(by rw [hA109];exact aZ);rw [← hy109,← hA109,← bD] at hcut109;have aC:=aK aZ;have aD:=aK (show am.length≤cu from by rw [hy109,bD];exact Nat.sub_le_sub_right hroom109 _);clear aZ hC109 hroom109 hi0109 hsz109 bD;have KY109:=aK hy109;have KA109:=aK hA109;clear hy109 hA109;replace bM:=eq_true bM)|((with_reducible refine gate_callee (f:=56) rfl ?_);refine gL (some 24) Try.func56 #[.slice ct am.length cu] ?_;(with_reducible refine (datum_Get.calls k _ _ am aj ak al ay aI _ ?side1 ?side2 A6.out).mono ?_);(case side1=>repeat (first|exact (Kd.C_below aC.out HB.out)|(with_reducible refine Kd.C_alloc ?_ _)|(with_reducible refine Kd.C_drewN ?_ _)|(with_reducible refine Kd.C_drew ?_)));(case side2=>exact aD.out);rintro e cv ⟨rfl,hb⟩;refine⟨_,rfl,?_⟩;replace aa:=bB aa hb;replace ab:=bB ab hb;replace HB:=bW HB hb;(try clear hb);(try clear hb2);(try clear hk);(try clear hi);obtain⟨eR,eS,eT,eU,eV,eW,eX,eY,eZ,e8,e9,fa,fb,fd,fe,ff⟩:=bf8 (w:=cv) ab)|((with_reducible refine gate_store (t:=54) (p:=28) rfl ?_);refine store_event (t:=54) (p:=28) (v:=?vo_w112) (w1:=(((cv.setCell ⟨ai,1,none⟩ (.int .i64 aj)).setCell ⟨ai,2,none⟩ (.float .f64 ak)).setCell ⟨ai,3,none⟩ (.string al))) ?hg ?ho ?hn ?hr ?_;(case ho=>rfl);(case hg=>rfl);(case hn=>rfl);(case hr=>first|(go_simp;done)|(go_simp;rfl));intro bg hw;replace aa:=bE aa hw;replace ab:Aside0 (bg.heap[ai]? = some (.cells #[.string ah,.int .i64 aj,.float .f64 ak,.string al,.int .i64 0,.int .i64 0,.float .f64 0,.string (⟨#[]⟩:ByteArray)] 62 (0,0))):=bP ab hw;replace HB:=bH HB hw;clear hw;have bN:((ji8):Int)≤((l0.length:Int):Int):=dA;obtain⟨i0113,hi0113,_,hsz113,_⟩:=info_parts info5;have hroom113:l0.length≤c0:=HC0.out;have hC113:Kd.C (Kd.int .u8) _ A0 l0.length l0:=HR0.out;have cI:(0:Int)≤((ji8):Int):=dA;have hcut113:=cut_from (P:=Try.prog) 30 5 .i64 Try.underlying30 hi0113 1 hsz113 A0 l0.length c0 (ji8) cI bN;have ba:=Kd.C_drop (m:=((ji8):Int).toNat) (c:=c0) hC113 (by omega) hroom113;obtain⟨cw,hA113⟩:∃ A1,A1=(if c0=((ji8):Int).toNat then A0 else (A0:Option Addr).map (·.add (((ji8):Int).toNat * 1))):=⟨_,rfl⟩;obtain⟨cx,bF⟩:∃ c1,c1=c0 - ((ji8):Int).toNat:=⟨_,rfl⟩;have hy113:ap.length=l0.length - ((ji8):Int).toNat:=(by rw [Ny267.out,List.length_drop] <;> omega);rw [show (l0).drop ((ji8):Int).toNat=ap from Ny267.out.symm] at ba;replace ba:Kd.C (Kd.int .u8) _ cw ap.length ap:=(by rw [hA113];exact ba);rw [← hy113,← hA113,← bF] at hcut113;have aJ:=aK ba;have aM:=aK (show ap.length≤cx from by rw [hy113,bF];exact Nat.sub_le_sub_right hroom113 _);clear ba hC113 hroom113 hi0113 hsz113 bF;have KY113:=aK hy113;have KA113:=aK hA113;clear hy113 hA113;replace bN:=eq_true bN)|((with_reducible refine gate_callee (f:=55) rfl ?_);refine gL (some 40) Try.func55 #[.slice cw ap.length cx] ?_;(with_reducible refine (num_Get.calls k _ _ ap ao aH aU _ ?side1 ?side2 A11.out).mono ?_);(case side1=>repeat (first|exact (Kd.C_below aJ.out HB.out)|(with_reducible refine Kd.C_alloc ?_ _)|(with_reducible refine Kd.C_drewN ?_ _)|(with_reducible refine Kd.C_drew ?_)));(case side2=>exact aM.out);rintro e w' ⟨rfl,⟨nd,rfl⟩⟩;refine⟨_,rfl,?_⟩;(try (rw [drewN_self bg];generalize hq_:World.drewN bg _=bg;have n0_:=bE aa hq_.symm;have n1_:=bE ab hq_.symm;have n2_:=bH HB hq_.symm;clear aa ab HB hq_;have aa:=n0_;have ab:=n1_;have HB:=n2_;clear n0_ n1_ n2_));obtain⟨fg,fh,fi,fj,fk,fl,fm,fp,fq,ft,fu,fv,fw,fz,fA,fB⟩:=bf8 (w:=bg) ab;obtain⟨fC,fD,fE,fF,fG,fH,fI,fJ,fK,fL,fM,fN,fO,fP,fQ,fR⟩:=bf8 (w:=bg) aa))
  refine bodyPost_ret (results_ctt rfl _ _ ax 62 #[.string (⟨#[]⟩:ByteArray),.int .i64 0,.float .f64 0,.string (⟨#[]⟩:ByteArray),.int .i64 0,.int .i64 0,.float .f64 0,.string (⟨#[]⟩:ByteArray)] (0,0) _ rfl (bR aa) Try.underlying62 rfl (by kernel_rfl)) rfl ?_
  exact⟨by first|rfl|(simp [errW_none,errW_some] <;> rfl)|(simp only [← hji8];first|rfl|(simp [errW_none,errW_some] <;> rfl))|(simp [*,errW_none,errW_some] <;> rfl),by repeat (first|(with_reducible first|exact HB.out|apply below_alloc|apply pw_below_drewN|apply below_drew1|refine below_set ?_ az.out|refine below_set ?_ aA.out)|exact HB.out)⟩
 rw [if_pos c12] at H
 have cF:(aU == 0)=true:=beq_iff_eq.mpr c12
 have cG:(aU != 0)=false:=bne_eq_false_iff_eq.mpr c12
 clear c12
 by_cases c13:ao>0
 rotate_left
 ·rw [if_neg c13] at H
  have cJ:decide (0<ao)=false:=decide_eq_false c13
  clear c13
  replace H:=oS H
  obtain⟨aE,cz,H⟩:=H
  replace H:(if aE=true then (some (ah,aj,ak,al,ao,0,0,(⟨#[]⟩:ByteArray),wrap64 ((ji8)+aH),0)) else (some ((⟨#[]⟩:ByteArray),0,0,(⟨#[]⟩:ByteArray),0,0,0,(⟨#[]⟩:ByteArray),0,1)))=some (r1,r2,r3,r4,r5,r6,r7,r8,r9,r10):=H
  have A75:=aK cz
  clear cz
  by_cases c76:aE=true
  ·subst c76
   have H1:(some (ah,aj,ak,al,ao,0,0,(⟨#[]⟩:ByteArray),wrap64 ((ji8)+aH),0))=some (r1,r2,r3,r4,r5,r6,r7,r8,r9,r10):=by rw [if_pos rfl] at H;exact H
   clear H
   have H:=H1
   clear H1
   simp only [Option.some.injEq,Prod.mk.injEq] at H
   obtain⟨rfl,rfl,rfl,rfl,rfl,rfl,rfl,rfl,rfl,rfl⟩:=H
   go_enter Try.func39,Try.ntmps39
   go_wp2_with (first|((with_reducible refine gate_dst (N:=2) rfl ?_);refine box_event ?hg (N:=2) ?hd (cs:=#[.string (⟨#[]⟩:ByteArray),.int .i64 0,.float .f64 0,.string (⟨#[]⟩:ByteArray),.int .i64 0,.int .i64 0,.float .f64 0,.string (⟨#[]⟩:ByteArray)]) (t:=62) ?hr ?_;(case hd=>rfl);(case hg=>rfl);(case hr=>first|(go_simp;done)|(go_simp;rfl));intro ax hg w77 hbox hb;have aa:=aK (hbox);have aW:=bZ HB hg;have az:=bZ HB hg;replace HB:=bW HB hb;clear hb hbox hg)|((with_reducible refine gate_dst (N:=5) rfl ?_);refine box_event ?hg (N:=5) ?hd (cs:=#[.string (⟨#[]⟩:ByteArray),.int .i64 0,.float .f64 0,.string (⟨#[]⟩:ByteArray),.int .i64 0,.int .i64 0,.float .f64 0,.string (⟨#[]⟩:ByteArray)]) (t:=62) ?hr ?_;(case hd=>rfl);(case hg=>rfl);(case hr=>first|(go_simp;done)|(go_simp;rfl));intro ai hg w78 hbox hb;have ab:=aK (hbox);have aX:=bZ HB hg;have aA:=bZ HB hg;have aq:=bL aa hg;have ar:=bG aa hg;replace aa:=bB aa hb;replace HB:=bW HB hb;clear hb hbox hg)|((with_reducible refine gate_callee (f:=41) rfl ?_);refine gL (some 11) Try.func41 #[.slice A0 l0.length c0] ?_;(with_reducible refine (num_GetText.calls k _ _ l0 ah ae aG _ ?side1 ?side2 A2.out).mono ?_);(case side1=>repeat (first|exact (Kd.C_below HR0.out HB.out)|(with_reducible refine Kd.C_alloc ?_ _)|(with_reducible refine Kd.C_drewN ?_ _)|(with_reducible refine Kd.C_drew ?_)));(case side2=>exact HC0.out);rintro e w' ⟨rfl,⟨nd,rfl⟩⟩;refine⟨_,rfl,?_⟩;(try (rw [drewN_self w78];generalize hq_:World.drewN w78 _=w78;have n0_:=bE aa hq_.symm;have n1_:=bE ab hq_.symm;have n2_:=bH HB hq_.symm;clear aa ab HB hq_;have aa:=n0_;have ab:=n1_;have HB:=n2_;clear n0_ n1_ n2_));have hnb79:=ar.out;have hnc79:=aq.out;obtain⟨gM,gN,gO,gP,gQ,gR,gS,gT,gU,gV,gW,gX,gY,gZ,g4,g5⟩:=bf8 (w:=w78) ab)|((with_reducible refine gate_store (t:=9) (p:=15) rfl ?_);refine store_event (t:=9) (p:=15) (v:=?vo_w81) (w1:=(w78.setCell ⟨ai,0,none⟩ (.string ah))) ?hg ?ho ?hn ?hr ?_;(case ho=>rfl);(case hg=>rfl);(case hn=>rfl);(case hr=>first|(go_simp;done)|(go_simp;rfl));intro w81 hw;replace aa:=bE aa hw;replace ab:Aside0 (w81.heap[ai]? = some (.cells #[.string ah,.int .i64 0,.float .f64 0,.string (⟨#[]⟩:ByteArray),.int .i64 0,.int .i64 0,.float .f64 0,.string (⟨#[]⟩:ByteArray)] 62 (0,0))):=bP ab hw;replace HB:=bH HB hw;clear hw;have q82:(ae:Int)≤((l0.length:Int):Int):=dA;obtain⟨i082,hi082,_,hsz82,_⟩:=info_parts info5;have hroom82:l0.length≤c0:=HC0.out;have hC82:Kd.C (Kd.int .u8) _ A0 l0.length l0:=HR0.out;have fS:(0:Int)≤(ae:Int):=dA;have hcut82:=cut_from (P:=Try.prog) 30 5 .i64 Try.underlying30 hi082 1 hsz82 A0 l0.length c0 ae fS q82;have bl:=Kd.C_drop (m:=(ae:Int).toNat) (c:=c0) hC82 (by omega) hroom82;obtain⟨A82,hA82⟩:∃ A1,A1=(if c0=(ae:Int).toNat then A0 else (A0:Option Addr).map (·.add ((ae:Int).toNat * 1))):=⟨_,rfl⟩;obtain⟨c82,bO⟩:∃ c1,c1=c0 - (ae:Int).toNat:=⟨_,rfl⟩;have hy82:am.length=l0.length - (ae:Int).toNat:=(by rw [Ny258.out,List.length_drop] <;> omega);rw [show (l0).drop (ae:Int).toNat=am from Ny258.out.symm] at bl;replace bl:Kd.C (Kd.int .u8) _ A82 am.length am:=(by rw [hA82];exact bl);rw [← hy82,← hA82,← bO] at hcut82;have aC:=aK bl;have aD:=aK (show am.length≤c82 from by rw [hy82,bO];exact Nat.sub_le_sub_right hroom82 _);clear bl hC82 hroom82 hi082 hsz82 bO;have KY82:=aK hy82;have KA82:=aK hA82;clear hy82 hA82;replace q82:=eq_true q82)|((with_reducible refine gate_callee (f:=56) rfl ?_);refine gL (some 24) Try.func56 #[.slice A82 am.length c82] ?_;(with_reducible refine (datum_Get.calls k _ _ am aj ak al ay aI _ ?side1 ?side2 A6.out).mono ?_);(case side1=>repeat (first|exact (Kd.C_below aC.out HB.out)|(with_reducible refine Kd.C_alloc ?_ _)|(with_reducible refine Kd.C_drewN ?_ _)|(with_reducible refine Kd.C_drew ?_)));(case side2=>exact aD.out);rintro e w83 ⟨rfl,hb⟩;refine⟨_,rfl,?_⟩;replace aa:=bB aa hb;replace ab:=bB ab hb;replace HB:=bW HB hb;(try clear hb);(try clear hb2);(try clear hk);(try clear hi);obtain⟨g6,g7,g8,g9,hD,hG,hH,hI,hJ,hL,hO,hP,hX,hY,hZ,ia⟩:=bf8 (w:=w83) ab)|((with_reducible refine gate_store (t:=54) (p:=28) rfl ?_);refine store_event (t:=54) (p:=28) (v:=?vo_w85) (w1:=(((w83.setCell ⟨ai,1,none⟩ (.int .i64 aj)).setCell ⟨ai,2,none⟩ (.float .f64 ak)).setCell ⟨ai,3,none⟩ (.string al))) ?hg ?ho ?hn ?hr ?_;(case ho=>rfl);(case hg=>rfl);(case hn=>rfl);(case hr=>first|(go_simp;done)|(go_simp;rfl));intro w85 hw;replace aa:=bE aa hw;replace ab:Aside0 (w85.heap[ai]? = some (.cells #[.string ah,.int .i64 aj,.float .f64 ak,.string al,.int .i64 0,.int .i64 0,.float .f64 0,.string (⟨#[]⟩:ByteArray)] 62 (0,0))):=bP ab hw;replace HB:=bH HB hw;clear hw;have q86:((ji8):Int)≤((l0.length:Int):Int):=dA;obtain⟨i086,hi086,_,hsz86,_⟩:=info_parts info5;have hroom86:l0.length≤c0:=HC0.out;have hC86:Kd.C (Kd.int .u8) _ A0 l0.length l0:=HR0.out;have fT:(0:Int)≤((ji8):Int):=dA;have hcut86:=cut_from (P:=Try.prog) 30 5 .i64 Try.underlying30 hi086 1 hsz86 A0 l0.length c0 (ji8) fT q86;have bm:=Kd.C_drop (m:=((ji8):Int).toNat) (c:=c0) hC86 (by omega) hroom86;obtain⟨A86,hA86⟩:∃ A1,A1=(if c0=((ji8):Int).toNat then A0 else (A0:Option Addr).map (·.add (((ji8):Int).toNat * 1))):=⟨_,rfl⟩;obtain⟨c86,bU⟩:∃ c1,c1=c0 - ((ji8):Int).toNat:=⟨_,rfl⟩;have hy86:ap.length=l0.length - ((ji8):Int).toNat:=(by rw [Ny267.out,List.length_drop] <;> omega);rw [show (l0).drop ((ji8):Int).toNat=ap from Ny267.out.symm] at bm;replace bm:Kd.C (Kd.int .u8) _ A86 ap.length ap:=(by rw [hA86];exact bm);rw [← hy86,← hA86,← bU] at hcut86;have aJ:=aK bm;have aM:=aK (show ap.length≤c86 from by rw [hy86,bU];exact Nat.sub_le_sub_right hroom86 _);clear bm hC86 hroom86 hi086 hsz86 bU;have KY86:=aK hy86;have KA86:=aK hA86;clear hy86 hA86;replace q86:=eq_true q86)|((with_reducible refine gate_callee (f:=55) rfl ?_);refine gL (some 40) Try.func55 #[.slice A86 ap.length c86] ?_;(with_reducible refine (num_Get.calls k _ _ ap ao aH aU _ ?side1 ?side2 A11.out).mono ?_);(case side1=>repeat (first|exact (Kd.C_below aJ.out HB.out)|(with_reducible refine Kd.C_alloc ?_ _)|(with_reducible refine Kd.C_drewN ?_ _)|(with_reducible refine Kd.C_drew ?_)));(case side2=>exact aM.out);rintro e w' ⟨rfl,⟨nd,rfl⟩⟩;refine⟨_,rfl,?_⟩;(try (rw [drewN_self w85];generalize hq_:World.drewN w85 _=w85;have n0_:=bE aa hq_.symm;have n1_:=bE ab hq_.symm;have n2_:=bH HB hq_.symm;clear aa ab HB hq_;have aa:=n0_;have ab:=n1_;have HB:=n2_;clear n0_ n1_ n2_));obtain⟨ib,ic,ie,ig,ij,ik,il,im,io,ip,iq,iu,iv,iw,ix,iy⟩:=bf8 (w:=w85) ab)|((with_reducible refine gate_callee (f:=33) rfl ?_);refine gL (some 72) Try.func33 #[.agg #[.string ah,.int .i64 aj,.float .f64 ak,.string al,.int .i64 ao,.int .i64 0,.float .f64 0,.string (⟨#[]⟩:ByteArray)]] ?_;(with_reducible refine (cell_May.calls k ah aj ak al ao 0 0 (⟨#[]⟩:ByteArray) true _ A75.out).mono ?_);rintro e w88 ⟨rfl,hb⟩;refine⟨_,rfl,?_⟩;replace aa:=bB aa hb;replace ab:=aK (blk_below (g:=ai) (o:=.cells #[.string ah,.int .i64 aj,.float .f64 ak,.string al,.int .i64 ao,.int .i64 0,.float .f64 0,.string (⟨#[]⟩:ByteArray)] 62 (0,0)) (bR ab) hb);replace HB:=bW HB hb;(try clear hb);(try clear hb2);(try clear hk);(try clear hi);obtain⟨iz,iA,iB,iC,iD,iE,iF,iG,iH,iI,iJ,iK,iL,iM,iN,iO⟩:=bf8 (w:=w88) ab;obtain⟨iP,iQ,iR,iS,iT,iU,iV,iW,iX,iY,iZ,i5,i6,i7,i8,i9⟩:=bf8 (w:=w88) aa))
   refine bodyPost_ret (results_ctt rfl _ _ ax 62 #[.string ah,.int .i64 aj,.float .f64 ak,.string al,.int .i64 ao,.int .i64 0,.float .f64 0,.string (⟨#[]⟩:ByteArray)] (0,0) _ rfl (bR aa) Try.underlying62 rfl (by kernel_rfl)) rfl ?_
   exact⟨by first|rfl|(simp [errW_none,errW_some] <;> rfl)|(simp only [← hji8];first|rfl|(simp [errW_none,errW_some] <;> rfl))|(simp [*,errW_none,errW_some] <;> rfl),by repeat (first|(with_reducible first|exact HB.out|apply below_alloc|apply pw_below_drewN|apply below_drew1|refine below_set ?_ az.out|refine below_set ?_ aA.out)|exact HB.out)⟩
  replace c76:=Bool.eq_false_iff.mpr c76
  subst c76
  have H1:(some ((⟨#[]⟩:ByteArray),0,0,(⟨#[]⟩:ByteArray),0,0,0,(⟨#[]⟩:ByteArray),0,1))=some (r1,r2,r3,r4,r5,r6,r7,r8,r9,r10):=by rw [if_neg (show ¬ (false=true) by decide)] at H;exact H
  clear H
  have H:=H1
  clear H1
  simp only [Option.some.injEq,Prod.mk.injEq] at H
  obtain⟨rfl,rfl,rfl,rfl,rfl,rfl,rfl,rfl,rfl,rfl⟩:=H
  go_enter Try.func39,Try.ntmps39
  go_wp2_with (first|((with_reducible refine gate_dst (N:=2) rfl ?_);refine box_event ?hg (N:=2) ?hd (cs:=#[.string (⟨#[]⟩:ByteArray),.int .i64 0,.float .f64 0,.string (⟨#[]⟩:ByteArray),.int .i64 0,.int .i64 0,.float .f64 0,.string (⟨#[]⟩:ByteArray)]) (t:=62) ?hr ?_;(case hd=>rfl);(case hg=>rfl);(case hr=>first|(go_simp;done)|(go_simp;rfl));intro ax hg w91 hbox hb;have aa:=aK (hbox);have aW:=bZ HB hg;have az:=bZ HB hg;replace HB:=bW HB hb;clear hb hbox hg)|((with_reducible refine gate_dst (N:=5) rfl ?_);refine box_event ?hg (N:=5) ?hd (cs:=#[.string (⟨#[]⟩:ByteArray),.int .i64 0,.float .f64 0,.string (⟨#[]⟩:ByteArray),.int .i64 0,.int .i64 0,.float .f64 0,.string (⟨#[]⟩:ByteArray)]) (t:=62) ?hr ?_;(case hd=>rfl);(case hg=>rfl);(case hr=>first|(go_simp;done)|(go_simp;rfl));intro ai hg w92 hbox hb;have ab:=aK (hbox);have aX:=bZ HB hg;have aA:=bZ HB hg;have aq:=bL aa hg;have ar:=bG aa hg;replace aa:=bB aa hb;replace HB:=bW HB hb;clear hb hbox hg)|((with_reducible refine gate_callee (f:=41) rfl ?_);refine gL (some 11) Try.func41 #[.slice A0 l0.length c0] ?_;(with_reducible refine (num_GetText.calls k _ _ l0 ah ae aG _ ?side1 ?side2 A2.out).mono ?_);(case side1=>repeat (first|exact (Kd.C_below HR0.out HB.out)|(with_reducible refine Kd.C_alloc ?_ _)|(with_reducible refine Kd.C_drewN ?_ _)|(with_reducible refine Kd.C_drew ?_)));(case side2=>exact HC0.out);rintro e w' ⟨rfl,⟨nd,rfl⟩⟩;refine⟨_,rfl,?_⟩;(try (rw [drewN_self w92];generalize hq_:World.drewN w92 _=w92;have n0_:=bE aa hq_.symm;have n1_:=bE ab hq_.symm;have n2_:=bH HB hq_.symm;clear aa ab HB hq_;have aa:=n0_;have ab:=n1_;have HB:=n2_;clear n0_ n1_ n2_));have hnb93:=ar.out;have hnc93:=aq.out;obtain⟨ja,jb,jc,jd,je,jf,jg,jh,ji,jj,jk,jl,jm,jn,jo,jp⟩:=bf8 (w:=w92) ab)|((with_reducible refine gate_store (t:=9) (p:=15) rfl ?_);refine store_event (t:=9) (p:=15) (v:=?vo_w95) (w1:=(w92.setCell ⟨ai,0,none⟩ (.string ah))) ?hg ?ho ?hn ?hr ?_;(case ho=>rfl);(case hg=>rfl);(case hn=>rfl);(case hr=>first|(go_simp;done)|(go_simp;rfl));intro w95 hw;replace aa:=bE aa hw;replace ab:Aside0 (w95.heap[ai]? = some (.cells #[.string ah,.int .i64 0,.float .f64 0,.string (⟨#[]⟩:ByteArray),.int .i64 0,.int .i64 0,.float .f64 0,.string (⟨#[]⟩:ByteArray)] 62 (0,0))):=bP ab hw;replace HB:=bH HB hw;clear hw;have q96:(ae:Int)≤((l0.length:Int):Int):=dA;obtain⟨i096,hi096,_,hsz96,_⟩:=info_parts info5;have hroom96:l0.length≤c0:=HC0.out;have hC96:Kd.C (Kd.int .u8) _ A0 l0.length l0:=HR0.out;have fU:(0:Int)≤(ae:Int):=dA;have hcut96:=cut_from (P:=Try.prog) 30 5 .i64 Try.underlying30 hi096 1 hsz96 A0 l0.length c0 ae fU q96;have bn:=Kd.C_drop (m:=(ae:Int).toNat) (c:=c0) hC96 (by omega) hroom96;obtain⟨A96,hA96⟩:∃ A1,A1=(if c0=(ae:Int).toNat then A0 else (A0:Option Addr).map (·.add ((ae:Int).toNat * 1))):=⟨_,rfl⟩;obtain⟨c96,bX⟩:∃ c1,c1=c0 - (ae:Int).toNat:=⟨_,rfl⟩;have hy96:am.length=l0.length - (ae:Int).toNat:=(by rw [Ny258.out,List.length_drop] <;> omega);rw [show (l0).drop (ae:Int).toNat=am from Ny258.out.symm] at bn;replace bn:Kd.C (Kd.int .u8) _ A96 am.length am:=(by rw [hA96];exact bn);rw [← hy96,← hA96,← bX] at hcut96;have aC:=aK bn;have aD:=aK (show am.length≤c96 from by rw [hy96,bX];exact Nat.sub_le_sub_right hroom96 _);clear bn hC96 hroom96 hi096 hsz96 bX;have KY96:=aK hy96;have KA96:=aK hA96;clear hy96 hA96;replace q96:=eq_true q96)|((with_reducible refine gate_callee (f:=56) rfl ?_);refine gL (some 24) Try.func56 #[.slice A96 am.length c96] ?_;(with_reducible refine (datum_Get.calls k _ _ am aj ak al ay aI _ ?side1 ?side2 A6.out).mono ?_);(case side1=>repeat (first|exact (Kd.C_below aC.out HB.out)|(with_reducible refine Kd.C_alloc ?_ _)|(with_reducible refine Kd.C_drewN ?_ _)|(with_reducible refine Kd.C_drew ?_)));(case side2=>exact aD.out);rintro e w97 ⟨rfl,hb⟩;refine⟨_,rfl,?_⟩;replace aa:=bB aa hb;replace ab:=bB ab hb;replace HB:=bW HB hb;(try clear hb);(try clear hb2);(try clear hk);(try clear hi);obtain⟨jq,jr,js,jt,ju,jv,jw,jx,jy,jz,jA,jB,jC,jD,jE,jF⟩:=bf8 (w:=w97) ab)|((with_reducible refine gate_store (t:=54) (p:=28) rfl ?_);refine store_event (t:=54) (p:=28) (v:=?vo_w99) (w1:=(((w97.setCell ⟨ai,1,none⟩ (.int .i64 aj)).setCell ⟨ai,2,none⟩ (.float .f64 ak)).setCell ⟨ai,3,none⟩ (.string al))) ?hg ?ho ?hn ?hr ?_;(case ho=>rfl);(case hg=>rfl);(case hn=>rfl);(case hr=>first|(go_simp;done)|(go_simp;rfl));intro w99 hw;replace aa:=bE aa hw;replace ab:Aside0 (w99.heap[ai]? = some (.cells #[.string ah,.int .i64 aj,.float .f64 ak,.string al,.int .i64 0,.int .i64 0,.float .f64 0,.string (⟨#[]⟩:ByteArray)] 62 (0,0))):=bP ab hw;replace HB:=bH HB hw;clear hw;have bY:((ji8):Int)≤((l0.length:Int):Int):=dA;obtain⟨i0100,hi0100,_,hsz100,_⟩:=info_parts info5;have hroom100:l0.length≤c0:=HC0.out;have hC100:Kd.C (Kd.int .u8) _ A0 l0.length l0:=HR0.out;have cK:(0:Int)≤((ji8):Int):=dA;have hcut100:=cut_from (P:=Try.prog) 30 5 .i64 Try.underlying30 hi0100 1 hsz100 A0 l0.length c0 (ji8) cK bY;have bb:=Kd.C_drop (m:=((ji8):Int).toNat) (c:=c0) hC100 (by omega) hroom100;obtain⟨cA,hA100⟩:∃ A1,A1=(if c0=((ji8):Int).toNat then A0 else (A0:Option Addr).map (·.add (((ji8):Int).toNat * 1))):=⟨_,rfl⟩;obtain⟨cB,bI⟩:∃ c1,c1=c0 - ((ji8):Int).toNat:=⟨_,rfl⟩;have hy100:ap.length=l0.length - ((ji8):Int).toNat:=(by rw [Ny267.out,List.length_drop] <;> omega);rw [show (l0).drop ((ji8):Int).toNat=ap from Ny267.out.symm] at bb;replace bb:Kd.C (Kd.int .u8) _ cA ap.length ap:=(by rw [hA100];exact bb);rw [← hy100,← hA100,← bI] at hcut100;have aJ:=aK bb;have aM:=aK (show ap.length≤cB from by rw [hy100,bI];exact Nat.sub_le_sub_right hroom100 _);clear bb hC100 hroom100 hi0100 hsz100 bI;have KY100:=aK hy100;have KA100:=aK hA100;clear hy100 hA100;replace bY:=eq_true bY)|((with_reducible refine gate_callee (f:=55) rfl ?_);refine gL (some 40) Try.func55 #[.slice cA ap.length cB] ?_;(with_reducible refine (num_Get.calls k _ _ ap ao aH aU _ ?side1 ?side2 A11.out).mono ?_);(case side1=>repeat (first|exact (Kd.C_below aJ.out HB.out)|(with_reducible refine Kd.C_alloc ?_ _)|(with_reducible refine Kd.C_drewN ?_ _)|(with_reducible refine Kd.C_drew ?_)));(case side2=>exact aM.out);rintro e w' ⟨rfl,⟨nd,rfl⟩⟩;refine⟨_,rfl,?_⟩;(try (rw [drewN_self w99];generalize hq_:World.drewN w99 _=w99;have n0_:=bE aa hq_.symm;have n1_:=bE ab hq_.symm;have n2_:=bH HB hq_.symm;clear aa ab HB hq_;have aa:=n0_;have ab:=n1_;have HB:=n2_;clear n0_ n1_ n2_));obtain⟨fV,fW,fX,fY,fZ,f4,f5,f6,f7,f8,ga,gb,gc,gf,gg,gh⟩:=bf8 (w:=w99) ab)|((with_reducible refine gate_callee (f:=33) rfl ?_);refine gL (some 72) Try.func33 #[.agg #[.string ah,.int .i64 aj,.float .f64 ak,.string al,.int .i64 ao,.int .i64 0,.float .f64 0,.string (⟨#[]⟩:ByteArray)]] ?_;(with_reducible refine (cell_May.calls k ah aj ak al ao 0 0 (⟨#[]⟩:ByteArray) false _ A75.out).mono ?_);rintro e gi ⟨rfl,hb⟩;refine⟨_,rfl,?_⟩;replace aa:=bB aa hb;replace ab:=aK (blk_below (g:=ai) (o:=.cells #[.string ah,.int .i64 aj,.float .f64 ak,.string al,.int .i64 ao,.int .i64 0,.float .f64 0,.string (⟨#[]⟩:ByteArray)] 62 (0,0)) (bR ab) hb);replace HB:=bW HB hb;(try clear hb);(try clear hb2);(try clear hk);(try clear hi);obtain⟨gj,gl,gm,gn,go,gp,gq,gr,gu,gv,gw,gx,gy,gz,gA,gB⟩:=bf8 (w:=gi) aa))
  refine bodyPost_ret (results_ctt rfl _ _ ax 62 #[.string (⟨#[]⟩:ByteArray),.int .i64 0,.float .f64 0,.string (⟨#[]⟩:ByteArray),.int .i64 0,.int .i64 0,.float .f64 0,.string (⟨#[]⟩:ByteArray)] (0,0) _ rfl (bR aa) Try.underlying62 rfl (by kernel_rfl)) rfl ?_
  exact⟨by first|rfl|(simp [errW_none,errW_some] <;> rfl)|(simp only [← hji8];first|rfl|(simp [errW_none,errW_some] <;> rfl))|(simp [*,errW_none,errW_some] <;> rfl),by repeat (first|(with_reducible first|exact HB.out|apply below_alloc|apply pw_below_drewN|apply below_drew1|refine below_set ?_ az.out|refine below_set ?_ aA.out)|exact HB.out)⟩
 rw [if_pos c13] at H
 have cJ:decide (0<ao)=true:=decide_eq_true c13
 clear c13
 obtain⟨ji14,hji14⟩:∃ j_:Int,(wrap64 ((ji8)+aH))=j_:=⟨_,rfl⟩
 replace H:(if 0≤(ji14) then (if (ji14)≤(l0.length:Int) then ((datum_Get.f k (l0.drop ((ji14):Int).toNat)).bind fun ac=>(if ac.2.2.2.2=0 then ((cell_May.f k ah aj ak al ao ac.1 ac.2.1 ac.2.2.1).bind fun au=>(if au=true then (some (ah,aj,ak,al,ao,ac.1,ac.2.1,ac.2.2.1,wrap64 ((ji14)+ac.2.2.2.1),0)) else (some ((⟨#[]⟩:ByteArray),0,0,(⟨#[]⟩:ByteArray),0,0,0,(⟨#[]⟩:ByteArray),0,1)))) else (some ((⟨#[]⟩:ByteArray),0,0,(⟨#[]⟩:ByteArray),0,0,0,(⟨#[]⟩:ByteArray),0,ac.2.2.2.2)))) else (none)) else (none))=some (r1,r2,r3,r4,r5,r6,r7,r8,r9,r10):=by first|(rw [hji14] at H;exact H)|(simp only [hji14] at H ⊢;exact H)
 (try rw [hji14] at A2)
 (try rw [hji14] at A6)
 (try rw [hji14] at A11)
 have hji14w:(IntKind.i64.wrap ((ji8)+aH))=ji14:=(i64_w _).trans hji14
 by_cases c15:0≤(ji14)
 rotate_left
 ·rw [if_neg c15] at H
  exact absurd H (by simp)
 rw [if_pos c15] at H
 have pw:=eq_true c15
 have px:decide (0≤(ji14))=true:=decide_eq_true c15
 clear c15
 by_cases c16:(ji14)≤(l0.length:Int)
 rotate_left
 ·rw [if_neg c16] at H
  exact absurd H (by simp)
 rw [if_pos c16] at H
 have py:=eq_true c16
 have pz:decide ((ji14)≤(l0.length:Int))=true:=decide_eq_true c16
 clear c16
 obtain⟨av,hy274⟩:∃ y_:List Int,y_=(l0.drop ((ji14):Int).toNat):=⟨_,rfl⟩
 replace H:((datum_Get.f k av).bind fun ac=>(if ac.2.2.2.2=0 then ((cell_May.f k ah aj ak al ao ac.1 ac.2.1 ac.2.2.1).bind fun au=>(if au=true then (some (ah,aj,ak,al,ao,ac.1,ac.2.1,ac.2.2.1,wrap64 ((ji14)+ac.2.2.2.1),0)) else (some ((⟨#[]⟩:ByteArray),0,0,(⟨#[]⟩:ByteArray),0,0,0,(⟨#[]⟩:ByteArray),0,1)))) else (some ((⟨#[]⟩:ByteArray),0,0,(⟨#[]⟩:ByteArray),0,0,0,(⟨#[]⟩:ByteArray),0,ac.2.2.2.2))))=some (r1,r2,r3,r4,r5,r6,r7,r8,r9,r10):=by first|(rw [hy274];with_reducible exact H)|(have H2_:=(Option.bind_some _ _).symm.trans H;rw [hy274];with_reducible exact H2_)|(have H2_:=(Option.bind_some _ _).symm.trans H;with_reducible exact H2_)|with_reducible exact H|(rw [hy274];exact H)|exact H
 have Ny274:=aK hy274
 clear hy274
 replace H:=oS H
 obtain⟨⟨aN,aQ,aT,bh,aV⟩,cC,H⟩:=H
 replace H:(if aV=0 then ((cell_May.f k ah aj ak al ao aN aQ aT).bind fun au=>(if au=true then (some (ah,aj,ak,al,ao,aN,aQ,aT,wrap64 ((ji14)+bh),0)) else (some ((⟨#[]⟩:ByteArray),0,0,(⟨#[]⟩:ByteArray),0,0,0,(⟨#[]⟩:ByteArray),0,1)))) else (some ((⟨#[]⟩:ByteArray),0,0,(⟨#[]⟩:ByteArray),0,0,0,(⟨#[]⟩:ByteArray),0,aV)))=some (r1,r2,r3,r4,r5,r6,r7,r8,r9,r10):=H
 have A17:=aK cC
 clear cC
 by_cases c18:aV=0
 rotate_left
 ·rw [if_neg c18] at H
  have cL:(aV == 0)=false:=beq_eq_false_iff_ne.mpr c18
  have cM:(aV != 0)=true:=bne_iff_ne.mpr c18
  simp only [Option.some.injEq,Prod.mk.injEq] at H
  obtain⟨rfl,rfl,rfl,rfl,rfl,rfl,rfl,rfl,rfl,rfl⟩:=H
  go_enter Try.func39,Try.ntmps39
  go_wp2_with (first|((with_reducible refine gate_dst (N:=2) rfl ?_);refine box_event ?hg (N:=2) ?hd (cs:=#[.string (⟨#[]⟩:ByteArray),.int .i64 0,.float .f64 0,.string (⟨#[]⟩:ByteArray),.int .i64 0,.int .i64 0,.float .f64 0,.string (⟨#[]⟩:ByteArray)]) (t:=62) ?hr ?_;(case hd=>rfl);(case hg=>rfl);(case hr=>first|(go_simp;done)|(go_simp;rfl));intro ax hg w58 hbox hb;have aa:=aK (hbox);have aW:=bZ HB hg;have az:=bZ HB hg;replace HB:=bW HB hb;clear hb hbox hg)|((with_reducible refine gate_dst (N:=5) rfl ?_);refine box_event ?hg (N:=5) ?hd (cs:=#[.string (⟨#[]⟩:ByteArray),.int .i64 0,.float .f64 0,.string (⟨#[]⟩:ByteArray),.int .i64 0,.int .i64 0,.float .f64 0,.string (⟨#[]⟩:ByteArray)]) (t:=62) ?hr ?_;(case hd=>rfl);(case hg=>rfl);(case hr=>first|(go_simp;done)|(go_simp;rfl));intro ai hg w59 hbox hb;have ab:=aK (hbox);have aX:=bZ HB hg;have aA:=bZ HB hg;have aq:=bL aa hg;have ar:=bG aa hg;replace aa:=bB aa hb;replace HB:=bW HB hb;clear hb hbox hg)|((with_reducible refine gate_callee (f:=41) rfl ?_);refine gL (some 11) Try.func41 #[.slice A0 l0.length c0] ?_;(with_reducible refine (num_GetText.calls k _ _ l0 ah ae aG _ ?side1 ?side2 A2.out).mono ?_);(case side1=>repeat (first|exact (Kd.C_below HR0.out HB.out)|(with_reducible refine Kd.C_alloc ?_ _)|(with_reducible refine Kd.C_drewN ?_ _)|(with_reducible refine Kd.C_drew ?_)));(case side2=>exact HC0.out);rintro e w' ⟨rfl,⟨nd,rfl⟩⟩;refine⟨_,rfl,?_⟩;(try (rw [drewN_self w59];generalize hq_:World.drewN w59 _=w59;have n0_:=bE aa hq_.symm;have n1_:=bE ab hq_.symm;have n2_:=bH HB hq_.symm;clear aa ab HB hq_;have aa:=n0_;have ab:=n1_;have HB:=n2_;clear n0_ n1_ n2_));have hnb60:=ar.out;have hnc60:=aq.out;obtain⟨jG,jH,jI,jJ,jK,jL,jM,jN,jO,jP,jQ,jR,jS,jT,jU,jV⟩:=bf8 (w:=w59) ab)|((with_reducible refine gate_store (t:=9) (p:=15) rfl ?_);refine store_event (t:=9) (p:=15) (v:=?vo_w62) (w1:=(w59.setCell ⟨ai,0,none⟩ (.string ah))) ?hg ?ho ?hn ?hr ?_;(case ho=>rfl);(case hg=>rfl);(case hn=>rfl);(case hr=>first|(go_simp;done)|(go_simp;rfl));intro w62 hw;replace aa:=bE aa hw;replace ab:Aside0 (w62.heap[ai]? = some (.cells #[.string ah,.int .i64 0,.float .f64 0,.string (⟨#[]⟩:ByteArray),.int .i64 0,.int .i64 0,.float .f64 0,.string (⟨#[]⟩:ByteArray)] 62 (0,0))):=bP ab hw;replace HB:=bH HB hw;clear hw;have q63:(ae:Int)≤((l0.length:Int):Int):=dA;obtain⟨i063,hi063,_,hsz63,_⟩:=info_parts info5;have hroom63:l0.length≤c0:=HC0.out;have hC63:Kd.C (Kd.int .u8) _ A0 l0.length l0:=HR0.out;have gC:(0:Int)≤(ae:Int):=dA;have hcut63:=cut_from (P:=Try.prog) 30 5 .i64 Try.underlying30 hi063 1 hsz63 A0 l0.length c0 ae gC q63;have bo:=Kd.C_drop (m:=(ae:Int).toNat) (c:=c0) hC63 (by omega) hroom63;obtain⟨A63,hA63⟩:∃ A1,A1=(if c0=(ae:Int).toNat then A0 else (A0:Option Addr).map (·.add ((ae:Int).toNat * 1))):=⟨_,rfl⟩;obtain⟨c63,b8⟩:∃ c1,c1=c0 - (ae:Int).toNat:=⟨_,rfl⟩;have hy63:am.length=l0.length - (ae:Int).toNat:=(by rw [Ny258.out,List.length_drop] <;> omega);rw [show (l0).drop (ae:Int).toNat=am from Ny258.out.symm] at bo;replace bo:Kd.C (Kd.int .u8) _ A63 am.length am:=(by rw [hA63];exact bo);rw [← hy63,← hA63,← b8] at hcut63;have aC:=aK bo;have aD:=aK (show am.length≤c63 from by rw [hy63,b8];exact Nat.sub_le_sub_right hroom63 _);clear bo hC63 hroom63 hi063 hsz63 b8;have KY63:=aK hy63;have KA63:=aK hA63;clear hy63 hA63;replace q63:=eq_true q63)|((with_reducible refine gate_callee (f:=56) rfl ?_);refine gL (some 24) Try.func56 #[.slice A63 am.length c63] ?_;(with_reducible refine (datum_Get.calls k _ _ am aj ak al ay aI _ ?side1 ?side2 A6.out).mono ?_);(case side1=>repeat (first|exact (Kd.C_below aC.out HB.out)|(with_reducible refine Kd.C_alloc ?_ _)|(with_reducible refine Kd.C_drewN ?_ _)|(with_reducible refine Kd.C_drew ?_)));(case side2=>exact aD.out);rintro e w64 ⟨rfl,hb⟩;refine⟨_,rfl,?_⟩;replace aa:=bB aa hb;replace ab:=bB ab hb;replace HB:=bW HB hb;(try clear hb);(try clear hb2);(try clear hk);(try clear hi);obtain⟨jW,jX,jY,jZ,j4,j5,j6,j7,j8,j9,ka,kb,kc,ke,kf,kg⟩:=bf8 (w:=w64) ab)|((with_reducible refine gate_store (t:=54) (p:=28) rfl ?_);refine store_event (t:=54) (p:=28) (v:=?vo_w66) (w1:=(((w64.setCell ⟨ai,1,none⟩ (.int .i64 aj)).setCell ⟨ai,2,none⟩ (.float .f64 ak)).setCell ⟨ai,3,none⟩ (.string al))) ?hg ?ho ?hn ?hr ?_;(case ho=>rfl);(case hg=>rfl);(case hn=>rfl);(case hr=>first|(go_simp;done)|(go_simp;rfl));intro w66 hw;replace aa:=bE aa hw;replace ab:Aside0 (w66.heap[ai]? = some (.cells #[.string ah,.int .i64 aj,.float .f64 ak,.string al,.int .i64 0,.int .i64 0,.float .f64 0,.string (⟨#[]⟩:ByteArray)] 62 (0,0))):=bP ab hw;replace HB:=bH HB hw;clear hw;have q67:((ji8):Int)≤((l0.length:Int):Int):=dA;obtain⟨i067,hi067,_,hsz67,_⟩:=info_parts info5;have hroom67:l0.length≤c0:=HC0.out;have hC67:Kd.C (Kd.int .u8) _ A0 l0.length l0:=HR0.out;have gD:(0:Int)≤((ji8):Int):=dA;have hcut67:=cut_from (P:=Try.prog) 30 5 .i64 Try.underlying30 hi067 1 hsz67 A0 l0.length c0 (ji8) gD q67;have bp:=Kd.C_drop (m:=((ji8):Int).toNat) (c:=c0) hC67 (by omega) hroom67;obtain⟨A67,hA67⟩:∃ A1,A1=(if c0=((ji8):Int).toNat then A0 else (A0:Option Addr).map (·.add (((ji8):Int).toNat * 1))):=⟨_,rfl⟩;obtain⟨c67,b9⟩:∃ c1,c1=c0 - ((ji8):Int).toNat:=⟨_,rfl⟩;have hy67:ap.length=l0.length - ((ji8):Int).toNat:=(by rw [Ny267.out,List.length_drop] <;> omega);rw [show (l0).drop ((ji8):Int).toNat=ap from Ny267.out.symm] at bp;replace bp:Kd.C (Kd.int .u8) _ A67 ap.length ap:=(by rw [hA67];exact bp);rw [← hy67,← hA67,← b9] at hcut67;have aJ:=aK bp;have aM:=aK (show ap.length≤c67 from by rw [hy67,b9];exact Nat.sub_le_sub_right hroom67 _);clear bp hC67 hroom67 hi067 hsz67 b9;have KY67:=aK hy67;have KA67:=aK hA67;clear hy67 hA67;replace q67:=eq_true q67)|((with_reducible refine gate_callee (f:=55) rfl ?_);refine gL (some 40) Try.func55 #[.slice A67 ap.length c67] ?_;(with_reducible refine (num_Get.calls k _ _ ap ao aH aU _ ?side1 ?side2 A11.out).mono ?_);(case side1=>repeat (first|exact (Kd.C_below aJ.out HB.out)|(with_reducible refine Kd.C_alloc ?_ _)|(with_reducible refine Kd.C_drewN ?_ _)|(with_reducible refine Kd.C_drew ?_)));(case side2=>exact aM.out);rintro e w' ⟨rfl,⟨nd,rfl⟩⟩;refine⟨_,rfl,?_⟩;(try (rw [drewN_self w66];generalize hq_:World.drewN w66 _=w66;have n0_:=bE aa hq_.symm;have n1_:=bE ab hq_.symm;have n2_:=bH HB hq_.symm;clear aa ab HB hq_;have aa:=n0_;have ab:=n1_;have HB:=n2_;clear n0_ n1_ n2_));obtain⟨ki,kj,km,kn,ko,kp,kr,kt,ku,kv,kw,ky,kz,kA,kB,kC⟩:=bf8 (w:=w66) ab)|((with_reducible refine gate_store (t:=2) (p:=44) rfl ?_);refine store_event (t:=2) (p:=44) (v:=?vo_w69) (w1:=(w66.setCell ⟨ai,4,none⟩ (.int .i64 ao))) ?hg ?ho ?hn ?hr ?_;(case ho=>rfl);(case hg=>rfl);(case hn=>rfl);(case hr=>first|(go_simp;done)|(go_simp;rfl));intro w69 hw;replace aa:=bE aa hw;replace ab:Aside0 (w69.heap[ai]? = some (.cells #[.string ah,.int .i64 aj,.float .f64 ak,.string al,.int .i64 ao,.int .i64 0,.float .f64 0,.string (⟨#[]⟩:ByteArray)] 62 (0,0))):=bP ab hw;replace HB:=bH HB hw;clear hw;obtain⟨kD,kE,kF,kG,kH,kI,kJ,kK,kL,kM,kN,kO,kP,kQ,kR,kS⟩:=bf8 (w:=w69) ab;have q71:((ji14):Int)≤((l0.length:Int):Int):=dA;obtain⟨i071,hi071,_,hsz71,_⟩:=info_parts info5;have hroom71:l0.length≤c0:=HC0.out;have hC71:Kd.C (Kd.int .u8) _ A0 l0.length l0:=HR0.out;have gE:(0:Int)≤((ji14):Int):=dA;have hcut71:=cut_from (P:=Try.prog) 30 5 .i64 Try.underlying30 hi071 1 hsz71 A0 l0.length c0 (ji14) gE q71;have bq:=Kd.C_drop (m:=((ji14):Int).toNat) (c:=c0) hC71 (by omega) hroom71;obtain⟨A71,hA71⟩:∃ A1,A1=(if c0=((ji14):Int).toNat then A0 else (A0:Option Addr).map (·.add (((ji14):Int).toNat * 1))):=⟨_,rfl⟩;obtain⟨c71,ca⟩:∃ c1,c1=c0 - ((ji14):Int).toNat:=⟨_,rfl⟩;have hy71:av.length=l0.length - ((ji14):Int).toNat:=(by rw [Ny274.out,List.length_drop] <;> omega);rw [show (l0).drop ((ji14):Int).toNat=av from Ny274.out.symm] at bq;replace bq:Kd.C (Kd.int .u8) _ A71 av.length av:=(by rw [hA71];exact bq);rw [← hy71,← hA71,← ca] at hcut71;have bc:=aK bq;have bf:=aK (show av.length≤c71 from by rw [hy71,ca];exact Nat.sub_le_sub_right hroom71 _);clear bq hC71 hroom71 hi071 hsz71 ca;have KY71:=aK hy71;have KA71:=aK hA71;clear hy71 hA71;replace q71:=eq_true q71)|((with_reducible refine gate_callee (f:=56) rfl ?_);refine gL (some 59) Try.func56 #[.slice A71 av.length c71] ?_;(with_reducible refine (datum_Get.calls k _ _ av aN aQ aT bh aV _ ?side1 ?side2 A17.out).mono ?_);(case side1=>repeat (first|exact (Kd.C_below bc.out HB.out)|(with_reducible refine Kd.C_alloc ?_ _)|(with_reducible refine Kd.C_drewN ?_ _)|(with_reducible refine Kd.C_drew ?_)));(case side2=>exact bf.out);rintro e w72 ⟨rfl,hb⟩;refine⟨_,rfl,?_⟩;replace aa:=bB aa hb;replace ab:=bB ab hb;replace HB:=bW HB hb;(try clear hb);(try clear hb2);(try clear hk);(try clear hi);obtain⟨kT,kU,kV,kW,kX,kY,kZ,k5,k6,k7,k9,lc,ld,lf,lg,lh⟩:=bf8 (w:=w72) ab;obtain⟨ll,lm,ln,lp,lq,lr,ls,lu,lv,lw,lx,ly,lz,lA,lB,lC⟩:=bf8 (w:=w72) aa))
  refine bodyPost_ret (results_ctt rfl _ _ ax 62 #[.string (⟨#[]⟩:ByteArray),.int .i64 0,.float .f64 0,.string (⟨#[]⟩:ByteArray),.int .i64 0,.int .i64 0,.float .f64 0,.string (⟨#[]⟩:ByteArray)] (0,0) _ rfl (bR aa) Try.underlying62 rfl (by kernel_rfl)) rfl ?_
  exact⟨by first|rfl|(simp [errW_none,errW_some] <;> rfl)|(simp only [← hji8,← hji14];first|rfl|(simp [errW_none,errW_some] <;> rfl))|(simp [*,errW_none,errW_some] <;> rfl),by repeat (first|(with_reducible first|exact HB.out|apply below_alloc|apply pw_below_drewN|apply below_drew1|refine below_set ?_ az.out|refine below_set ?_ aA.out)|exact HB.out)⟩
 rw [if_pos c18] at H
 have cL:(aV == 0)=true:=beq_iff_eq.mpr c18
 have cM:(aV != 0)=false:=bne_eq_false_iff_eq.mpr c18
 clear c18
 replace H:=oS H
 obtain⟨au,cD,H⟩:=H
 replace H:(if au=true then (some (ah,aj,ak,al,ao,aN,aQ,aT,wrap64 ((ji14)+bh),0)) else (some ((⟨#[]⟩:ByteArray),0,0,(⟨#[]⟩:ByteArray),0,0,0,(⟨#[]⟩:ByteArray),0,1)))=some (r1,r2,r3,r4,r5,r6,r7,r8,r9,r10):=H
 have A19:=aK cD
 clear cD
 by_cases c20:au=true
 rotate_left
 ·replace c20:=Bool.eq_false_iff.mpr c20
  subst c20
  have H1:(some ((⟨#[]⟩:ByteArray),0,0,(⟨#[]⟩:ByteArray),0,0,0,(⟨#[]⟩:ByteArray),0,1))=some (r1,r2,r3,r4,r5,r6,r7,r8,r9,r10):=by rw [if_neg (show ¬ (false=true) by decide)] at H;exact H
  clear H
  have H:=H1
  clear H1
  simp only [Option.some.injEq,Prod.mk.injEq] at H
  obtain⟨rfl,rfl,rfl,rfl,rfl,rfl,rfl,rfl,rfl,rfl⟩:=H
  go_enter Try.func39,Try.ntmps39
  go_wp2_with (first|((with_reducible refine gate_dst (N:=2) rfl ?_);refine box_event ?hg (N:=2) ?hd (cs:=#[.string (⟨#[]⟩:ByteArray),.int .i64 0,.float .f64 0,.string (⟨#[]⟩:ByteArray),.int .i64 0,.int .i64 0,.float .f64 0,.string (⟨#[]⟩:ByteArray)]) (t:=62) ?hr ?_;(case hd=>rfl);(case hg=>rfl);(case hr=>first|(go_simp;done)|(go_simp;rfl));intro ax hg w40 hbox hb;have aa:=aK (hbox);have aW:=bZ HB hg;have az:=bZ HB hg;replace HB:=bW HB hb;clear hb hbox hg)|((with_reducible refine gate_dst (N:=5) rfl ?_);refine box_event ?hg (N:=5) ?hd (cs:=#[.string (⟨#[]⟩:ByteArray),.int .i64 0,.float .f64 0,.string (⟨#[]⟩:ByteArray),.int .i64 0,.int .i64 0,.float .f64 0,.string (⟨#[]⟩:ByteArray)]) (t:=62) ?hr ?_;(case hd=>rfl);(case hg=>rfl);(case hr=>first|(go_simp;done)|(go_simp;rfl));intro ai hg w41 hbox hb;have ab:=aK (hbox);have aX:=bZ HB hg;have aA:=bZ HB hg;have aq:=bL aa hg;have ar:=bG aa hg;replace aa:=bB aa hb;replace HB:=bW HB hb;clear hb hbox hg)|((with_reducible refine gate_callee (f:=41) rfl ?_);refine gL (some 11) Try.func41 #[.slice A0 l0.length c0] ?_;(with_reducible refine (num_GetText.calls k _ _ l0 ah ae aG _ ?side1 ?side2 A2.out).mono ?_);(case side1=>repeat (first|exact (Kd.C_below HR0.out HB.out)|(with_reducible refine Kd.C_alloc ?_ _)|(with_reducible refine Kd.C_drewN ?_ _)|(with_reducible refine Kd.C_drew ?_)));(case side2=>exact HC0.out);rintro e w' ⟨rfl,⟨nd,rfl⟩⟩;refine⟨_,rfl,?_⟩;(try (rw [drewN_self w41];generalize hq_:World.drewN w41 _=w41;have n0_:=bE aa hq_.symm;have n1_:=bE ab hq_.symm;have n2_:=bH HB hq_.symm;clear aa ab HB hq_;have aa:=n0_;have ab:=n1_;have HB:=n2_;clear n0_ n1_ n2_));have hnb42:=ar.out;have hnc42:=aq.out;obtain⟨lD,lE,lF,lG,lH,lI,lJ,lK,lL,lM,lN,lO,lP,lQ,lR,lS⟩:=bf8 (w:=w41) ab)|((with_reducible refine gate_store (t:=9) (p:=15) rfl ?_);refine store_event (t:=9) (p:=15) (v:=?vo_w44) (w1:=(w41.setCell ⟨ai,0,none⟩ (.string ah))) ?hg ?ho ?hn ?hr ?_;(case ho=>rfl);(case hg=>rfl);(case hn=>rfl);(case hr=>first|(go_simp;done)|(go_simp;rfl));intro w44 hw;replace aa:=bE aa hw;replace ab:Aside0 (w44.heap[ai]? = some (.cells #[.string ah,.int .i64 0,.float .f64 0,.string (⟨#[]⟩:ByteArray),.int .i64 0,.int .i64 0,.float .f64 0,.string (⟨#[]⟩:ByteArray)] 62 (0,0))):=bP ab hw;replace HB:=bH HB hw;clear hw;have q45:(ae:Int)≤((l0.length:Int):Int):=dA;obtain⟨i045,hi045,_,hsz45,_⟩:=info_parts info5;have hroom45:l0.length≤c0:=HC0.out;have hC45:Kd.C (Kd.int .u8) _ A0 l0.length l0:=HR0.out;have gF:(0:Int)≤(ae:Int):=dA;have hcut45:=cut_from (P:=Try.prog) 30 5 .i64 Try.underlying30 hi045 1 hsz45 A0 l0.length c0 ae gF q45;have br:=Kd.C_drop (m:=(ae:Int).toNat) (c:=c0) hC45 (by omega) hroom45;obtain⟨A45,hA45⟩:∃ A1,A1=(if c0=(ae:Int).toNat then A0 else (A0:Option Addr).map (·.add ((ae:Int).toNat * 1))):=⟨_,rfl⟩;obtain⟨c45,cb⟩:∃ c1,c1=c0 - (ae:Int).toNat:=⟨_,rfl⟩;have hy45:am.length=l0.length - (ae:Int).toNat:=(by rw [Ny258.out,List.length_drop] <;> omega);rw [show (l0).drop (ae:Int).toNat=am from Ny258.out.symm] at br;replace br:Kd.C (Kd.int .u8) _ A45 am.length am:=(by rw [hA45];exact br);rw [← hy45,← hA45,← cb] at hcut45;have aC:=aK br;have aD:=aK (show am.length≤c45 from by rw [hy45,cb];exact Nat.sub_le_sub_right hroom45 _);clear br hC45 hroom45 hi045 hsz45 cb;have KY45:=aK hy45;have KA45:=aK hA45;clear hy45 hA45;replace q45:=eq_true q45)|((with_reducible refine gate_callee (f:=56) rfl ?_);refine gL (some 24) Try.func56 #[.slice A45 am.length c45] ?_;(with_reducible refine (datum_Get.calls k _ _ am aj ak al ay aI _ ?side1 ?side2 A6.out).mono ?_);(case side1=>repeat (first|exact (Kd.C_below aC.out HB.out)|(with_reducible refine Kd.C_alloc ?_ _)|(with_reducible refine Kd.C_drewN ?_ _)|(with_reducible refine Kd.C_drew ?_)));(case side2=>exact aD.out);rintro e w46 ⟨rfl,hb⟩;refine⟨_,rfl,?_⟩;replace aa:=bB aa hb;replace ab:=bB ab hb;replace HB:=bW HB hb;(try clear hb);(try clear hb2);(try clear hk);(try clear hi);obtain⟨lT,lU,lV,lW,lX,lY,lZ,l8,l9,ma,mb,mc,me,mf,mg,mh⟩:=bf8 (w:=w46) ab)|((with_reducible refine gate_store (t:=54) (p:=28) rfl ?_);refine store_event (t:=54) (p:=28) (v:=?vo_w48) (w1:=(((w46.setCell ⟨ai,1,none⟩ (.int .i64 aj)).setCell ⟨ai,2,none⟩ (.float .f64 ak)).setCell ⟨ai,3,none⟩ (.string al))) ?hg ?ho ?hn ?hr ?_;(case ho=>rfl);(case hg=>rfl);(case hn=>rfl);(case hr=>first|(go_simp;done)|(go_simp;rfl));intro w48 hw;replace aa:=bE aa hw;replace ab:Aside0 (w48.heap[ai]? = some (.cells #[.string ah,.int .i64 aj,.float .f64 ak,.string al,.int .i64 0,.int .i64 0,.float .f64 0,.string (⟨#[]⟩:ByteArray)] 62 (0,0))):=bP ab hw;replace HB:=bH HB hw;clear hw;have q49:((ji8):Int)≤((l0.length:Int):Int):=dA;obtain⟨i049,hi049,_,hsz49,_⟩:=info_parts info5;have hroom49:l0.length≤c0:=HC0.out;have hC49:Kd.C (Kd.int .u8) _ A0 l0.length l0:=HR0.out;have gG:(0:Int)≤((ji8):Int):=dA;have hcut49:=cut_from (P:=Try.prog) 30 5 .i64 Try.underlying30 hi049 1 hsz49 A0 l0.length c0 (ji8) gG q49;have bs:=Kd.C_drop (m:=((ji8):Int).toNat) (c:=c0) hC49 (by omega) hroom49;obtain⟨A49,hA49⟩:∃ A1,A1=(if c0=((ji8):Int).toNat then A0 else (A0:Option Addr).map (·.add (((ji8):Int).toNat * 1))):=⟨_,rfl⟩;obtain⟨c49,cd⟩:∃ c1,c1=c0 - ((ji8):Int).toNat:=⟨_,rfl⟩;have hy49:ap.length=l0.length - ((ji8):Int).toNat:=(by rw [Ny267.out,List.length_drop] <;> omega);rw [show (l0).drop ((ji8):Int).toNat=ap from Ny267.out.symm] at bs;replace bs:Kd.C (Kd.int .u8) _ A49 ap.length ap:=(by rw [hA49];exact bs);rw [← hy49,← hA49,← cd] at hcut49;have aJ:=aK bs;have aM:=aK (show ap.length≤c49 from by rw [hy49,cd];exact Nat.sub_le_sub_right hroom49 _);clear bs hC49 hroom49 hi049 hsz49 cd;have KY49:=aK hy49;have KA49:=aK hA49;clear hy49 hA49;replace q49:=eq_true q49)|((with_reducible refine gate_callee (f:=55) rfl ?_);refine gL (some 40) Try.func55 #[.slice A49 ap.length c49] ?_;(with_reducible refine (num_Get.calls k _ _ ap ao aH aU _ ?side1 ?side2 A11.out).mono ?_);(case side1=>repeat (first|exact (Kd.C_below aJ.out HB.out)|(with_reducible refine Kd.C_alloc ?_ _)|(with_reducible refine Kd.C_drewN ?_ _)|(with_reducible refine Kd.C_drew ?_)));(case side2=>exact aM.out);rintro e w' ⟨rfl,⟨nd,rfl⟩⟩;refine⟨_,rfl,?_⟩;(try (rw [drewN_self w48];generalize hq_:World.drewN w48 _=w48;have n0_:=bE aa hq_.symm;have n1_:=bE ab hq_.symm;have n2_:=bH HB hq_.symm;clear aa ab HB hq_;have aa:=n0_;have ab:=n1_;have HB:=n2_;clear n0_ n1_ n2_));obtain⟨mi,mj,ml,mm,mn,mo,mp,mq,mr,ms,mt,mu,mv,mw,mx,my⟩:=bf8 (w:=w48) ab)|((with_reducible refine gate_store (t:=2) (p:=44) rfl ?_);refine store_event (t:=2) (p:=44) (v:=?vo_w51) (w1:=(w48.setCell ⟨ai,4,none⟩ (.int .i64 ao))) ?hg ?ho ?hn ?hr ?_;(case ho=>rfl);(case hg=>rfl);(case hn=>rfl);(case hr=>first|(go_simp;done)|(go_simp;rfl));intro w51 hw;replace aa:=bE aa hw;replace ab:Aside0 (w51.heap[ai]? = some (.cells #[.string ah,.int .i64 aj,.float .f64 ak,.string al,.int .i64 ao,.int .i64 0,.float .f64 0,.string (⟨#[]⟩:ByteArray)] 62 (0,0))):=bP ab hw;replace HB:=bH HB hw;clear hw;obtain⟨mz,mA,mB,mC,mD,mE,mF,mG,mH,mI,mJ,mK,mL,mM,mN,mO⟩:=bf8 (w:=w51) ab;have q53:((ji14):Int)≤((l0.length:Int):Int):=dA;obtain⟨i053,hi053,_,hsz53,_⟩:=info_parts info5;have hroom53:l0.length≤c0:=HC0.out;have hC53:Kd.C (Kd.int .u8) _ A0 l0.length l0:=HR0.out;have gH:(0:Int)≤((ji14):Int):=dA;have hcut53:=cut_from (P:=Try.prog) 30 5 .i64 Try.underlying30 hi053 1 hsz53 A0 l0.length c0 (ji14) gH q53;have bu:=Kd.C_drop (m:=((ji14):Int).toNat) (c:=c0) hC53 (by omega) hroom53;obtain⟨A53,hA53⟩:∃ A1,A1=(if c0=((ji14):Int).toNat then A0 else (A0:Option Addr).map (·.add (((ji14):Int).toNat * 1))):=⟨_,rfl⟩;obtain⟨c53,cf⟩:∃ c1,c1=c0 - ((ji14):Int).toNat:=⟨_,rfl⟩;have hy53:av.length=l0.length - ((ji14):Int).toNat:=(by rw [Ny274.out,List.length_drop] <;> omega);rw [show (l0).drop ((ji14):Int).toNat=av from Ny274.out.symm] at bu;replace bu:Kd.C (Kd.int .u8) _ A53 av.length av:=(by rw [hA53];exact bu);rw [← hy53,← hA53,← cf] at hcut53;have bc:=aK bu;have bf:=aK (show av.length≤c53 from by rw [hy53,cf];exact Nat.sub_le_sub_right hroom53 _);clear bu hC53 hroom53 hi053 hsz53 cf;have KY53:=aK hy53;have KA53:=aK hA53;clear hy53 hA53;replace q53:=eq_true q53)|((with_reducible refine gate_callee (f:=56) rfl ?_);refine gL (some 59) Try.func56 #[.slice A53 av.length c53] ?_;(with_reducible refine (datum_Get.calls k _ _ av aN aQ aT bh aV _ ?side1 ?side2 A17.out).mono ?_);(case side1=>repeat (first|exact (Kd.C_below bc.out HB.out)|(with_reducible refine Kd.C_alloc ?_ _)|(with_reducible refine Kd.C_drewN ?_ _)|(with_reducible refine Kd.C_drew ?_)));(case side2=>exact bf.out);rintro e w54 ⟨rfl,hb⟩;refine⟨_,rfl,?_⟩;replace aa:=bB aa hb;replace ab:=bB ab hb;replace HB:=bW HB hb;(try clear hb);(try clear hb2);(try clear hk);(try clear hi);obtain⟨mP,mQ,mR,mS,mT,mU,mV,mW,mX,mY,mZ,m0,m2,m3,m4,m5⟩:=bf8 (w:=w54) ab)|((with_reducible refine gate_callee (f:=33) rfl ?_);refine gL (some 72) Try.func33 #[.agg #[.string ah,.int .i64 aj,.float .f64 ak,.string al,.int .i64 ao,.int .i64 aN,.float .f64 aQ,.string aT]] ?_;(with_reducible refine (cell_May.calls k ah aj ak al ao aN aQ aT false _ A19.out).mono ?_);rintro e w56 ⟨rfl,hb⟩;refine⟨_,rfl,?_⟩;replace aa:=bB aa hb;replace ab:=aK (blk_below (g:=ai) (o:=.cells #[.string ah,.int .i64 aj,.float .f64 ak,.string al,.int .i64 ao,.int .i64 aN,.float .f64 aQ,.string aT] 62 (0,0)) (bR ab) hb);replace HB:=bW HB hb;(try clear hb);(try clear hb2);(try clear hk);(try clear hi);obtain⟨m6,m7,m8,m9,na,nb,nc,nf,ng,nh,ni,nj,nk,nl,nm,nn⟩:=bf8 (w:=w56) aa))
  refine bodyPost_ret (results_ctt rfl _ _ ax 62 #[.string (⟨#[]⟩:ByteArray),.int .i64 0,.float .f64 0,.string (⟨#[]⟩:ByteArray),.int .i64 0,.int .i64 0,.float .f64 0,.string (⟨#[]⟩:ByteArray)] (0,0) _ rfl (bR aa) Try.underlying62 rfl (by kernel_rfl)) rfl ?_
  exact⟨by first|rfl|(simp [errW_none,errW_some] <;> rfl)|(simp only [← hji8,← hji14];first|rfl|(simp [errW_none,errW_some] <;> rfl))|(simp [*,errW_none,errW_some] <;> rfl),by repeat (first|(with_reducible first|exact HB.out|apply below_alloc|apply pw_below_drewN|apply below_drew1|refine below_set ?_ az.out|refine below_set ?_ aA.out)|exact HB.out)⟩
 subst c20
 have H1:(some (ah,aj,ak,al,ao,aN,aQ,aT,wrap64 ((ji14)+bh),0))=some (r1,r2,r3,r4,r5,r6,r7,r8,r9,r10):=by rw [if_pos rfl] at H;exact H
 clear H
 have H:=H1
 clear H1
 simp only [Option.some.injEq,Prod.mk.injEq] at H
 obtain⟨rfl,rfl,rfl,rfl,rfl,rfl,rfl,rfl,rfl,rfl⟩:=H
 go_enter Try.func39,Try.ntmps39
 go_wp2_with (first|((with_reducible refine gate_dst (N:=2) rfl ?_);refine box_event ?hg (N:=2) ?hd (cs:=#[.string (⟨#[]⟩:ByteArray),.int .i64 0,.float .f64 0,.string (⟨#[]⟩:ByteArray),.int .i64 0,.int .i64 0,.float .f64 0,.string (⟨#[]⟩:ByteArray)]) (t:=62) ?hr ?_;(case hd=>rfl);(case hg=>rfl);(case hr=>first|(go_simp;done)|(go_simp;rfl));intro ax hg w21 hbox hb;have aa:=aK (hbox);have aW:=bZ HB hg;have az:=bZ HB hg;replace HB:=bW HB hb;clear hb hbox hg)|((with_reducible refine gate_dst (N:=5) rfl ?_);refine box_event ?hg (N:=5) ?hd (cs:=#[.string (⟨#[]⟩:ByteArray),.int .i64 0,.float .f64 0,.string (⟨#[]⟩:ByteArray),.int .i64 0,.int .i64 0,.float .f64 0,.string (⟨#[]⟩:ByteArray)]) (t:=62) ?hr ?_;(case hd=>rfl);(case hg=>rfl);(case hr=>first|(go_simp;done)|(go_simp;rfl));intro ai hg w22 hbox hb;have ab:=aK (hbox);have aX:=bZ HB hg;have aA:=bZ HB hg;have aq:=bL aa hg;have ar:=bG aa hg;replace aa:=bB aa hb;replace HB:=bW HB hb;clear hb hbox hg)|((with_reducible refine gate_callee (f:=41) rfl ?_);refine gL (some 11) Try.func41 #[.slice A0 l0.length c0] ?_;(with_reducible refine (num_GetText.calls k _ _ l0 ah ae aG _ ?side1 ?side2 A2.out).mono ?_);(case side1=>repeat (first|exact (Kd.C_below HR0.out HB.out)|(with_reducible refine Kd.C_alloc ?_ _)|(with_reducible refine Kd.C_drewN ?_ _)|(with_reducible refine Kd.C_drew ?_)));(case side2=>exact HC0.out);rintro e w' ⟨rfl,⟨nd,rfl⟩⟩;refine⟨_,rfl,?_⟩;(try (rw [drewN_self w22];generalize hq_:World.drewN w22 _=w22;have n0_:=bE aa hq_.symm;have n1_:=bE ab hq_.symm;have n2_:=bH HB hq_.symm;clear aa ab HB hq_;have aa:=n0_;have ab:=n1_;have HB:=n2_;clear n0_ n1_ n2_));have hnb23:=ar.out;have hnc23:=aq.out;obtain⟨np,nq,nr,nt,nu,nv,nw,nx,ny,nz,nA,nB,nC,nD,nE,nF⟩:=bf8 (w:=w22) ab)|((with_reducible refine gate_store (t:=9) (p:=15) rfl ?_);refine store_event (t:=9) (p:=15) (v:=?vo_w25) (w1:=(w22.setCell ⟨ai,0,none⟩ (.string ah))) ?hg ?ho ?hn ?hr ?_;(case ho=>rfl);(case hg=>rfl);(case hn=>rfl);(case hr=>first|(go_simp;done)|(go_simp;rfl));intro w25 hw;replace aa:=bE aa hw;replace ab:Aside0 (w25.heap[ai]? = some (.cells #[.string ah,.int .i64 0,.float .f64 0,.string (⟨#[]⟩:ByteArray),.int .i64 0,.int .i64 0,.float .f64 0,.string (⟨#[]⟩:ByteArray)] 62 (0,0))):=bP ab hw;replace HB:=bH HB hw;clear hw;have q26:(ae:Int)≤((l0.length:Int):Int):=dA;obtain⟨i026,hi026,_,hsz26,_⟩:=info_parts info5;have hroom26:l0.length≤c0:=HC0.out;have hC26:Kd.C (Kd.int .u8) _ A0 l0.length l0:=HR0.out;have gI:(0:Int)≤(ae:Int):=dA;have hcut26:=cut_from (P:=Try.prog) 30 5 .i64 Try.underlying30 hi026 1 hsz26 A0 l0.length c0 ae gI q26;have bv:=Kd.C_drop (m:=(ae:Int).toNat) (c:=c0) hC26 (by omega) hroom26;obtain⟨A26,hA26⟩:∃ A1,A1=(if c0=(ae:Int).toNat then A0 else (A0:Option Addr).map (·.add ((ae:Int).toNat * 1))):=⟨_,rfl⟩;obtain⟨c26,cg⟩:∃ c1,c1=c0 - (ae:Int).toNat:=⟨_,rfl⟩;have hy26:am.length=l0.length - (ae:Int).toNat:=(by rw [Ny258.out,List.length_drop] <;> omega);rw [show (l0).drop (ae:Int).toNat=am from Ny258.out.symm] at bv;replace bv:Kd.C (Kd.int .u8) _ A26 am.length am:=(by rw [hA26];exact bv);rw [← hy26,← hA26,← cg] at hcut26;have aC:=aK bv;have aD:=aK (show am.length≤c26 from by rw [hy26,cg];exact Nat.sub_le_sub_right hroom26 _);clear bv hC26 hroom26 hi026 hsz26 cg;have KY26:=aK hy26;have KA26:=aK hA26;clear hy26 hA26;replace q26:=eq_true q26)|((with_reducible refine gate_callee (f:=56) rfl ?_);refine gL (some 24) Try.func56 #[.slice A26 am.length c26] ?_;(with_reducible refine (datum_Get.calls k _ _ am aj ak al ay aI _ ?side1 ?side2 A6.out).mono ?_);(case side1=>repeat (first|exact (Kd.C_below aC.out HB.out)|(with_reducible refine Kd.C_alloc ?_ _)|(with_reducible refine Kd.C_drewN ?_ _)|(with_reducible refine Kd.C_drew ?_)));(case side2=>exact aD.out);rintro e w27 ⟨rfl,hb⟩;refine⟨_,rfl,?_⟩;replace aa:=bB aa hb;replace ab:=bB ab hb;replace HB:=bW HB hb;(try clear hb);(try clear hb2);(try clear hk);(try clear hi);obtain⟨nG,nH,nI,nJ,nK,nL,nM,nN,nO,nP,nQ,nR,nS,nT,nU,nV⟩:=bf8 (w:=w27) ab)|((with_reducible refine gate_store (t:=54) (p:=28) rfl ?_);refine store_event (t:=54) (p:=28) (v:=?vo_w29) (w1:=(((w27.setCell ⟨ai,1,none⟩ (.int .i64 aj)).setCell ⟨ai,2,none⟩ (.float .f64 ak)).setCell ⟨ai,3,none⟩ (.string al))) ?hg ?ho ?hn ?hr ?_;(case ho=>rfl);(case hg=>rfl);(case hn=>rfl);(case hr=>first|(go_simp;done)|(go_simp;rfl));intro w29 hw;replace aa:=bE aa hw;replace ab:Aside0 (w29.heap[ai]? = some (.cells #[.string ah,.int .i64 aj,.float .f64 ak,.string al,.int .i64 0,.int .i64 0,.float .f64 0,.string (⟨#[]⟩:ByteArray)] 62 (0,0))):=bP ab hw;replace HB:=bH HB hw;clear hw;have q30:((ji8):Int)≤((l0.length:Int):Int):=dA;obtain⟨i030,hi030,_,hsz30,_⟩:=info_parts info5;have hroom30:l0.length≤c0:=HC0.out;have hC30:Kd.C (Kd.int .u8) _ A0 l0.length l0:=HR0.out;have gJ:(0:Int)≤((ji8):Int):=dA;have hcut30:=cut_from (P:=Try.prog) 30 5 .i64 Try.underlying30 hi030 1 hsz30 A0 l0.length c0 (ji8) gJ q30;have bw:=Kd.C_drop (m:=((ji8):Int).toNat) (c:=c0) hC30 (by omega) hroom30;obtain⟨A30,hA30⟩:∃ A1,A1=(if c0=((ji8):Int).toNat then A0 else (A0:Option Addr).map (·.add (((ji8):Int).toNat * 1))):=⟨_,rfl⟩;obtain⟨c30,ch⟩:∃ c1,c1=c0 - ((ji8):Int).toNat:=⟨_,rfl⟩;have hy30:ap.length=l0.length - ((ji8):Int).toNat:=(by rw [Ny267.out,List.length_drop] <;> omega);rw [show (l0).drop ((ji8):Int).toNat=ap from Ny267.out.symm] at bw;replace bw:Kd.C (Kd.int .u8) _ A30 ap.length ap:=(by rw [hA30];exact bw);rw [← hy30,← hA30,← ch] at hcut30;have aJ:=aK bw;have aM:=aK (show ap.length≤c30 from by rw [hy30,ch];exact Nat.sub_le_sub_right hroom30 _);clear bw hC30 hroom30 hi030 hsz30 ch;have KY30:=aK hy30;have KA30:=aK hA30;clear hy30 hA30;replace q30:=eq_true q30)|((with_reducible refine gate_callee (f:=55) rfl ?_);refine gL (some 40) Try.func55 #[.slice A30 ap.length c30] ?_;(with_reducible refine (num_Get.calls k _ _ ap ao aH aU _ ?side1 ?side2 A11.out).mono ?_);(case side1=>repeat (first|exact (Kd.C_below aJ.out HB.out)|(with_reducible refine Kd.C_alloc ?_ _)|(with_reducible refine Kd.C_drewN ?_ _)|(with_reducible refine Kd.C_drew ?_)));(case side2=>exact aM.out);rintro e w' ⟨rfl,⟨nd,rfl⟩⟩;refine⟨_,rfl,?_⟩;(try (rw [drewN_self w29];generalize hq_:World.drewN w29 _=w29;have n0_:=bE aa hq_.symm;have n1_:=bE ab hq_.symm;have n2_:=bH HB hq_.symm;clear aa ab HB hq_;have aa:=n0_;have ab:=n1_;have HB:=n2_;clear n0_ n1_ n2_));obtain⟨nW,nX,nY,nZ,n4,n5,n6,n7,n8,n9,oa,ob,oc,od,oe,og⟩:=bf8 (w:=w29) ab)|((with_reducible refine gate_store (t:=2) (p:=44) rfl ?_);refine store_event (t:=2) (p:=44) (v:=?vo_w32) (w1:=(w29.setCell ⟨ai,4,none⟩ (.int .i64 ao))) ?hg ?ho ?hn ?hr ?_;(case ho=>rfl);(case hg=>rfl);(case hn=>rfl);(case hr=>first|(go_simp;done)|(go_simp;rfl));intro w32 hw;replace aa:=bE aa hw;replace ab:Aside0 (w32.heap[ai]? = some (.cells #[.string ah,.int .i64 aj,.float .f64 ak,.string al,.int .i64 ao,.int .i64 0,.float .f64 0,.string (⟨#[]⟩:ByteArray)] 62 (0,0))):=bP ab hw;replace HB:=bH HB hw;clear hw;obtain⟨oh,ol,om,oo,oq,ot,ou,ov,ow,ox,oy,oz,oB,oC,oD,oE⟩:=bf8 (w:=w32) ab;have q34:((ji14):Int)≤((l0.length:Int):Int):=dA;obtain⟨i034,hi034,_,hsz34,_⟩:=info_parts info5;have hroom34:l0.length≤c0:=HC0.out;have hC34:Kd.C (Kd.int .u8) _ A0 l0.length l0:=HR0.out;have gK:(0:Int)≤((ji14):Int):=dA;have hcut34:=cut_from (P:=Try.prog) 30 5 .i64 Try.underlying30 hi034 1 hsz34 A0 l0.length c0 (ji14) gK q34;have bx:=Kd.C_drop (m:=((ji14):Int).toNat) (c:=c0) hC34 (by omega) hroom34;obtain⟨A34,hA34⟩:∃ A1,A1=(if c0=((ji14):Int).toNat then A0 else (A0:Option Addr).map (·.add (((ji14):Int).toNat * 1))):=⟨_,rfl⟩;obtain⟨c34,cj⟩:∃ c1,c1=c0 - ((ji14):Int).toNat:=⟨_,rfl⟩;have hy34:av.length=l0.length - ((ji14):Int).toNat:=(by rw [Ny274.out,List.length_drop] <;> omega);rw [show (l0).drop ((ji14):Int).toNat=av from Ny274.out.symm] at bx;replace bx:Kd.C (Kd.int .u8) _ A34 av.length av:=(by rw [hA34];exact bx);rw [← hy34,← hA34,← cj] at hcut34;have bc:=aK bx;have bf:=aK (show av.length≤c34 from by rw [hy34,cj];exact Nat.sub_le_sub_right hroom34 _);clear bx hC34 hroom34 hi034 hsz34 cj;have KY34:=aK hy34;have KA34:=aK hA34;clear hy34 hA34;replace q34:=eq_true q34)|((with_reducible refine gate_callee (f:=56) rfl ?_);refine gL (some 59) Try.func56 #[.slice A34 av.length c34] ?_;(with_reducible refine (datum_Get.calls k _ _ av aN aQ aT bh aV _ ?side1 ?side2 A17.out).mono ?_);(case side1=>repeat (first|exact (Kd.C_below bc.out HB.out)|(with_reducible refine Kd.C_alloc ?_ _)|(with_reducible refine Kd.C_drewN ?_ _)|(with_reducible refine Kd.C_drew ?_)));(case side2=>exact bf.out);rintro e w35 ⟨rfl,hb⟩;refine⟨_,rfl,?_⟩;replace aa:=bB aa hb;replace ab:=bB ab hb;replace HB:=bW HB hb;(try clear hb);(try clear hb2);(try clear hk);(try clear hi);obtain⟨oF,oG,oH,oI,oJ,oK,oL,oM,oN,oO,oP,oQ,oR,oT,oU,oV⟩:=bf8 (w:=w35) ab)|((with_reducible refine gate_callee (f:=33) rfl ?_);refine gL (some 72) Try.func33 #[.agg #[.string ah,.int .i64 aj,.float .f64 ak,.string al,.int .i64 ao,.int .i64 aN,.float .f64 aQ,.string aT]] ?_;(with_reducible refine (cell_May.calls k ah aj ak al ao aN aQ aT true _ A19.out).mono ?_);rintro e w37 ⟨rfl,hb⟩;refine⟨_,rfl,?_⟩;replace aa:=bB aa hb;replace ab:=aK (blk_below (g:=ai) (o:=.cells #[.string ah,.int .i64 aj,.float .f64 ak,.string al,.int .i64 ao,.int .i64 aN,.float .f64 aQ,.string aT] 62 (0,0)) (bR ab) hb);replace HB:=bW HB hb;(try clear hb);(try clear hb2);(try clear hk);(try clear hi);obtain⟨oW,oX,oY,oZ,o0,o1,o2,o3,o4,o5,o6,o7,o8,o9,pa,pb⟩:=bf8 (w:=w37) ab;obtain⟨pc,pd,pe,pf,pg,ph,pi,pj,pk,pm,pn,po,pp,pq,pr,pt⟩:=bf8 (w:=w37) aa))
 refine bodyPost_ret (results_ctt rfl _ _ ax 62 #[.string ah,.int .i64 aj,.float .f64 ak,.string al,.int .i64 ao,.int .i64 aN,.float .f64 aQ,.string aT] (0,0) _ rfl (bR aa) Try.underlying62 rfl (by kernel_rfl)) rfl ?_
 exact⟨by first|rfl|(simp [errW_none,errW_some] <;> rfl)|(simp only [← hji8,← hji14];first|rfl|(simp [errW_none,errW_some] <;> rfl))|(simp [*,errW_none,errW_some] <;> rfl),by repeat (first|(with_reducible first|exact HB.out|apply below_alloc|apply pw_below_drewN|apply below_drew1|refine below_set ?_ az.out|refine below_set ?_ aA.out)|exact HB.out)⟩
end Go.Proofs.Ytmmjpieafbjggaa.P
end
section
namespace Go.Proofs.Ytmmjpieafbjggaa.P
open Go.RowKit Go.Proofs.YtmmjpieafbjggaaW.PrintWords Go.Proofs.YtmmjpieafbjggaaW.PrintLast Go.Proofs.YtmmjpieafbjggaaW.PrintMore
attribute [local go_sem] max2_int min2_int max_two min_two max_three min_three max_four min_four   -- for this text's walks alone
attribute [local go_sem] x_str_gtr x_str_leq x_str_geq ext_bits ext_frombits ext_neg x_store_float Instr.field asAgg
set_option linter.unusedVariables false
set_option linter.unusedSimpArgs false
def bytes_Equal.f (l0:List Int) (l1:List Int):Option (Bool):=some ((strOfNums l0).toList == (strOfNums l1).toList)
set_option maxHeartbeats 8000000 in
set_option maxRecDepth 100000 in
theorem bytes_Equal.calls (A0:Option Addr) (c0:Nat) (l0:List Int) (A1:Option Addr) (c1:Nat) (l1:List Int) (r:Bool) (w:World) (hr0:Kd.C (Kd.int .u8) w A0 l0.length l0) (hc0:l0.length≤c0) (hr1:Kd.C (Kd.int .u8) w A1 l1.length l1) (hc1:l1.length≤c1) (h:bytes_Equal.f l0 l1=some r) :
  Calls Try.prog 42 #[.slice A0 l0.length c0,.slice A1 l1.length c1] w fun e w'=>e = .returned (.bool r)∧Drawn0 w w':=by
 have HR0:=aK hr0
 have HC0:=aK hc0
 clear hr0 hc0
 have HR1:=aK hr1
 have HC1:=aK hc1
 clear hr1 hc1
 have H:(some ((strOfNums l0).toList == (strOfNums l1).toList))=some r:=h
 clear h
 obtain rfl:=Option.some.inj H
 have aa:=Kd.x_C_string (P:=Try.prog) (A:=A0) (c:=c0) Try.underlying30 Try.underlying5 Try.underlying9 HR0.out
 have ab:=Kd.x_C_string (P:=Try.prog) (A:=A1) (c:=c1) Try.underlying30 Try.underlying5 Try.underlying9 HR1.out
 go_enter Try.func42,Try.ntmps42
 go_wp2
 go_ret
 exact⟨by first|rfl|(simp;done)|(simp [*];done),by repeat (first|exact Drawn0.refl _|apply Drawn0.step)⟩
end Go.Proofs.Ytmmjpieafbjggaa.P
end
