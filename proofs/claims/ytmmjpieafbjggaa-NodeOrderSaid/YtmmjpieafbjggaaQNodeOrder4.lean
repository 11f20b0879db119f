/- The law NodeOrder returns true for every input: the words, the walks and the plain statement that its row needs. No condition. (Merged by a program of this session out of its own texts.) -/
import Derived.Test.YtmmjpieafbjggaaProg
import Derived.Below
import Derived.Deep.Draws
import Derived.Deep.AppendLies
import Derived.Maps.AppendAt
import Derived.OwnWalk
import Derived.Laws.BytesArg
import Derived.Laws.MakeOwn
import Derived.Laws.OwnMore
import Derived.Deep.OwnRows
import Derived.Tactics
import Derived.Lib.ConvBytes
import Derived.Laws.Slices
import Derived.WalkKit
import Derived.KernelRfl
import Derived.RowKit3
import Derived.Deep.LoopGhost
import Derived.Deep.QuietTactic
import Derived.BigQuiet
import Derived.WideLaws
import Derived.Deep.DeepCutAuto
import Derived.Deep.CutBlock
import Derived.Deep.RegionHeld3
import Derived.Laws.Rows
import Derived.Lib.AppendStr
import Derived.ArgAppend
import Derived.Laws.IdiomCopy
import Derived.OrdersHeld
import Derived.Laws.BitsLemmas
import Derived.RowKit
import Derived.Laws.Cover2
import Derived.Laws.Externs
import Derived.Laws.FloatArith
import Derived.Laws.StructEq
import Derived.Test.YtmmjpieafbjggaaQNodeOrder0
import Derived.Test.YtmmjpieafbjggaaQNodeOrder1
import Derived.Test.YtmmjpieafbjggaaQNodeOrder2
import Derived.Test.YtmmjpieafbjggaaQNodeOrder3
section
namespace Go.Proofs.Ytmmjpieafbjggaa.P
open Go.RowKit Go.Proofs.YtmmjpieafbjggaaW.PrintWords Go.Proofs.YtmmjpieafbjggaaW.PrintLast Go.Proofs.YtmmjpieafbjggaaW.PrintMore
attribute [local go_sem] max2_int min2_int max_two min_two max_three min_three max_four min_four   -- for this text's walks alone
attribute [local go_sem] x_str_gtr x_str_leq x_str_geq ext_bits ext_frombits ext_neg x_store_float Instr.field asAgg
set_option linter.unusedVariables false
set_option linter.unusedSimpArgs false
def errW:Option Int→Value
  | none=>.nilIface
  | some c=>.iface 0 (.int .i64 c)
theorem errW_none:errW none = .nilIface:=rfl
theorem errW_some (c:Int):errW (some c) = .iface 0 (.int .i64 c):=rfl
theorem info3:(Try.prog.info? 3).map (fun i=>(i.zero,i.size,i.bytes))=some (some (.int .i64 0),1,8):=by kernel_rfl
theorem info5:(Try.prog.info? 5).map (fun i=>(i.zero,i.size,i.bytes))=some (some (.int .u8 0),1,1):=by kernel_rfl
theorem info9:(Try.prog.info? 9).map (fun i=>(i.zero,i.size,i.bytes))=some (some (.string ⟨#[]⟩),1,16):=by kernel_rfl
theorem info56:(Try.prog.info? 56).map (fun i=>(i.zero,i.size,i.bytes))=some (some (.agg #[(.string ⟨#[]⟩),(.int .i64 0),(.float .f64 0),(.string ⟨#[]⟩),(.int .i64 0),(.int .i64 0),(.float .f64 0),(.string ⟨#[]⟩)]),8,88):=by kernel_rfl
theorem info62:(Try.prog.info? 62).map (fun i=>(i.zero,i.size,i.bytes))=some (some (.agg #[(.string ⟨#[]⟩),(.int .i64 0),(.float .f64 0),(.string ⟨#[]⟩),(.int .i64 0),(.int .i64 0),(.float .f64 0),(.string ⟨#[]⟩)]),8,88):=by kernel_rfl
structure S54 where
  f0:Int
  f1:Nat
  f2:ByteArray
def z54:S54:=⟨(0:Int),(0:Nat),(⟨#[]⟩:ByteArray)⟩
def wf54 (x:S54):Prop:=(Lit.int .i64 x.f0).wf=true∧x.f1<18446744073709551616∧x.f2.size≤9223372036854775807
def k54:Kd S54:=Kd.iso (Kd.pair (Kd.int .i64) (Kd.pair Kd.float Kd.string)) (fun x:S54=>(x.f0,x.f1,x.f2))
theorem k54_open {w:World} {x:S54} {cs:List Value} (h:k54.K w x cs):cs = [.int .i64 x.f0,.float .f64 x.f1,.string x.f2]:=by
  obtain⟨_,_,rfl,rfl,⟨_,_,rfl,rfl,rfl⟩⟩:=h
  exact rfl
theorem k54_openM {w:World} {base:Nat} {ok:Nat→Prop} {x:S54} {cs:List Value} (h:k54.M w base ok x cs):cs = [.int .i64 x.f0,.float .f64 x.f1,.string x.f2]:=by
  obtain⟨_,_,rfl,rfl,⟨_,_,rfl,rfl,rfl⟩⟩:=h
  exact rfl
theorem k54_mkM (w:World) (base:Nat) (ok:Nat→Prop) (x:S54)  : k54.M w base ok x [.int .i64 x.f0,.float .f64 x.f1,.string x.f2]:=⟨[.int .i64 x.f0],[.float .f64 x.f1,.string x.f2],rfl,rfl,⟨[.float .f64 x.f1],[.string x.f2],rfl,rfl,rfl⟩⟩
structure S62 where
  f0:ByteArray
  f1:S54
  f2:Int
  f3:S54
def z62:S62:=⟨(⟨#[]⟩:ByteArray),z54,(0:Int),z54⟩
def k62:Kd S62:=Kd.iso (Kd.pair Kd.string (Kd.pair k54 (Kd.pair (Kd.int .i64) k54))) (fun x:S62=>(x.f0,x.f1,x.f2,x.f3))
theorem k62_open {w:World} {x:S62} {cs:List Value} (h:k62.K w x cs):cs = [.string x.f0,.int .i64 x.f1.f0,.float .f64 x.f1.f1,.string x.f1.f2,.int .i64 x.f2,.int .i64 x.f3.f0,.float .f64 x.f3.f1,.string x.f3.f2]:=by
  obtain⟨_,_,rfl,rfl,⟨_,_,rfl,s1,⟨_,_,rfl,rfl,s5⟩⟩⟩:=h
  obtain rfl:=k54_open s1
  obtain rfl:=k54_open s5
  exact rfl
theorem k62_mkM (w:World) (base:Nat) (ok:Nat→Prop) (x:S62)  : k62.M w base ok x [.string x.f0,.int .i64 x.f1.f0,.float .f64 x.f1.f1,.string x.f1.f2,.int .i64 x.f2,.int .i64 x.f3.f0,.float .f64 x.f3.f1,.string x.f3.f2]:=⟨[.string x.f0],[.int .i64 x.f1.f0,.float .f64 x.f1.f1,.string x.f1.f2,.int .i64 x.f2,.int .i64 x.f3.f0,.float .f64 x.f3.f1,.string x.f3.f2],rfl,rfl,⟨[.int .i64 x.f1.f0,.float .f64 x.f1.f1,.string x.f1.f2],[.int .i64 x.f2,.int .i64 x.f3.f0,.float .f64 x.f3.f1,.string x.f3.f2],rfl,(k54_mkM w base ok x.f1 ),⟨[.int .i64 x.f2],[.int .i64 x.f3.f0,.float .f64 x.f3.f1,.string x.f3.f2],rfl,rfl,(k54_mkM w base ok x.f3 )⟩⟩⟩
def rd_T62 (xs:List S62) (i:Int):S62:=xs.getD i.toNat z62
theorem at_T62 {w:World} {A:Option Addr} {n:Nat} {xs:List S62} (h:Kd.C k62 w A n xs) (i:Int) (h0:0≤i) (h1:i<n):∃ ad ,A=some ad∧w.cell? (ad.add (i.toNat * 8))=some (.string (rd_T62 xs i).f0)∧w.cell? ⟨(ad.add (i.toNat * 8)).block,(ad.add (i.toNat * 8)).off+1,none⟩=some (.int .i64 (rd_T62 xs i).f1.f0)∧w.cell? ⟨(ad.add (i.toNat * 8)).block,(ad.add (i.toNat * 8)).off+2,none⟩=some (.float .f64 (rd_T62 xs i).f1.f1)∧w.cell? ⟨(ad.add (i.toNat * 8)).block,(ad.add (i.toNat * 8)).off+3,none⟩=some (.string (rd_T62 xs i).f1.f2)∧w.cell? ⟨(ad.add (i.toNat * 8)).block,(ad.add (i.toNat * 8)).off+4,none⟩=some (.int .i64 (rd_T62 xs i).f2)∧w.cell? ⟨(ad.add (i.toNat * 8)).block,(ad.add (i.toNat * 8)).off+5,none⟩=some (.int .i64 (rd_T62 xs i).f3.f0)∧w.cell? ⟨(ad.add (i.toNat * 8)).block,(ad.add (i.toNat * 8)).off+6,none⟩=some (.float .f64 (rd_T62 xs i).f3.f1)∧w.cell? ⟨(ad.add (i.toNat * 8)).block,(ad.add (i.toNat * 8)).off+7,none⟩=some (.string (rd_T62 xs i).f3.f2):=by
  obtain⟨ad,c,e,_,hK,hc0⟩:=Kd.C_get h z62 i h0 h1
  have hc:∀ j u,c[j]? = some u→w.cell? (ad.add (i.toNat * 8+j))=some u:=hc0
  obtain rfl:=k62_open hK
  exact⟨ad,e,hc 0 _ rfl,by rw [← add_field _ _ 1 (by omega)];exact hc 1 _ rfl,by rw [← add_field _ _ 2 (by omega)];exact hc 2 _ rfl,by rw [← add_field _ _ 3 (by omega)];exact hc 3 _ rfl,by rw [← add_field _ _ 4 (by omega)];exact hc 4 _ rfl,by rw [← add_field _ _ 5 (by omega)];exact hc 5 _ rfl,by rw [← add_field _ _ 6 (by omega)];exact hc 6 _ rfl,by rw [← add_field _ _ 7 (by omega)];exact hc 7 _ rfl⟩
structure S56 where
  f0:ByteArray
  f1:S54
  f2:Int
  f3:S54
def z56:S56:=⟨(⟨#[]⟩:ByteArray),z54,(0:Int),z54⟩
def wf56 (x:S56):Prop:=x.f0.size≤9223372036854775807∧wf54 (x.f1)∧(Lit.int .i64 x.f2).wf=true∧wf54 (x.f3)
def k56:Kd S56:=Kd.iso (Kd.pair Kd.string (Kd.pair k54 (Kd.pair (Kd.int .i64) k54))) (fun x:S56=>(x.f0,x.f1,x.f2,x.f3))
theorem k56_open {w:World} {x:S56} {cs:List Value} (h:k56.K w x cs):cs = [.string x.f0,.int .i64 x.f1.f0,.float .f64 x.f1.f1,.string x.f1.f2,.int .i64 x.f2,.int .i64 x.f3.f0,.float .f64 x.f3.f1,.string x.f3.f2]:=by
  obtain⟨_,_,rfl,rfl,⟨_,_,rfl,s1,⟨_,_,rfl,rfl,s5⟩⟩⟩:=h
  obtain rfl:=k54_open s1
  obtain rfl:=k54_open s5
  exact rfl
theorem k56_openM {w:World} {base:Nat} {ok:Nat→Prop} {x:S56} {cs:List Value} (h:k56.M w base ok x cs):cs = [.string x.f0,.int .i64 x.f1.f0,.float .f64 x.f1.f1,.string x.f1.f2,.int .i64 x.f2,.int .i64 x.f3.f0,.float .f64 x.f3.f1,.string x.f3.f2]:=by
  obtain⟨_,_,rfl,rfl,⟨_,_,rfl,s1,⟨_,_,rfl,rfl,s5⟩⟩⟩:=h
  obtain rfl:=k54_openM s1
  obtain rfl:=k54_openM s5
  exact rfl
theorem k56_mkM (w:World) (base:Nat) (ok:Nat→Prop) (x:S56)  : k56.M w base ok x [.string x.f0,.int .i64 x.f1.f0,.float .f64 x.f1.f1,.string x.f1.f2,.int .i64 x.f2,.int .i64 x.f3.f0,.float .f64 x.f3.f1,.string x.f3.f2]:=⟨[.string x.f0],[.int .i64 x.f1.f0,.float .f64 x.f1.f1,.string x.f1.f2,.int .i64 x.f2,.int .i64 x.f3.f0,.float .f64 x.f3.f1,.string x.f3.f2],rfl,rfl,⟨[.int .i64 x.f1.f0,.float .f64 x.f1.f1,.string x.f1.f2],[.int .i64 x.f2,.int .i64 x.f3.f0,.float .f64 x.f3.f1,.string x.f3.f2],rfl,(k54_mkM w base ok x.f1 ),⟨[.int .i64 x.f2],[.int .i64 x.f3.f0,.float .f64 x.f3.f1,.string x.f3.f2],rfl,rfl,(k54_mkM w base ok x.f3 )⟩⟩⟩
def rd_T56 (xs:List S56) (i:Int):S56:=xs.getD i.toNat z56
theorem at_T56 {w:World} {A:Option Addr} {n:Nat} {xs:List S56} (h:Kd.C k56 w A n xs) (i:Int) (h0:0≤i) (h1:i<n):∃ ad ,A=some ad∧w.cell? (ad.add (i.toNat * 8))=some (.string (rd_T56 xs i).f0)∧w.cell? ⟨(ad.add (i.toNat * 8)).block,(ad.add (i.toNat * 8)).off+1,none⟩=some (.int .i64 (rd_T56 xs i).f1.f0)∧w.cell? ⟨(ad.add (i.toNat * 8)).block,(ad.add (i.toNat * 8)).off+2,none⟩=some (.float .f64 (rd_T56 xs i).f1.f1)∧w.cell? ⟨(ad.add (i.toNat * 8)).block,(ad.add (i.toNat * 8)).off+3,none⟩=some (.string (rd_T56 xs i).f1.f2)∧w.cell? ⟨(ad.add (i.toNat * 8)).block,(ad.add (i.toNat * 8)).off+4,none⟩=some (.int .i64 (rd_T56 xs i).f2)∧w.cell? ⟨(ad.add (i.toNat * 8)).block,(ad.add (i.toNat * 8)).off+5,none⟩=some (.int .i64 (rd_T56 xs i).f3.f0)∧w.cell? ⟨(ad.add (i.toNat * 8)).block,(ad.add (i.toNat * 8)).off+6,none⟩=some (.float .f64 (rd_T56 xs i).f3.f1)∧w.cell? ⟨(ad.add (i.toNat * 8)).block,(ad.add (i.toNat * 8)).off+7,none⟩=some (.string (rd_T56 xs i).f3.f2):=by
  obtain⟨ad,c,e,_,hK,hc0⟩:=Kd.C_get h z56 i h0 h1
  have hc:∀ j u,c[j]? = some u→w.cell? (ad.add (i.toNat * 8+j))=some u:=hc0
  obtain rfl:=k56_open hK
  exact⟨ad,e,hc 0 _ rfl,by rw [← add_field _ _ 1 (by omega)];exact hc 1 _ rfl,by rw [← add_field _ _ 2 (by omega)];exact hc 2 _ rfl,by rw [← add_field _ _ 3 (by omega)];exact hc 3 _ rfl,by rw [← add_field _ _ 4 (by omega)];exact hc 4 _ rfl,by rw [← add_field _ _ 5 (by omega)];exact hc 5 _ rfl,by rw [← add_field _ _ 6 (by omega)];exact hc 6 _ rfl,by rw [← add_field _ _ 7 (by omega)];exact hc 7 _ rfl⟩
structure S26 where
  f0:Bool
  f1:(List S56)
  f2:(List ByteArray)
  f3:(List Int)
def wf26 (x:S26):Prop:=True∧(x.f1.length≤9223372036854775807∧∀ y∈x.f1,wf56 y)∧(x.f2.length≤9223372036854775807∧∀ y∈x.f2,y.size≤9223372036854775807)∧(x.f3.length≤9223372036854775807∧∀ y∈x.f3,(Lit.int .i64 y).wf=true)
def k26:Kd S26:=Kd.iso (Kd.pair Kd.bool (Kd.pair (Kd.slice 56 k56) (Kd.pair (Kd.slice 9 Kd.string) (Kd.slice 3 (Kd.int .i64))))) (fun x:S26=>(x.f0,x.f1,x.f2,x.f3))
theorem k26_open {w:World} {x:S26} {cs:List Value} (h:k26.K w x cs):∃ A1 c1 A2 c2 A3 c3,cs = [.bool x.f0,.slice A1 x.f1.length c1,.slice A2 x.f2.length c2,.slice A3 x.f3.length c3]∧x.f1.length≤c1∧k56.C w A1 x.f1.length x.f1∧x.f2.length≤c2∧Kd.string.C w A2 x.f2.length x.f2∧x.f3.length≤c3∧(Kd.int .i64).C w A3 x.f3.length x.f3:=by
  obtain⟨_,_,rfl,rfl,⟨_,_,rfl,⟨A1,c1,rfl,l1,g1⟩,⟨_,_,rfl,⟨A2,c2,rfl,l2,g2⟩,⟨A3,c3,rfl,l3,g3⟩⟩⟩⟩:=h
  exact⟨A1,c1,A2,c2,A3,c3,rfl,l1,g1,l2,g2,l3,g3⟩
end Go.Proofs.Ytmmjpieafbjggaa.P
end
section
set_option linter.unusedVariables false
namespace Go.Proofs.YtmmjpieafbjggaaW.PrintLast
open Go.RowKit Go.Proofs.YtmmjpieafbjggaaW.PrintWords Go.Proofs.YtmmjpieafbjggaaW.PrintMore
section
variable {P:Program} {ops:Array Oper} {Q:Exit→Act→World→Prop} {md:Region.Mode} {S:World→Prop} {ds:List Nat} {T:Bool × List (List Nat × List Nat)} {B:List Nat}
  {oi:Oper} {v:Value} {fuel:Nat} {l l':Array Bool} {a a':Act} {w:World}
theorem pA (i:Nat) (N:Tmp) (hT:Aside0 (rtab md ops=T)) (h:wpAnyLast P md ops Q S ds fuel l' a' w)
    (hi:ops[i]? = some oi:=by exact rfl) (hN:oi.dst=some N:=by exact rfl)
    (hl:l.setIfInBounds i true=l':=by simp only [List.setIfInBounds_toArray,List.set_cons_zero,List.set_cons_succ];rfl)
    (hc:anyT T l.toList l'.toList i=true:=by kernel_rfl)
    (hw:Region.wanted oi (yielded ops a.tmps)=true:=by rfl)
    (hy:∀ w':World,(execOp a.eval oi).run P w' = .ok (.value v) w':=by intro w';go_simp;with_reducible rfl)
    (hQ:∀ c a w,Q (.panic c) (a.put oi.dst v) w→Q (.panic c) a w:=by exact fun _ _ _ h=>h)
    (ha:a.put (some N) v=a':=by simp only [Act.put,List.setIfInBounds_toArray,List.set_cons_zero,List.set_cons_succ,i64_w,i32_w];rfl):wpAnyLast P md ops Q S ds (fuel+1) l a w :=
  pure_ l' hi hN (any_of hT.out hc) hQ (Or.inl ⟨hw,hy⟩) ha h
theorem pU (i:Nat) (N:Tmp) (hT:Aside0 (rtab md ops=T)) (h:wpAnyLast P md ops Q S ds fuel l' a' w)
    (hi:ops[i]? = some oi:=by exact rfl) (hN:oi.dst=some N:=by exact rfl)
    (hl:l.setIfInBounds i true=l':=by simp only [List.setIfInBounds_toArray,List.set_cons_zero,List.set_cons_succ];rfl)
    (hc:anyT T l.toList l'.toList i=true:=by kernel_rfl)
    (hw:Region.wanted oi (yielded ops a.tmps)=false:=by rfl)
    (hQ:∀ c a w,Q (.panic c) (a.put oi.dst undef) w→Q (.panic c) a w:=by exact fun _ _ _ h=>h)
    (ha:a.put (some N) undef=a':=by simp only [Act.put,List.setIfInBounds_toArray,List.set_cons_zero,List.set_cons_succ,i64_w,i32_w];rfl):wpAnyLast P md ops Q S ds (fuel+1) l a w :=
  pure_ l' hi hN (any_of hT.out hc) hQ (Or.inr ⟨hw,rfl⟩) ha h
theorem tA (i:Nat) (N:Tmp) (hT:Aside0 (rtab md ops=T)) (hB:Aside0 (waitsOk T.2 B=true)) (hS:S w) (h:wpAnyLast P md ops Q S ds fuel l' a' w)
    (hi:ops[i]? = some oi:=by exact rfl) (hN:oi.dst=some N:=by exact rfl)
    (hl:l.setIfInBounds i true=l':=by simp only [List.setIfInBounds_toArray,List.set_cons_zero,List.set_cons_succ];rfl)
    (hc:takeW T B ds l.toList l'.toList i=true:=by kernel_rfl)
    (hw:Region.wanted oi (yielded ops a.tmps)=true:=by rfl)
    (hy:∀ w':World,S w'→(execOp a.eval oi).run P w' = .ok (.value v) w')
    (hQ:∀ c a w,Q (.panic c) (a.put oi.dst v) w→Q (.panic c) a w:=by exact fun _ _ _ h=>h)
    (ha:a.put (some N) v=a':=by simp only [Act.put,List.setIfInBounds_toArray,List.set_cons_zero,List.set_cons_succ,i64_w,i32_w];rfl):wpAnyLast P md ops Q S ds (fuel+1) l a w :=
  take_ l' hi hN (take_ofW hT.out hB.out hc) hQ (Or.inl ⟨hw,hy⟩) hS ha h
theorem oA (i:Nat) (N:Option Tmp) (hT:Aside0 (rtab md ops=T))
    (h:∀ K:Act→World→Prop,Shut (∀ a' w',S w'→(S w'→wpAnyLast P md ops Q S ds fuel l' a' w')→K a' w')→if Region.wanted oi (yielded ops a.tmps)=true then Oper.wp P oi a w K Q else K (a.put N undef) w)
    (hi:ops[i]? = some oi:=by exact rfl) (hN:oi.dst=N:=by exact rfl)
    (hl:l.setIfInBounds i true=l':=by simp only [List.setIfInBounds_toArray,List.set_cons_zero,List.set_cons_succ];rfl)
    (hc:(readyT T.2 l.toList == [i] && l.toList.set i true == l'.toList)=true:=by kernel_rfl) (hd:i ∉ ds:=by decide):wpAnyLast P md ops Q S ds (fuel+1) l a w :=
  one_ l' hi hN (one_of hT.out hc) hd h
theorem gL {rest:List Oper} (N:Option Tmp) {f:FuncId} {fn:Func} {as_:Array Operand} {ts:Array TypeId} (hf:P.funcs[f]? = some fn) (args:Array Value)
    (h:Calls P f args w fun e w'=>∃ v,e = .returned v∧wpList P ops Q rest (a.put N v) w')
    (hd : oi.dst = N := by exact rfl) (hg : oi.guard = none := by exact rfl) (hname : (fn.name == "runtime.NumGoroutine") = false := by kernel_rfl) (hb : fn.body.isSome = true := by exact rfl)
    (hop:oi.op = .call { callee:=.value (.func f),args:=as_,argTypes:=ts }:=by exact rfl)
    (hargs:as_.map a.eval=args:=by (try simp only [List.map_toArray,List.map_cons,List.map_nil]);first|done|rfl|(simp only [List.length_drop,List.length_take];rfl)):wpList P ops Q (oi :: rest) a w :=
  goesL_ N hd hg hf hname hb args hop hargs h
end
end Go.Proofs.YtmmjpieafbjggaaW.PrintLast
namespace Go.Proofs.YtmmjpieafbjggaaW.PrintWords
open Go.RowKit
section
variable {α:Type} {d:Kd α} {e base n:Nat} {ok:Nat→Prop} {u v:Value} {xs:List α} {w0 W w1:World}
theorem dA {p:Prop} [Decidable p] (h:decide p=true:=by first|(with_reducible assumption)|assumption):p:=of_decide_eq_true h
theorem bK {w0 w1:World} {g:Nat} {o:Obj} (X:Aside0 (w0.heap[g]? = some o)) (h:w0.heap[g]? = some o→w1.heap[g]? = some o:=by intro h_;(with_reducible repeat (first|refine blk_drewN ?_ _|refine blk_drew ?_|refine blk_alloc ?_ _));exact h_):Aside0 (w1.heap[g]? = some o):=⟨h X.out⟩
theorem bV {w w0 w1:World} (HB:Aside0 (Below w.heap.size w w0)) (h:Below w.heap.size w w0→Below w.heap.size w w1:=by intro h_;repeat (first|(with_reducible first|exact h_|apply below_alloc|apply pw_below_drewN|apply below_drew1|refine below_set ?_ (Aside0.out (by assumption)))|exact h_)):Aside0 (Below w.heap.size w w1):=⟨h HB.out⟩
theorem sC {α:Type} {d:Kd α} {w0 w1:World} {A:Option Addr} {n:Nat} {xs:List α} (h0:Kd.C d w0 A n xs) (h:Kd.C d w0 A n xs→Kd.C d w1 A n xs:=by intro h_;repeat (first|exact h_|(with_reducible refine Kd.C_alloc ?_ _)|(with_reducible refine Kd.C_drewN ?_ _)|(with_reducible refine Kd.C_drew ?_))):Kd.C d w1 A n xs:=h h0
theorem aK {p:Prop} (h:p):Aside0 p:=⟨h⟩
theorem oS {α β:Type} {x:Option α} {f:α→Option β} {b:β} (h:x.bind f=some b):∃ a,x=some a∧f a=some b:=Option.bind_eq_some_iff.1 h
theorem cW {w w1 w2:World} {a:Addr} {v:Value} (HB:Aside0 (Below w.heap.size w w1)) (h:w.cell? a=some v) (e:w2.cell? a=w1.cell? a:=by exact rfl):w2.cell? a=some v:=e.trans ((HB.out.cell (World.block_lt_of_cell? w _ h)).trans h)
theorem rB (X:Aside0 (Kd.R d e w0 base ok u xs)) (hb:Below W.heap.size W w1) (h:Kd.R d e w0 base ok u xs→Kd.R d e W base ok u xs:=by intro h_;(with_reducible repeat (first|apply Kd.R_alloc|apply Kd.R_drewN|apply Kd.R_drew));exact h_):Aside0 (Kd.R d e w1 base ok u xs):=⟨Kd.R_below (h X.out) hb⟩
theorem rE (X:Aside0 (Kd.R d e w0 base ok u xs)) (hv:∀ k,v.ownBlock=some k→W.heap.size≤k) (hb:Below W.heap.size W w1) (h:Kd.R d e w0 base ok u xs→Kd.R d e W base ok u xs:=by intro h_;(with_reducible repeat (first|apply Kd.R_alloc|apply Kd.R_drewN|apply Kd.R_drew));exact h_):Aside0 (Kd.R d e w1 base (fun k=>ok k∧some k≠v.ownBlock) u xs):=⟨Kd.R_elder' (h X.out) hv hb⟩
theorem vB (X:Aside0 (Kd.V d e w0 base ok u xs)) (hb:Below W.heap.size W w1) (h:Kd.V d e w0 base ok u xs→Kd.V d e W base ok u xs:=by intro h_;(with_reducible repeat (first|apply Kd.V_alloc|apply Kd.V_drewN|apply Kd.V_drew));exact h_):Aside0 (Kd.V d e w1 base ok u xs):=⟨Kd.V_below (h X.out) hb⟩
theorem vE (X:Aside0 (Kd.V d e w0 base ok u xs)) (hv:∀ k,v.ownBlock=some k→W.heap.size≤k) (hb:Below W.heap.size W w1) (h:Kd.V d e w0 base ok u xs→Kd.V d e W base ok u xs:=by intro h_;(with_reducible repeat (first|apply Kd.V_alloc|apply Kd.V_drewN|apply Kd.V_drew));exact h_):Aside0 (Kd.V d e w1 base (fun k=>ok k∧some k≠v.ownBlock) u xs):=⟨Kd.V_elder' (h X.out) hv hb⟩
theorem rF (X:Aside0 (Kd.R d e w0 base ok u xs)) (k:Nat) (hn:W.heap.size≤k) (h:Kd.R d e w0 base ok u xs→Kd.R d e W base ok u xs:=by intro h_;(with_reducible repeat (first|apply Kd.R_alloc|apply Kd.R_drewN|apply Kd.R_drew));exact h_):some k≠u.ownBlock:=Kd.fresh' (Kd.R_lt (h X.out)) k hn
end
end Go.Proofs.YtmmjpieafbjggaaW.PrintWords
namespace Go.Proofs.Ytmmjpieafbjggaa.P
open Go.RowKit Go.Proofs.YtmmjpieafbjggaaW.PrintWords Go.Proofs.YtmmjpieafbjggaaW.PrintLast Go.Proofs.YtmmjpieafbjggaaW.PrintMore
theorem xB {A:Prop} {w w0 w1:World} (HB:Aside0 (Below w.heap.size w w0)) (hA:A:=by first|rfl|(simp [errW_none,errW_some] <;> rfl)|(simp [*,errW_none,errW_some] <;> rfl))
    (h:Below w.heap.size w w0→Below w.heap.size w w1:=by intro h_;repeat (first|(with_reducible first|exact h_|apply below_alloc|apply pw_below_drewN|apply below_drew1|refine below_set ?_ (Aside0.out (by assumption)))|exact h_)):A∧Below w.heap.size w w1:=⟨hA,h HB.out⟩
end Go.Proofs.Ytmmjpieafbjggaa.P
end
section
namespace Go.Proofs.Ytmmjpieafbjggaa.P
open Go.RowKit Go.Proofs.YtmmjpieafbjggaaW.PrintWords Go.Proofs.YtmmjpieafbjggaaW.PrintLast Go.Proofs.YtmmjpieafbjggaaW.PrintMore
attribute [local go_sem] max2_int min2_int max_two min_two max_three min_three max_four min_four   -- for this text's walks alone
attribute [local go_sem] x_str_gtr x_str_leq x_str_geq ext_bits ext_frombits ext_neg x_store_float Instr.field asAgg
set_option linter.unusedVariables false
set_option linter.unusedSimpArgs false
def key_May.f (a0:ByteArray):Option (Bool):=if a0.toList=([]:List UInt8) then (some false) else (some (decide ((a0.size:Int)≤16)))
set_option maxHeartbeats 8000000 in
set_option maxRecDepth 100000 in
theorem key_May.calls (a0:ByteArray) (r:Bool) (w:World) (h:key_May.f a0=some r) :
  Calls Try.prog 34 #[.string a0] w fun e w'=>e = .returned (.bool r)∧Drawn0 w w':=by
 have H:(if a0.toList=([]:List UInt8) then (some false) else (some (decide ((a0.size:Int)≤16))))=some r:=h
 clear h
 by_cases c2:a0.toList=([]:List UInt8)
 rotate_left
 ·rw [if_neg c2] at H
  have aa:(a0.toList == ([]:List UInt8))=false:=beq_eq_false_iff_ne.mpr c2
  have ab:(a0.toList != ([]:List UInt8))=true:=bne_iff_ne.mpr c2
  obtain rfl:=Option.some.inj H
  go_enter Try.func34,Try.ntmps34
  go_wp2
  go_ret
  exact⟨by first|rfl|(simp;done)|(simp [*];done),by repeat (first|exact Drawn0.refl _|apply Drawn0.step)⟩
 rw [if_pos c2] at H
 have aa:(a0.toList == ([]:List UInt8))=true:=beq_iff_eq.mpr c2
 have ab:(a0.toList != ([]:List UInt8))=false:=bne_eq_false_iff_eq.mpr c2
 clear c2
 obtain rfl:=Option.some.inj H
 go_enter Try.func34,Try.ntmps34
 go_wp2
 go_ret
 exact⟨by first|rfl|(simp;done)|(simp [*];done),by repeat (first|exact Drawn0.refl _|apply Drawn0.step)⟩
def datum_zero.f (a0:Nat):Option (Bool):=some (((a0:Nat):Int) == 0)
set_option maxHeartbeats 8000000 in
set_option maxRecDepth 100000 in
theorem datum_zero.calls (a0:Nat) (r:Bool) (w:World) (h:datum_zero.f a0=some r) :
  Calls Try.prog 62 #[.float .f64 a0] w fun e w'=>e = .returned (.bool r)∧Drawn0 w w':=by
 have H:(some (((a0:Nat):Int) == 0))=some r:=h
 clear h
 obtain rfl:=Option.some.inj H
 go_enter Try.func62,Try.ntmps62
 go_wp2
 go_ret
 exact⟨by first|rfl|(simp;done)|(simp [*];done),by repeat (first|exact Drawn0.refl _|apply Drawn0.step)⟩
def math_IsNaN.f (a0:Nat):Option (Bool):=some (FloatKind.f64.format.order a0 a0 != some .eq)
set_option maxHeartbeats 8000000 in
set_option maxRecDepth 100000 in
theorem math_IsNaN.calls (a0:Nat) (r:Bool) (w:World) (h:math_IsNaN.f a0=some r) :
  Calls Try.prog 71 #[.float .f64 a0] w fun e w'=>e = .returned (.bool r)∧Drawn0 w w':=by
 have H:(some (FloatKind.f64.format.order a0 a0 != some .eq))=some r:=h
 clear h
 obtain rfl:=Option.some.inj H
 go_enter Try.func71,Try.ntmps71
 go_wp2
 go_ret
 exact⟨by first|rfl|(simp;done)|(simp [*];done),by repeat (first|exact Drawn0.refl _|apply Drawn0.step)⟩
def float_Clean.f (a0:Nat):Option (Nat):=(math_IsNaN.f a0).bind fun t101=>(if t101=true then (some 9221120237041090560) else (some a0))
set_option maxHeartbeats 8000000 in
set_option maxRecDepth 100000 in
theorem float_Clean.calls (a0:Nat) (r:Nat) (w:World) (h:float_Clean.f a0=some r) :
  Calls Try.prog 64 #[.float .f64 a0] w fun e w'=>e = .returned (.float .f64 r)∧Drawn0 w w':=by
 have H:((math_IsNaN.f a0).bind fun aa=>(if aa=true then (some 9221120237041090560) else (some a0)))=some r:=h
 clear h
 replace H:=oS H
 obtain⟨aa,A20,H⟩:=H
 replace H:(if aa=true then (some 9221120237041090560) else (some a0))=some r:=H
 have A2:=aK A20
 clear A20
 by_cases c3:aa=true
 ·subst c3
  have H1:(some 9221120237041090560)=some r:=by rw [if_pos rfl] at H;exact H
  clear H
  have H:=H1
  clear H1
  obtain rfl:=Option.some.inj H
  go_enter Try.func64,Try.ntmps64
  go_wp2_with (first|((with_reducible refine gate_callee (f:=71) rfl ?_);refine gL (some 4) Try.func71 #[.float .f64 a0] ?_;(with_reducible refine (math_IsNaN.calls a0 true _ A2.out).mono ?_);rintro e w' ⟨rfl,⟨nd,rfl⟩⟩;refine⟨_,rfl,?_⟩))
  go_ret
  exact⟨by first|rfl|(simp;done)|(simp [*];done),by repeat (first|exact Drawn0.refl _|apply Drawn0.step)⟩
 replace c3:=Bool.eq_false_iff.mpr c3
 subst c3
 have H1:(some a0)=some r:=by rw [if_neg (show ¬ (false=true) by decide)] at H;exact H
 clear H
 have H:=H1
 clear H1
 obtain rfl:=Option.some.inj H
 go_enter Try.func64,Try.ntmps64
 go_wp2_with (first|((with_reducible refine gate_callee (f:=71) rfl ?_);refine gL (some 4) Try.func71 #[.float .f64 a0] ?_;(with_reducible refine (math_IsNaN.calls a0 false _ A2.out).mono ?_);rintro e w' ⟨rfl,⟨nd,rfl⟩⟩;refine⟨_,rfl,?_⟩))
 go_ret
 exact⟨by first|rfl|(simp;done)|(simp [*];done),by repeat (first|exact Drawn0.refl _|apply Drawn0.step)⟩
def datum_May.f (a0_0:Int) (a0_1:Nat) (a0_2:ByteArray):Option (Bool):=if a0_0=0 then ((datum_zero.f a0_1).bind fun t103=>(if t103=true then (some (a0_2.toList == ([]:List UInt8))) else (some false))) else (if a0_0=1 then (if a0_2.toList=([]:List UInt8) then ((float_Clean.f a0_1).bind fun t104=>(some (((a0_1:Nat):Int) == ((t104:Nat):Int)))) else (some false)) else (if a0_0=2 then ((datum_zero.f a0_1).bind fun t105=>(if t105=true then (some (decide ((a0_2.size:Int)≤20))) else (some false))) else (some false)))
def datum_May.T5:Bool × List (List Nat × List Nat):=(true,[([],[]),([0],[0]),([1],[1]),([2],[2]),([3],[3]),([4,3],[3,4]),([5,3,3],[3,5]),([3],[3]),([7,3],[3,7]),([8,6,3],[3,8]),([9,9,3],[3,9]),([6,10,3],[3,6,10]),([3,11],[3,11]),([12,10,0,1,2,3,4,5,6,7,8,9,10,11,12],[12])])
def datum_May.B5:List Nat:=[0,1,3,7,15,31,63,15,143,511,1023,2047,4095,8191]
theorem datum_May.tab5:rtab .any (opsOf Try.f48 5)=datum_May.T5:=by kernel_rfl
theorem datum_May.bits5:waitsOk datum_May.T5.2 datum_May.B5=true:=by kernel_rfl
set_option maxHeartbeats 8000000 in
set_option maxRecDepth 100000 in
theorem datum_May.calls (aa:Int) (ac:Nat) (ae:ByteArray) (r:Bool) (w:World) (h:datum_May.f aa ac ae=some r) :
  Calls Try.prog 48 #[.agg #[.int .i64 aa,.float .f64 ac,.string ae]] w fun e w'=>e = .returned (.bool r)∧Below w.heap.size w w':=by
 have hu54:=Try.underlying54
 have HB:=aK (Below.refl w.heap.size w)
 have H:(if aa=0 then ((datum_zero.f ac).bind fun ai=>(if ai=true then (some (ae.toList == ([]:List UInt8))) else (some false))) else (if aa=1 then (if ae.toList=([]:List UInt8) then ((float_Clean.f ac).bind fun aj=>(some (((ac:Nat):Int) == ((aj:Nat):Int)))) else (some false)) else (if aa=2 then ((datum_zero.f ac).bind fun ak=>(if ak=true then (some (decide ((ae.size:Int)≤20))) else (some false))) else (some false))))=some r:=h
 clear h
 by_cases c2:aa=0
 ·rw [if_pos c2] at H
  have au:(aa == 0)=true:=beq_iff_eq.mpr c2
  have av:(aa != 0)=false:=bne_eq_false_iff_eq.mpr c2
  clear c2
  replace H:=oS H
  obtain⟨ai,A30,H⟩:=H
  replace H:(if ai=true then (some (ae.toList == ([]:List UInt8))) else (some false))=some r:=H
  have A3:=aK A30
  clear A30
  by_cases c4:ai=true
  ·subst c4
   have H1:(some (ae.toList == ([]:List UInt8)))=some r:=by rw [if_pos rfl] at H;exact H
   clear H
   have H:=H1
   clear H1
   obtain rfl:=Option.some.inj H
   go_enter Try.func48,Try.ntmps48
   go_wp2_with (first|((with_reducible refine gate_dst (N:=1) rfl ?_);(try (refine gate_guard (by rfl) ?_;dsimp only));refine box_event ?hg (N:=1) ?hd (cs:=#[.int .i64 aa,.float .f64 ac,.string ae]) (t:=54) ?hr ?_;(case hd=>rfl);(case hg=>rfl);(case hr=>first|(go_simp;done)|(go_simp;rfl));intro af hg w5 hbox hb;have ab:=aK (hbox);have ag:=bZ HB hg;have ah:=bZ HB hg;replace HB:=bW HB hb;clear hb hbox hg;obtain⟨bm,bn,bo,bp,bq,br⟩:=bf3 (w:=w5) ab)|((with_reducible refine gate_callee (f:=62) rfl ?_);refine gL (some 9) Try.func62 #[.float .f64 ac] ?_;(with_reducible refine (datum_zero.calls ac true _ A3.out).mono ?_);rintro e w' ⟨rfl,⟨nd,rfl⟩⟩;refine⟨_,rfl,?_⟩))
   go_ret
   exact xB HB
  replace c4:=Bool.eq_false_iff.mpr c4
  subst c4
  have H1:(some false)=some r:=by rw [if_neg (show ¬ (false=true) by decide)] at H;exact H
  clear H
  have H:=H1
  clear H1
  obtain rfl:=Option.some.inj H
  go_enter Try.func48,Try.ntmps48
  go_wp2_with (first|((with_reducible refine gate_dst (N:=1) rfl ?_);(try (refine gate_guard (by rfl) ?_;dsimp only));refine box_event ?hg (N:=1) ?hd (cs:=#[.int .i64 aa,.float .f64 ac,.string ae]) (t:=54) ?hr ?_;(case hd=>rfl);(case hg=>rfl);(case hr=>first|(go_simp;done)|(go_simp;rfl));intro af hg w7 hbox hb;have ab:=aK (hbox);have ag:=bZ HB hg;have ah:=bZ HB hg;replace HB:=bW HB hb;clear hb hbox hg;obtain⟨bs,bu,bv,bw,bx,bA⟩:=bf3 (w:=w7) ab)|((with_reducible refine gate_callee (f:=62) rfl ?_);refine gL (some 9) Try.func62 #[.float .f64 ac] ?_;(with_reducible refine (datum_zero.calls ac false _ A3.out).mono ?_);rintro e w' ⟨rfl,⟨nd,rfl⟩⟩;refine⟨_,rfl,?_⟩))
  go_ret
  exact xB HB
 rw [if_neg c2] at H
 have au:(aa == 0)=false:=beq_eq_false_iff_ne.mpr c2
 have av:(aa != 0)=true:=bne_iff_ne.mpr c2
 by_cases c9:aa=1
 rotate_left
 ·rw [if_neg c9] at H
  have aw:(aa == 1)=false:=beq_eq_false_iff_ne.mpr c9
  have ax:(aa != 1)=true:=bne_iff_ne.mpr c9
  by_cases c18:aa=2
  rotate_left
  ·rw [if_neg c18] at H
   have ao:(aa == 2)=false:=beq_eq_false_iff_ne.mpr c18
   have ap:(aa != 2)=true:=bne_iff_ne.mpr c18
   obtain rfl:=Option.some.inj H
   go_enter Try.func48,Try.ntmps48
   go_wp2_with (first|((with_reducible refine gate_dst (N:=1) rfl ?_);(try (refine gate_guard (by rfl) ?_;dsimp only));refine box_event ?hg (N:=1) ?hd (cs:=#[.int .i64 aa,.float .f64 ac,.string ae]) (t:=54) ?hr ?_;(case hd=>rfl);(case hg=>rfl);(case hr=>first|(go_simp;done)|(go_simp;rfl));intro af hg w25 hbox hb;have ab:=aK (hbox);have ag:=bZ HB hg;have ah:=bZ HB hg;replace HB:=bW HB hb;clear hb hbox hg;obtain⟨ay,az,aA,aC,aD,aE⟩:=bf3 (w:=w25) ab))
   go_ret
   exact xB HB
  rw [if_pos c18] at H
  have ao:(aa == 2)=true:=beq_iff_eq.mpr c18
  have ap:(aa != 2)=false:=bne_eq_false_iff_eq.mpr c18
  clear c18
  replace H:=oS H
  obtain⟨ak,al,H⟩:=H
  replace H:(if ak=true then (some (decide ((ae.size:Int)≤20))) else (some false))=some r:=H
  have A19:=aK al
  clear al
  by_cases c20:ak=true
  ·subst c20
   have H1:(some (decide ((ae.size:Int)≤20)))=some r:=by rw [if_pos rfl] at H;exact H
   clear H
   have H:=H1
   clear H1
   obtain rfl:=Option.some.inj H
   go_enter Try.func48,Try.ntmps48
   go_wp2_with (first|((with_reducible refine gate_dst (N:=1) rfl ?_);(try (refine gate_guard (by rfl) ?_;dsimp only));refine box_event ?hg (N:=1) ?hd (cs:=#[.int .i64 aa,.float .f64 ac,.string ae]) (t:=54) ?hr ?_;(case hd=>rfl);(case hg=>rfl);(case hr=>first|(go_simp;done)|(go_simp;rfl));intro af hg w21 hbox hb;have ab:=aK (hbox);have ag:=bZ HB hg;have ah:=bZ HB hg;replace HB:=bW HB hb;clear hb hbox hg;obtain⟨aG,aH,aI,aJ,aM,aN⟩:=bf3 (w:=w21) ab)|((with_reducible refine gate_callee (f:=62) rfl ?_);refine gL (some 34) Try.func62 #[.float .f64 ac] ?_;(with_reducible refine (datum_zero.calls ac true _ A19.out).mono ?_);rintro e w' ⟨rfl,⟨nd,rfl⟩⟩;refine⟨_,rfl,?_⟩))
   go_ret
   exact xB HB
  replace c20:=Bool.eq_false_iff.mpr c20
  subst c20
  have H1:(some false)=some r:=by rw [if_neg (show ¬ (false=true) by decide)] at H;exact H
  clear H
  have H:=H1
  clear H1
  obtain rfl:=Option.some.inj H
  go_enter Try.func48,Try.ntmps48
  go_wp2_with (first|((with_reducible refine gate_dst (N:=1) rfl ?_);(try (refine gate_guard (by rfl) ?_;dsimp only));refine box_event ?hg (N:=1) ?hd (cs:=#[.int .i64 aa,.float .f64 ac,.string ae]) (t:=54) ?hr ?_;(case hd=>rfl);(case hg=>rfl);(case hr=>first|(go_simp;done)|(go_simp;rfl));intro af hg w23 hbox hb;have ab:=aK (hbox);have ag:=bZ HB hg;have ah:=bZ HB hg;replace HB:=bW HB hb;clear hb hbox hg;obtain⟨aQ,aT,aU,aV,aW,aX⟩:=bf3 (w:=w23) ab)|((with_reducible refine gate_callee (f:=62) rfl ?_);refine gL (some 34) Try.func62 #[.float .f64 ac] ?_;(with_reducible refine (datum_zero.calls ac false _ A19.out).mono ?_);rintro e w' ⟨rfl,⟨nd,rfl⟩⟩;refine⟨_,rfl,?_⟩))
  go_ret
  exact xB HB
 rw [if_pos c9] at H
 have aw:(aa == 1)=true:=beq_iff_eq.mpr c9
 have ax:(aa != 1)=false:=bne_eq_false_iff_eq.mpr c9
 clear c9
 by_cases c10:ae.toList=([]:List UInt8)
 rotate_left
 ·rw [if_neg c10] at H
  have aq:(ae.toList == ([]:List UInt8))=false:=beq_eq_false_iff_ne.mpr c10
  have ar:(ae.toList != ([]:List UInt8))=true:=bne_iff_ne.mpr c10
  obtain rfl:=Option.some.inj H
  go_enter Try.func48,Try.ntmps48
  try go_wp2_with (first|((with_reducible refine gate_dst (N:=1) rfl ?_);(try (refine gate_guard (by rfl) ?_;dsimp only));refine box_event ?hg (N:=1) ?hd (cs:=#[.int .i64 aa,.float .f64 ac,.string ae]) (t:=54) ?hr ?_;(case hd=>rfl);(case hg=>rfl);(case hr=>first|(go_simp;done)|(go_simp;rfl));intro af hg w15 hbox hb;have ab:=aK (hbox);have ag:=bZ HB hg;have ah:=bZ HB hg;replace HB:=bW HB hb;clear hb hbox hg;obtain⟨aY,aZ,ba,bb,bc,bf⟩:=bf3 (w:=w15) ab))
  replace ab:=aK (blk_drew ab.out)
  replace HB:=aK (below_drew1 HB.out)
  refine start_ (n:=14) (S:=fun w'=>w'.cell? ⟨af,0,none⟩=some (.int .i64 aa)∧w'.cell? ⟨af,1,none⟩=some (.float .f64 ac)∧w'.cell? ⟨af,2,none⟩=some (.string ae)) (ds:=[]) #[false,false,false,false,false,false,false,false,false,false,false,false,false,false] (by kernel_rfl) rfl rfl (be3 ab) (fun hHeld=>?_);refine with_tabW datum_May.tab5 datum_May.bits5 (fun HT_ HW_=>?_)
  generalize w15.drew=w17 at ab HB hHeld ⊢
  refine pA 0 17 HT_ ?_
  refine tA 1 18 HT_ HW_ hHeld ?_ (hy:=by rintro w' ⟨s0,s1,s2⟩;go_simp;with_reducible rfl)
  refine pA 2 19 HT_ ?_
  refine pA 3 20 HT_ ?_
  refine pU 4 21 HT_ ?_
  refine pU 5 22 HT_ ?_
  refine pU 6 23 HT_ ?_
  refine pU 7 24 HT_ ?_
  refine pU 8 25 HT_ ?_
  refine pU 9 26 HT_ ?_
  refine pU 10 27 HT_ ?_
  refine pU 11 28 HT_ ?_
  refine pA 12 29 HT_ ?_
  refine pA 13 2 HT_ ?_
  refine done_ (done_of HT_.out (by kernel_rfl)) ?_
  try go_wp2
  go_ret
  exact xB HB
 rw [if_pos c10] at H
 have aq:(ae.toList == ([]:List UInt8))=true:=beq_iff_eq.mpr c10
 have ar:(ae.toList != ([]:List UInt8))=false:=bne_eq_false_iff_eq.mpr c10
 clear c10
 replace H:=oS H
 obtain⟨aj,am,H⟩:=H
 replace H:(some (((ac:Nat):Int) == ((aj:Nat):Int)))=some r:=H
 have A11:=aK am
 clear am
 obtain rfl:=Option.some.inj H
 go_enter Try.func48,Try.ntmps48
 try go_wp2_with (first|((with_reducible refine gate_dst (N:=1) rfl ?_);(try (refine gate_guard (by rfl) ?_;dsimp only));refine box_event ?hg (N:=1) ?hd (cs:=#[.int .i64 aa,.float .f64 ac,.string ae]) (t:=54) ?hr ?_;(case hd=>rfl);(case hg=>rfl);(case hr=>first|(go_simp;done)|(go_simp;rfl));intro af hg w12 hbox hb;have ab:=aK (hbox);have ag:=bZ HB hg;have ah:=bZ HB hg;replace HB:=bW HB hb;clear hb hbox hg;obtain⟨bg,bh,bi,bj,bk,bl⟩:=bf3 (w:=w12) ab))
 replace ab:=aK (blk_drew ab.out)
 replace HB:=aK (below_drew1 HB.out)
 refine start_ (n:=14) (S:=fun w'=>w'.cell? ⟨af,0,none⟩=some (.int .i64 aa)∧w'.cell? ⟨af,1,none⟩=some (.float .f64 ac)∧w'.cell? ⟨af,2,none⟩=some (.string ae)) (ds:=[]) #[false,false,false,false,false,false,false,false,false,false,false,false,false,false] (by kernel_rfl) rfl rfl (be3 ab) (fun hHeld=>?_);refine with_tabW datum_May.tab5 datum_May.bits5 (fun HT_ HW_=>?_)
 generalize w12.drew=w14 at ab HB hHeld ⊢
 refine pA 0 17 HT_ ?_
 refine tA 1 18 HT_ HW_ hHeld ?_ (hy:=by rintro w' ⟨s0,s1,s2⟩;go_simp;with_reducible rfl)
 refine pA 2 19 HT_ ?_
 refine pA 3 20 HT_ ?_
 refine pA 4 21 HT_ ?_
 refine pA 7 24 HT_ ?_
 refine tA 5 22 HT_ HW_ hHeld ?_ (hy:=by rintro w' ⟨s0,s1,s2⟩;go_simp;with_reducible rfl)
 refine pA 6 23 HT_ ?_
 refine tA 8 25 HT_ HW_ hHeld ?_ (hy:=by rintro w' ⟨s0,s1,s2⟩;go_simp;with_reducible rfl)
 refine oA 9 (some 26) HT_ (fun K hK=>?_)
 refine goes_ Try.func64 (by kernel_rfl) rfl #[.float .f64 ac] (by rfl) rfl rfl (by (try simp only [List.map_toArray,List.map_cons,List.map_nil]);first|done|rfl|(simp only [List.length_drop,List.length_take];rfl)) ?_
 with_reducible refine (float_Clean.calls ac aj _ A11.out).mono ?_
 rintro e w' ⟨rfl,⟨nd,rfl⟩⟩
 refine⟨_,rfl,?_⟩
 refine hK.out _ _ (be3 ab) (fun hHeld=>?_)
 clear hK K
 refine norm_ (a':=?_) ?_ ?_
 rotate_left
 ·show Act.put _ (some 26) _=_
  simp only [Act.put,List.setIfInBounds_toArray,List.set_cons_zero,List.set_cons_succ,i64_w,i32_w]
  rfl
 refine pA 10 27 HT_ ?_
 refine pA 11 28 HT_ ?_
 refine pA 12 29 HT_ ?_
 refine pA 13 2 HT_ ?_
 refine done_ (done_of HT_.out (by kernel_rfl)) ?_
 try go_wp2
 go_ret
 exact xB HB
def cell_none.f (a0_0:Int) (a0_1:Nat) (a0_2:ByteArray):Option (Bool):=some (a0_0 == 0)
set_option maxHeartbeats 8000000 in
set_option maxRecDepth 100000 in
theorem cell_none.calls (aa:Int) (ab:Nat) (ac:ByteArray) (r:Bool) (w:World) (h:cell_none.f aa ab ac=some r) :
  Calls Try.prog 49 #[.agg #[.int .i64 aa,.float .f64 ab,.string ac]] w fun e w'=>e = .returned (.bool r)∧Below w.heap.size w w':=by
 have hu54:=Try.underlying54
 have HB:=aK (Below.refl w.heap.size w)
 have H:(some (aa == 0))=some r:=h
 clear h
 obtain rfl:=Option.some.inj H
 go_enter Try.func49,Try.ntmps49
 go_wp2_with (first|((with_reducible refine gate_dst (N:=1) rfl ?_);refine box_event ?hg (N:=1) ?hd (cs:=#[.int .i64 aa,.float .f64 ab,.string ac]) (t:=54) ?hr ?_;(case hd=>rfl);(case hg=>rfl);(case hr=>first|(go_simp;done)|(go_simp;rfl));intro al hg w2 hbox hb;have ae:=aK (hbox);have am:=bZ HB hg;have ao:=bZ HB hg;replace HB:=bW HB hb;clear hb hbox hg;obtain⟨af,ag,ah,ai,aj,ak⟩:=bf3 (w:=w2) ae))
 go_ret
 exact xB HB
def cell_May.j0:Nat→Bool→ByteArray→Int→Nat→ByteArray→Int→Int→Nat→ByteArray→Option (Bool)
 | 0,_,_,_,_,_,_,_,_,_=>none
 | k+1,x28,x108000,x108001,x108002,x108003,x108004,x108005,x108006,x108007=>if x28=true then (some false) else (if x108004>0 then (some true) else ((cell_none.f x108005 x108006 x108007).bind fun t111=>(if t111=true then ((cell_none.f x108001 x108002 x108003).bind fun t112=>(some (!t112))) else (some false))))
def cell_May.f (k:Nat) (a0_0:ByteArray) (a0_1:Int) (a0_2:Nat) (a0_3:ByteArray) (a0_4:Int) (a0_5:Int) (a0_6:Nat) (a0_7:ByteArray):Option (Bool):=(key_May.f a0_0).bind fun t108=>(if t108=true then ((datum_May.f a0_1 a0_2 a0_3).bind fun t109=>(if t109=true then ((datum_May.f a0_5 a0_6 a0_7).bind fun t110=>(if t110=true then (if a0_4<0 then (cell_May.j0 k true a0_0 a0_1 a0_2 a0_3 a0_4 a0_5 a0_6 a0_7) else (cell_May.j0 k (decide (a0_4>1099511627776)) a0_0 a0_1 a0_2 a0_3 a0_4 a0_5 a0_6 a0_7)) else (cell_May.j0 k true a0_0 a0_1 a0_2 a0_3 a0_4 a0_5 a0_6 a0_7))) else (cell_May.j0 k true a0_0 a0_1 a0_2 a0_3 a0_4 a0_5 a0_6 a0_7))) else (cell_May.j0 k true a0_0 a0_1 a0_2 a0_3 a0_4 a0_5 a0_6 a0_7))
theorem cell_May.mono_l:∀ k,(∀ y0 y1 y2 y3 y4 y5 y6 y7 y8,LeO (cell_May.j0 k y0 y1 y2 y3 y4 y5 y6 y7 y8) (cell_May.j0 (k+1) y0 y1 y2 y3 y4 y5 y6 y7 y8))
 | 0=>fun _ _ _ _ _ _ _ _ _ r h=>by simp [cell_May.j0] at h
 | k+1=>by
  have ih0:=cell_May.mono_l k
  ·intro y0 y1 y2 y3 y4 y5 y6 y7 y8
   unfold cell_May.j0
   repeat' first
   | (with_reducible exact ih0 _ _ _ _ _ _ _ _ _)
   | (with_reducible exact LeO.refl _)
   | (with_reducible exact LeO.none _)
   | (with_reducible refine LeO.ite ?_ ?_)
   | (with_reducible refine LeO.bind ?_ (fun _=>?_))
   | exact ih0 _ _ _ _ _ _ _ _ _
   | exact LeO.none _
   | refine LeO.ite ?_ ?_
   | refine LeO.bind ?_ (fun _=>?_)
theorem cell_May.mono:∀ a0 a1 a2 a3 a4 a5 a6 a7 k,LeO (cell_May.f k a0 a1 a2 a3 a4 a5 a6 a7) (cell_May.f (k+1) a0 a1 a2 a3 a4 a5 a6 a7):=by
 intro a0 a1 a2 a3 a4 a5 a6 a7 k
 have ih0:=cell_May.mono_l k
 unfold cell_May.f
 repeat' first
   | (with_reducible exact ih0 _ _ _ _ _ _ _ _ _)
   | (with_reducible exact LeO.refl _)
   | (with_reducible exact LeO.none _)
   | (with_reducible refine LeO.ite ?_ ?_)
   | (with_reducible refine LeO.bind ?_ (fun _=>?_))
   | exact ih0 _ _ _ _ _ _ _ _ _
   | exact LeO.none _
   | refine LeO.ite ?_ ?_
   | refine LeO.bind ?_ (fun _=>?_)
set_option maxHeartbeats 8000000 in
set_option maxRecDepth 100000 in
theorem cell_May.calls (k:Nat) (ac:ByteArray) (ae:Int) (af:Nat) (ag:ByteArray) (aa:Int) (ah:Int) (ai:Nat) (aj:ByteArray) (r:Bool) (w:World) (h:cell_May.f k ac ae af ag aa ah ai aj=some r) :
  Calls Try.prog 33 #[.agg #[.string ac,.int .i64 ae,.float .f64 af,.string ag,.int .i64 aa,.int .i64 ah,.float .f64 ai,.string aj]] w fun e w'=>e = .returned (.bool r)∧Below w.heap.size w w':=by
 have hu62:=Try.underlying62
 have hu54:=Try.underlying54
 have HB:=aK (Below.refl w.heap.size w)
 have H:((key_May.f ac).bind fun aq=>(if aq=true then ((datum_May.f ae af ag).bind fun al=>(if al=true then ((datum_May.f ah ai aj).bind fun ak=>(if ak=true then (if aa<0 then (cell_May.j0 k true ac ae af ag aa ah ai aj) else (cell_May.j0 k (decide (aa>1099511627776)) ac ae af ag aa ah ai aj)) else (cell_May.j0 k true ac ae af ag aa ah ai aj))) else (cell_May.j0 k true ac ae af ag aa ah ai aj))) else (cell_May.j0 k true ac ae af ag aa ah ai aj)))=some r:=h
 clear h
 have HC2:=aK H
 clear H
 go_enter Try.func33,Try.ntmps33
 go_upto_region 1 with (first|((with_reducible refine gate_dst (N:=1) rfl ?_);refine box_event ?hg (N:=1) ?hd (cs:=#[.string ac,.int .i64 ae,.float .f64 af,.string ag,.int .i64 aa,.int .i64 ah,.float .f64 ai,.string aj]) (t:=62) ?hr ?_;(case hd=>rfl);(case hg=>rfl);(case hr=>first|(go_simp;done)|(go_simp;rfl));intro el hg w3 hbox hb;have ab:=aK (hbox);have fI:=bZ HB hg;have fJ:=bZ HB hg;replace HB:=bW HB hb;clear hb hbox hg))
 (try simp only [Act.put,List.setIfInBounds_toArray,List.set_cons_zero,List.set_cons_succ])
 go_cut [28] (fun v28 wc=>∃ (kq:Nat) (ap:Bool),v28 = .bool ap∧Aside0 (cell_May.j0 kq ap ac ae af ag aa ah ai aj=some r)∧Aside0 (kq≤k)∧Aside0 (wc.heap[el]? = some (.cells #[.string ac,.int .i64 ae,.float .f64 af,.string ag,.int .i64 aa,.int .i64 ah,.float .f64 ai,.string aj] 62 (0,0)))∧Aside0 (Below w.heap.size w wc))
 case first =>
  have H:=HC2.out
  clear HC2
  replace H:=oS H
  obtain⟨aq,A40,H⟩:=H
  replace H:(if aq=true then ((datum_May.f ae af ag).bind fun al=>(if al=true then ((datum_May.f ah ai aj).bind fun ak=>(if ak=true then (if aa<0 then (cell_May.j0 k true ac ae af ag aa ah ai aj) else (cell_May.j0 k (decide (aa>1099511627776)) ac ae af ag aa ah ai aj)) else (cell_May.j0 k true ac ae af ag aa ah ai aj))) else (cell_May.j0 k true ac ae af ag aa ah ai aj))) else (cell_May.j0 k true ac ae af ag aa ah ai aj))=some r:=H
  have A4:=aK A40
  clear A40
  by_cases c5:aq=true
  rotate_left
  ·replace c5:=Bool.eq_false_iff.mpr c5
   subst c5
   have H1:(cell_May.j0 k true ac ae af ag aa ah ai aj)=some r:=by rw [if_neg (show ¬ (false=true) by decide)] at H;exact H
   clear H
   have H:=H1
   clear H1
   have H':=aK H
   clear H
   obtain⟨au,av,aw,ax,ay,az,aA,aC,aD,aE,aG,aH,aI,aJ,aM,aN⟩:=bf8 (w:=w3) ab
   go_wp2_with (first|((with_reducible refine gate_callee (f:=34) rfl ?_);refine gL (some 5) Try.func34 #[.string ac] ?_;(with_reducible refine (key_May.calls ac false _ A4.out).mono ?_);rintro e w' ⟨rfl,⟨nd,rfl⟩⟩;refine⟨_,rfl,?_⟩))
   go_meet
   case rel=>exact⟨_,(true),(by first|rfl|(simp;done)|(simp [*];done)),H',⟨by first|omega|exact Nat.le_refl _⟩,bK ab,bV HB⟩
  subst c5
  have H1:((datum_May.f ae af ag).bind fun al=>(if al=true then ((datum_May.f ah ai aj).bind fun ak=>(if ak=true then (if aa<0 then (cell_May.j0 k true ac ae af ag aa ah ai aj) else (cell_May.j0 k (decide (aa>1099511627776)) ac ae af ag aa ah ai aj)) else (cell_May.j0 k true ac ae af ag aa ah ai aj))) else (cell_May.j0 k true ac ae af ag aa ah ai aj)))=some r:=by rw [if_pos rfl] at H;exact H
  clear H
  have H:=H1
  clear H1
  replace H:=oS H
  obtain⟨al,A60,H⟩:=H
  replace H:(if al=true then ((datum_May.f ah ai aj).bind fun ak=>(if ak=true then (if aa<0 then (cell_May.j0 k true ac ae af ag aa ah ai aj) else (cell_May.j0 k (decide (aa>1099511627776)) ac ae af ag aa ah ai aj)) else (cell_May.j0 k true ac ae af ag aa ah ai aj))) else (cell_May.j0 k true ac ae af ag aa ah ai aj))=some r:=H
  have A6:=aK A60
  clear A60
  by_cases c7:al=true
  rotate_left
  ·replace c7:=Bool.eq_false_iff.mpr c7
   subst c7
   have H1:(cell_May.j0 k true ac ae af ag aa ah ai aj)=some r:=by rw [if_neg (show ¬ (false=true) by decide)] at H;exact H
   clear H
   have H:=H1
   clear H1
   have H':=aK H
   clear H
   obtain⟨aQ,aT,aU,aV,aW,aX,aY,aZ,ba,bb,bc,bf,bg,bh,bi,bj⟩:=bf8 (w:=w3) ab
   go_wp2_with (first|((with_reducible refine gate_callee (f:=34) rfl ?_);refine gL (some 5) Try.func34 #[.string ac] ?_;(with_reducible refine (key_May.calls ac true _ A4.out).mono ?_);rintro e w' ⟨rfl,⟨nd,rfl⟩⟩;refine⟨_,rfl,?_⟩)|(go_at_call 48;(with_reducible refine (datum_May.calls ae af ag false _ A6.out).mono ?_);rintro e w26 ⟨rfl,hb⟩;replace ab:=bB ab hb;replace HB:=bW HB hb;(try clear hb);(try clear hb2);(try clear hk);(try clear hi)))
   go_meet
   case rel=>exact⟨_,(true),(by first|rfl|(simp;done)|(simp [*];done)),H',⟨by first|omega|exact Nat.le_refl _⟩,bK ab,bV HB⟩
  subst c7
  have H1:((datum_May.f ah ai aj).bind fun ak=>(if ak=true then (if aa<0 then (cell_May.j0 k true ac ae af ag aa ah ai aj) else (cell_May.j0 k (decide (aa>1099511627776)) ac ae af ag aa ah ai aj)) else (cell_May.j0 k true ac ae af ag aa ah ai aj)))=some r:=by rw [if_pos rfl] at H;exact H
  clear H
  have H:=H1
  clear H1
  replace H:=oS H
  obtain⟨ak,A80,H⟩:=H
  replace H:(if ak=true then (if aa<0 then (cell_May.j0 k true ac ae af ag aa ah ai aj) else (cell_May.j0 k (decide (aa>1099511627776)) ac ae af ag aa ah ai aj)) else (cell_May.j0 k true ac ae af ag aa ah ai aj))=some r:=H
  have A8:=aK A80
  clear A80
  by_cases c9:ak=true
  rotate_left
  ·replace c9:=Bool.eq_false_iff.mpr c9
   subst c9
   have H1:(cell_May.j0 k true ac ae af ag aa ah ai aj)=some r:=by rw [if_neg (show ¬ (false=true) by decide)] at H;exact H
   clear H
   have H:=H1
   clear H1
   have H':=aK H
   clear H
   obtain⟨bk,bl,bm,bn,bo,bp,bq,br,bs,bu,bv,bw,bx,bA,bD,bF⟩:=bf8 (w:=w3) ab
   go_wp2_with (first|((with_reducible refine gate_callee (f:=34) rfl ?_);refine gL (some 5) Try.func34 #[.string ac] ?_;(with_reducible refine (key_May.calls ac true _ A4.out).mono ?_);rintro e w' ⟨rfl,⟨nd,rfl⟩⟩;refine⟨_,rfl,?_⟩)|(go_at_call 48;(with_reducible refine (datum_May.calls ae af ag true _ A6.out).mono ?_);rintro e w22 ⟨rfl,hb⟩;replace ab:=bB ab hb;replace HB:=bW HB hb;(try clear hb);(try clear hb2);(try clear hk);(try clear hi);obtain⟨bI,bJ,bM,bN,bO,bU,bX,bY,b8,b9,ca,cb,cd,cf,cg,ch⟩:=bf8 (w:=w22) ab)|(go_at_call 48;(with_reducible refine (datum_May.calls ah ai aj false _ A8.out).mono ?_);rintro e w24 ⟨rfl,hb⟩;replace ab:=bB ab hb;replace HB:=bW HB hb;(try clear hb);(try clear hb2);(try clear hk);(try clear hi)))
   go_meet
   case rel=>exact⟨_,(true),(by first|rfl|(simp;done)|(simp [*];done)),H',⟨by first|omega|exact Nat.le_refl _⟩,bK ab,bV HB⟩
  subst c9
  have H1:(if aa<0 then (cell_May.j0 k true ac ae af ag aa ah ai aj) else (cell_May.j0 k (decide (aa>1099511627776)) ac ae af ag aa ah ai aj))=some r:=by rw [if_pos rfl] at H;exact H
  clear H
  have H:=H1
  clear H1
  by_cases c10:aa<0
  ·rw [if_pos c10] at H
   have ao:decide (aa<0)=true:=decide_eq_true c10
   clear c10
   (first|rw [ao]|(simp only [i64_w,i32_w];rw [ao])|skip)
   have H':=aK H
   clear H
   obtain⟨cj,cm,cn,cp,cq,ct,cu,cv,cw,cx,cz,cA,cB,cC,cD,cE⟩:=bf8 (w:=w3) ab
   go_wp2_with (first|((with_reducible refine gate_callee (f:=34) rfl ?_);refine gL (some 5) Try.func34 #[.string ac] ?_;(with_reducible refine (key_May.calls ac true _ A4.out).mono ?_);rintro e w' ⟨rfl,⟨nd,rfl⟩⟩;refine⟨_,rfl,?_⟩)|(go_at_call 48;(with_reducible refine (datum_May.calls ae af ag true _ A6.out).mono ?_);rintro e w12 ⟨rfl,hb⟩;replace ab:=bB ab hb;replace HB:=bW HB hb;(try clear hb);(try clear hb2);(try clear hk);(try clear hi);obtain⟨cF,cG,cH,cI,cJ,cK,cL,cM,cN,cO,cP,cQ,cR,cS,cT,cU⟩:=bf8 (w:=w12) ab)|(go_at_call 48;(with_reducible refine (datum_May.calls ah ai aj true _ A8.out).mono ?_);rintro e w14 ⟨rfl,hb⟩;replace ab:=bB ab hb;replace HB:=bW HB hb;(try clear hb);(try clear hb2);(try clear hk);(try clear hi);obtain⟨cV,cX,cY,cZ,da,db,dc,dd,de,df,dg,dh,di,dj,dk,dl⟩:=bf8 (w:=w14) ab))
   go_meet
   case rel=>exact⟨_,(true),(by first|rfl|(simp;done)|(simp [*];done)),H',⟨by first|omega|exact Nat.le_refl _⟩,bK ab,bV HB⟩
  rw [if_neg c10] at H
  have ao:decide (aa<0)=false:=decide_eq_false c10
  clear c10
  (first|rw [ao]|(simp only [i64_w,i32_w];rw [ao])|skip)
  have H':=aK H
  clear H
  obtain⟨dm,dn,dp,dq,dr,dt,du,dv,dw,dx,dy,dz,dB,dC,dD,dE⟩:=bf8 (w:=w3) ab
  go_wp2_with (first|((with_reducible refine gate_callee (f:=34) rfl ?_);refine gL (some 5) Try.func34 #[.string ac] ?_;(with_reducible refine (key_May.calls ac true _ A4.out).mono ?_);rintro e w' ⟨rfl,⟨nd,rfl⟩⟩;refine⟨_,rfl,?_⟩)|(go_at_call 48;(with_reducible refine (datum_May.calls ae af ag true _ A6.out).mono ?_);rintro e w17 ⟨rfl,hb⟩;replace ab:=bB ab hb;replace HB:=bW HB hb;(try clear hb);(try clear hb2);(try clear hk);(try clear hi);obtain⟨dF,dG,dH,dI,dJ,dK,dL,dM,dN,dO,dP,dQ,dR,dS,dT,dU⟩:=bf8 (w:=w17) ab)|(go_at_call 48;(with_reducible refine (datum_May.calls ah ai aj true _ A8.out).mono ?_);rintro e w19 ⟨rfl,hb⟩;replace ab:=bB ab hb;replace HB:=bW HB hb;(try clear hb);(try clear hb2);(try clear hk);(try clear hi);obtain⟨dV,dW,dX,dY,dZ,d3,d4,d5,d6,d7,d8,d9,ed,eg,eh,ei⟩:=bf8 (w:=w19) ab))
  go_meet
  case rel=>exact⟨_,(decide (aa>1099511627776)),(by first|rfl|(simp;done)|(simp [*];done)),H',⟨by first|omega|exact Nat.le_refl _⟩,bK ab,bV HB⟩
 case rest =>
  clear HC2
  try clear c1
  try clear p2
  try clear c3
  try clear c5
  try clear c7
  try clear c9
  try clear c10
  try clear ao
  try clear cj cm cn cp cq ct cu cv
  try clear cF cG cH cI cJ cK cL cM
  try clear cV cX cY cZ da db dc dd
  try clear dm dn dp dq dr dt du dv
  try clear dF dG dH dI dJ dK dL dM
  try clear dV dW dX dY dZ d3 d4 d5
  try clear bk bl bm bn bo bp bq br
  try clear bI bJ bM bN bO bU bX bY
  try clear aQ aT aU aV aW aX aY aZ
  try clear au av aw ax ay az aA aC
  try clear cw cx cz cA cB cC cD cE
  try clear cN cO cP cQ cR cS cT cU
  try clear de df dg dh di dj dk dl
  try clear dw dx dy dz dB dC dD dE
  try clear dN dO dP dQ dR dS dT dU
  try clear d6 d7 d8 d9 ed eg eh ei
  try clear bs bu bv bw bx bA bD bF
  try clear b8 b9 ca cb cd cf cg ch
  try clear ba bb bc bf bg bh bi bj
  try clear aD aE aG aH aI aJ aM aN
  obtain⟨kq,ap,rfl,HA,HJ1,ab,HB⟩:=hcut
  cases kq with
  | zero=>exact absurd HA.out (by simp [cell_May.j0])
  | succ kj1 =>
   have H:=HA.out
   clear HA
   simp only [cell_May.j0] at H
   by_cases c28:ap=true
   ·subst c28
    have H1:(some false)=some r:=by rw [if_pos rfl] at H;exact H
    clear H
    have H:=H1
    clear H1
    obtain rfl:=Option.some.inj H
    go_wp2
    go_ret
    exact xB HB
   replace c28:=Bool.eq_false_iff.mpr c28
   subst c28
   have H1:(if aa>0 then (some true) else ((cell_none.f ah ai aj).bind fun ar=>(if ar=true then ((cell_none.f ae af ag).bind fun am=>(some (!am))) else (some false))))=some r:=by rw [if_neg (show ¬ (false=true) by decide)] at H;exact H
   clear H
   have H:=H1
   clear H1
   by_cases c29:aa>0
   ·rw [if_pos c29] at H
    have em:decide (0<aa)=true:=decide_eq_true c29
    clear c29
    obtain rfl:=Option.some.inj H
    obtain⟨ep,er,es,et,eu,ev,ex,ey,ez,eA,eB,eC,eD,eE,eF,eG⟩:=bf8 (w:=wc) ab
    go_wp2
    go_ret
    exact xB HB
   rw [if_neg c29] at H
   have em:decide (0<aa)=false:=decide_eq_false c29
   clear c29
   replace H:=oS H
   obtain⟨ar,ej,H⟩:=H
   replace H:(if ar=true then ((cell_none.f ae af ag).bind fun am=>(some (!am))) else (some false))=some r:=H
   have A31:=aK ej
   clear ej
   by_cases c32:ar=true
   rotate_left
   ·replace c32:=Bool.eq_false_iff.mpr c32
    subst c32
    have H1:(some false)=some r:=by rw [if_neg (show ¬ (false=true) by decide)] at H;exact H
    clear H
    have H:=H1
    clear H1
    obtain rfl:=Option.some.inj H
    obtain⟨eH,eI,eJ,eK,eL,eM,eN,eO,eP,eQ,eR,eS,eT,eU,eV,eW⟩:=bf8 (w:=wc) ab
    go_wp2_with (first|(go_at_call 49;(with_reducible refine (cell_none.calls ah ai aj false _ A31.out).mono ?_);rintro e w39 ⟨rfl,hb⟩;replace ab:=bB ab hb;replace HB:=bW HB hb;(try clear hb);(try clear hb2);(try clear hk);(try clear hi)))
    go_ret
    exact xB HB
   subst c32
   have H1:((cell_none.f ae af ag).bind fun am=>(some (!am)))=some r:=by rw [if_pos rfl] at H;exact H
   clear H
   have H:=H1
   clear H1
   replace H:=oS H
   obtain⟨am,ek,H⟩:=H
   replace H:(some (!am))=some r:=H
   have A33:=aK ek
   clear ek
   obtain rfl:=Option.some.inj H
   obtain⟨eX,eY,eZ,e8,e9,fa,fb,fd,fe,ff,fg,fh,fi,fj,fk,fl⟩:=bf8 (w:=wc) ab
   go_wp2_with (first|(go_at_call 49;(with_reducible refine (cell_none.calls ah ai aj true _ A31.out).mono ?_);rintro e w35 ⟨rfl,hb⟩;replace ab:=bB ab hb;replace HB:=bW HB hb;(try clear hb);(try clear hb2);(try clear hk);(try clear hi);obtain⟨fm,fp,fq,ft,fu,fv,fw,fz,fA,fB,fC,fD,fE,fF,fG,fH⟩:=bf8 (w:=w35) ab)|(go_at_call 49;(with_reducible refine (cell_none.calls ae af ag am _ A33.out).mono ?_);rintro e w37 ⟨rfl,hb⟩;replace ab:=bB ab hb;replace HB:=bW HB hb;(try clear hb);(try clear hb2);(try clear hk);(try clear hi)))
   go_ret
   exact xB HB
end Go.Proofs.Ytmmjpieafbjggaa.P
end
section
namespace Go.Proofs.Ytmmjpieafbjggaa.P
open Go.RowKit Go.Proofs.YtmmjpieafbjggaaW.PrintWords Go.Proofs.YtmmjpieafbjggaaW.PrintLast Go.Proofs.YtmmjpieafbjggaaW.PrintMore
attribute [local go_sem] max2_int min2_int max_two min_two max_three min_three max_four min_four   -- for this text's walks alone
attribute [local go_sem] x_str_gtr x_str_leq x_str_geq ext_bits ext_frombits ext_neg x_store_float Instr.field asAgg
set_option linter.unusedVariables false
set_option linter.unusedSimpArgs false
mutual
def node_May.l0:Nat→List (S62)→Int→Int→Bool→List (S62)→List ByteArray→List Int→Option (Bool)
 | 0,_,_,_,_,_,_,_=>none
 | k+1,x10,x11,x12,x114000,x114001,x114002,x114003=>if x12<x11 then (if 0≤x12 then (if x12<(x10.length:Int) then (if x114000=true then ((cell_May.f k ((rd_T62 x10 x12).f0) ((rd_T62 x10 x12).f1.f0) ((rd_T62 x10 x12).f1.f1) ((rd_T62 x10 x12).f1.f2) ((rd_T62 x10 x12).f2) ((rd_T62 x10 x12).f3.f0) ((rd_T62 x10 x12).f3.f1) ((rd_T62 x10 x12).f3.f2)).bind fun t116=>(if t116=true then (if x12>0 then (if 0≤(wrap64 (x12 - 1)) then (if (wrap64 (x12 - 1))<(x114001.length:Int) then (if ((Op.bytesLess (((rd_T62 x114001 (wrap64 (x12 - 1))).f0).toList) (((rd_T62 x10 x12).f0).toList))=true) then (node_May.l0 k x10 x11 (wrap64 (x12+1)) x114000 x114001 x114002 x114003) else (some false)) else (none)) else (none)) else (node_May.l0 k x10 x11 (wrap64 (x12+1)) x114000 x114001 x114002 x114003)) else (some false))) else (some false)) else (none)) else (none)) else (if x114000=true then (if (x114002.length:Int)=0 then (some ((x114003.length:Int) == 0)) else (some false)) else (node_May.l1 k x114002 (x114002.length:Int) 0 x114000 x114001 x114002 x114003))
def node_May.l1:Nat→List ByteArray→Int→Int→Bool→List (S62)→List ByteArray→List Int→Option (Bool)
 | 0,_,_,_,_,_,_,_=>none
 | k+1,x55,x56,x57,x114000,x114001,x114002,x114003=>if x57<x56 then (if 0≤x57 then (if x57<(x55.length:Int) then ((key_May.f (rdOf ByteArray.empty x55 x57)).bind fun t119=>(if t119=true then (if x57>0 then (if 0≤(wrap64 (x57 - 1)) then (if (wrap64 (x57 - 1))<(x114002.length:Int) then (if ((Op.bytesLess ((rdOf ByteArray.empty x114002 (wrap64 (x57 - 1))).toList) ((rdOf ByteArray.empty x55 x57).toList))=true) then (node_May.l1 k x55 x56 (wrap64 (x57+1)) x114000 x114001 x114002 x114003) else (some false)) else (none)) else (none)) else (node_May.l1 k x55 x56 (wrap64 (x57+1)) x114000 x114001 x114002 x114003)) else (some false))) else (none)) else (none)) else (node_May.l2 k x114003 (x114003.length:Int) 0 x114000 x114001 x114002 x114003)
def node_May.l2:Nat→List Int→Int→Int→Bool→List (S62)→List ByteArray→List Int→Option (Bool)
 | 0,_,_,_,_,_,_,_=>none
 | k+1,x81,x82,x83,x114000,x114001,x114002,x114003=>if x83<x82 then (if 0≤x83 then (if x83<(x81.length:Int) then (if (rd x81 x83)<2 then (some false) else (if (rd x81 x83)≥32 then (some false) else (node_May.l2 k x81 x82 (wrap64 (x83+1)) x114000 x114001 x114002 x114003))) else (none)) else (none)) else (if (x114003.length:Int)≥1 then (if (x114003.length:Int)≤32 then (some ((x114002.length:Int) == (wrap64 ((x114003.length:Int) - 1)))) else (some false)) else (some false))
end
def node_May.f (k:Nat) (a0_0:Bool) (l0_1:List (S62)) (l0_2:List ByteArray) (l0_3:List Int):Option (Bool):=node_May.l0 k l0_1 (l0_1.length:Int) 0 a0_0 l0_1 l0_2 l0_3
theorem node_May.mono_l:∀ k,(∀ y0 y1 y2 y3 y4 y5 y6,LeO (node_May.l0 k y0 y1 y2 y3 y4 y5 y6) (node_May.l0 (k+1) y0 y1 y2 y3 y4 y5 y6))∧(∀ y0 y1 y2 y3 y4 y5 y6,LeO (node_May.l1 k y0 y1 y2 y3 y4 y5 y6) (node_May.l1 (k+1) y0 y1 y2 y3 y4 y5 y6))∧(∀ y0 y1 y2 y3 y4 y5 y6,LeO (node_May.l2 k y0 y1 y2 y3 y4 y5 y6) (node_May.l2 (k+1) y0 y1 y2 y3 y4 y5 y6))
 | 0=>⟨fun _ _ _ _ _ _ _ r h=>by simp [node_May.l0] at h,fun _ _ _ _ _ _ _ r h=>by simp [node_May.l1] at h,fun _ _ _ _ _ _ _ r h=>by simp [node_May.l2] at h⟩
 | k+1=>by
  obtain⟨ih0,ih1,ih2⟩:=node_May.mono_l k
  refine⟨?_,?_,?_⟩
  ·intro y0 y1 y2 y3 y4 y5 y6
   unfold node_May.l0
   repeat' first
   | (with_reducible exact ih0 _ _ _ _ _ _ _)
   | (with_reducible exact ih1 _ _ _ _ _ _ _)
   | (with_reducible exact ih2 _ _ _ _ _ _ _)
   | (with_reducible exact cell_May.mono _ _ _ _ _ _ _ _ _)
   | (with_reducible exact LeO.refl _)
   | (with_reducible exact LeO.none _)
   | (with_reducible refine LeO.ite ?_ ?_)
   | (with_reducible refine LeO.bind ?_ (fun _=>?_))
   | exact ih0 _ _ _ _ _ _ _
   | exact ih1 _ _ _ _ _ _ _
   | exact ih2 _ _ _ _ _ _ _
   | exact cell_May.mono _ _ _ _ _ _ _ _ _
   | exact LeO.none _
   | refine LeO.ite ?_ ?_
   | refine LeO.bind ?_ (fun _=>?_)
  ·intro y0 y1 y2 y3 y4 y5 y6
   unfold node_May.l1
   repeat' first
   | (with_reducible exact ih0 _ _ _ _ _ _ _)
   | (with_reducible exact ih1 _ _ _ _ _ _ _)
   | (with_reducible exact ih2 _ _ _ _ _ _ _)
   | (with_reducible exact cell_May.mono _ _ _ _ _ _ _ _ _)
   | (with_reducible exact LeO.refl _)
   | (with_reducible exact LeO.none _)
   | (with_reducible refine LeO.ite ?_ ?_)
   | (with_reducible refine LeO.bind ?_ (fun _=>?_))
   | exact ih0 _ _ _ _ _ _ _
   | exact ih1 _ _ _ _ _ _ _
   | exact ih2 _ _ _ _ _ _ _
   | exact cell_May.mono _ _ _ _ _ _ _ _ _
   | exact LeO.none _
   | refine LeO.ite ?_ ?_
   | refine LeO.bind ?_ (fun _=>?_)
  ·intro y0 y1 y2 y3 y4 y5 y6
   unfold node_May.l2
   repeat' first
   | (with_reducible exact ih0 _ _ _ _ _ _ _)
   | (with_reducible exact ih1 _ _ _ _ _ _ _)
   | (with_reducible exact ih2 _ _ _ _ _ _ _)
   | (with_reducible exact cell_May.mono _ _ _ _ _ _ _ _ _)
   | (with_reducible exact LeO.refl _)
   | (with_reducible exact LeO.none _)
   | (with_reducible refine LeO.ite ?_ ?_)
   | (with_reducible refine LeO.bind ?_ (fun _=>?_))
   | exact ih0 _ _ _ _ _ _ _
   | exact ih1 _ _ _ _ _ _ _
   | exact ih2 _ _ _ _ _ _ _
   | exact cell_May.mono _ _ _ _ _ _ _ _ _
   | exact LeO.none _
   | refine LeO.ite ?_ ?_
   | refine LeO.bind ?_ (fun _=>?_)
theorem node_May.mono:∀ a0 a1 a2 a3 k,LeO (node_May.f k a0 a1 a2 a3) (node_May.f (k+1) a0 a1 a2 a3):=by
 intro a0 a1 a2 a3 k
 obtain⟨ih0,ih1,ih2⟩:=node_May.mono_l k
 unfold node_May.f
 repeat' first
   | (with_reducible exact ih0 _ _ _ _ _ _ _)
   | (with_reducible exact ih1 _ _ _ _ _ _ _)
   | (with_reducible exact ih2 _ _ _ _ _ _ _)
   | (with_reducible exact cell_May.mono _ _ _ _ _ _ _ _ _)
   | (with_reducible exact LeO.refl _)
   | (with_reducible exact LeO.none _)
   | (with_reducible refine LeO.ite ?_ ?_)
   | (with_reducible refine LeO.bind ?_ (fun _=>?_))
   | exact ih0 _ _ _ _ _ _ _
   | exact ih1 _ _ _ _ _ _ _
   | exact ih2 _ _ _ _ _ _ _
   | exact cell_May.mono _ _ _ _ _ _ _ _ _
   | exact LeO.none _
   | refine LeO.ite ?_ ?_
   | refine LeO.bind ?_ (fun _=>?_)
def node_May.T4:Bool × List (List Nat × List Nat):=(true,[([],[]),([0],[0]),([1],[1]),([2],[2]),([3],[3]),([4,3,3],[3,4]),([5,3],[3,5]),([3,6],[3,6]),([7,5],[7]),([8],[8]),([9,8],[8,9]),([10,8,8],[8,10]),([11],[11]),([12,11],[11,12]),([11],[11]),([14,11],[11,14]),([13,15,11],[11,13,15]),([16,11],[11,16]),([17,11],[11,17]),([11],[11]),([19,11],[11,19]),([18,20,11],[11,18,20]),([11,21,8],[8,11,21]),([8,22],[8,22])])
def node_May.B4:List Nat:=[0,1,3,7,15,31,63,127,255,511,1023,2047,4095,8191,4095,20479,65535,131071,262143,4095,528383,2097151,4194303,8388607]
theorem node_May.tab4:rtab .any (opsOf Try.f16 4)=node_May.T4:=by kernel_rfl
theorem node_May.bits4:waitsOk node_May.T4.2 node_May.B4=true:=by kernel_rfl
set_option maxHeartbeats 8000000 in
set_option maxRecDepth 100000 in
theorem node_May.calls (k:Nat) (bo:Bool) (bx:Option Addr) (aQ:Nat) (ab:List (S62)) (aT:Option Addr) (aU:Nat) (af:List ByteArray) (aV:Option Addr) (aW:Nat) (ai:List Int) (r:Bool) (w:World) (dj:Kd.C k62 w bx ab.length ab) (dk:ab.length≤aQ) (dl:Kd.C Kd.string w aT af.length af) (dm:af.length≤aU) (dn:Kd.C (Kd.int .i64) w aV ai.length ai) (dp:ai.length≤aW) (h:node_May.f k bo ab af ai=some r) :
  Calls Try.prog 16 #[.agg #[.bool bo,.slice bx ab.length aQ,.slice aT af.length aU,.slice aV ai.length aW]] w fun e w'=>e = .returned (.bool r)∧Below w.heap.size w w':=by
 have hu36:=Try.underlying36
 have hu62:=Try.underlying62
 have bn:=aK dj
 have fV:=aK dk
 clear dj dk
 have br:=aK dl
 have fW:=aK dm
 clear dl dm
 have dc:=aK dn
 have fX:=aK dp
 clear dn dp
 have HB:=aK (Below.refl w.heap.size w)
 have H:(node_May.l0 k ab (ab.length:Int) 0 bo ab af ai)=some r:=h
 clear h
 have H':=aK H
 clear H
 go_enter Try.func16,Try.ntmps16
 go_wp2_with (first|((with_reducible refine gate_dst (N:=1) rfl ?_);(try (refine gate_guard (by rfl) ?_;dsimp only));refine box_event ?hg (N:=1) ?hd (cs:=#[.bool bo,.slice bx ab.length aQ,.slice aT af.length aU,.slice aV ai.length aW]) (t:=36) ?hr ?_;(case hd=>rfl);(case hg=>rfl);(case hr=>first|(go_simp;done)|(go_simp;rfl));intro ak hg w2 hbox hb;have ae:=aK (hbox);have fY:=bZ HB hg;have dq:=bZ HB hg;replace HB:=bW HB hb;clear hb hbox hg;obtain⟨dW,dX,dY,dZ,d3,d4,d5,d6⟩:=bf4 (w:=w2) ae))
 go_loopg [12] k (fun kq v12 w'=>∃ (aa:Int),v12 = .int .i64 aa∧Aside0 (node_May.l0 kq ab (ab.length:Int) aa bo ab af ai=some r)∧Aside0 (kq≤k)∧Aside0 (w'.heap[ak]? = some (.cells #[.bool bo,(.slice bx ab.length aQ),(.slice aT af.length aU),(.slice aV ai.length aW)] 36 (0,0)))∧Aside0 (Below w.heap.size w w'))
 case atStart=>exact⟨(0),(by first|rfl|(simp;done)|(simp [*];done)),H',⟨Nat.le_refl _⟩,bK ae,bV HB⟩
 case round =>
  clear H'
  try clear c1
  try clear p2
  try clear dW dX dY dZ d3 d4 d5 d6
  obtain⟨aa,rfl,HA,HK1,ae,HB⟩:=hrel
  cases gk with
  | zero=>exact absurd HA.out (by simp [node_May.l0])
  | succ k1 =>
   have H:=HA.out
   clear HA
   simp only [node_May.l0] at H
   by_cases c4:aa<(ab.length:Int)
   rotate_left
   ·rw [if_neg c4] at H
    have di:decide (aa<(ab.length:Int))=false:=decide_eq_false c4
    clear c4
    by_cases c44:bo=true
    ·subst c44
     have H1:(if (af.length:Int)=0 then (some ((ai.length:Int) == 0)) else (some false))=some r:=by rw [if_pos rfl] at H;exact H
     clear H
     have H:=H1
     clear H1
     by_cases c45:(af.length:Int)=0
     ·rw [if_pos c45] at H
      have dd:((af.length:Int) == 0)=true:=beq_iff_eq.mpr c45
      have de:((af.length:Int) != 0)=false:=bne_eq_false_iff_eq.mpr c45
      clear c45
      obtain rfl:=Option.some.inj H
      obtain⟨bD,bF,bI,bJ,bM,bN,bO,bU⟩:=bf4 (w:=wr) ae
      go_wp2
      go_ret
      exact xB HB
     rw [if_neg c45] at H
     have dd:((af.length:Int) == 0)=false:=beq_eq_false_iff_ne.mpr c45
     have de:((af.length:Int) != 0)=true:=bne_iff_ne.mpr c45
     have dr:¬ (af = []):=fun h_=>c45 (by rw [h_];rfl)
     obtain rfl:=Option.some.inj H
     obtain⟨bX,bY,b8,b9,ca,cb,cd,cf⟩:=bf4 (w:=wr) ae
     go_wp2
     go_ret
     exact xB HB
    replace c44:=Bool.eq_false_iff.mpr c44
    subst c44
    have H1:(node_May.l1 k1 af (af.length:Int) 0 false ab af ai)=some r:=by rw [if_neg (show ¬ (false=true) by decide)] at H;exact H
    clear H
    have H:=H1
    clear H1
    have H':=aK H
    clear H
    obtain⟨cg,ch,cj,cm,cn,cp,cq,ct⟩:=bf4 (w:=wr) ae
    go_wp2
    go_loopg [57] k1 (fun kq v57 w'=>∃ (ag:Int),v57 = .int .i64 ag∧Aside0 (node_May.l1 kq af (af.length:Int) ag false ab af ai=some r)∧Aside0 (kq≤k1)∧Aside0 (w'.heap[ak]? = some (.cells #[.bool false,(.slice bx ab.length aQ),(.slice aT af.length aU),(.slice aV ai.length aW)] 36 (0,0)))∧Aside0 (Below w.heap.size w w'))
    case atStart=>exact⟨(0),(by first|rfl|(simp;done)|(simp [*];done)),H',⟨Nat.le_refl _⟩,bK ae,bV HB⟩
    case round =>
     clear H'
     try clear p1
     try clear q1
     try clear hx1
     try clear p2
     try clear c3
     try clear c4
     try clear di
     try clear c5
     try clear c6
     try clear p6
     try clear c7
     try clear c9
     try clear p11
     try clear q11
     try clear eu
     try clear c33
     try clear c34
     try clear c40
     try clear c44
     try clear c45
     try clear dd
     try clear de
     try clear dr
     try clear cu cv cw cx cz cA cB cC
     try clear cD cE cF cG cH cI cJ cK
     try clear bD bF bI bJ
     try clear bX bY b8 b9
     try clear cg ch cj cm
     try clear cL cM cN cO cP cQ cR cS
     try clear cT cU cV cX cY cZ da db
     try clear bM bN bO bU
     try clear ca cb cd cf
     try clear cn cp cq ct
     try clear am
     try clear ao
     try clear ap
     try clear aq
     try clear ar
     try clear au
     try clear av
     try clear aw
     try clear aA
     try clear aC
     obtain⟨ag,rfl,HA,HK2,ae,HB⟩:=hrel
     cases gk with
     | zero=>exact absurd HA.out (by simp [node_May.l1])
     | succ k2 =>
      have H:=HA.out
      clear HA
      simp only [node_May.l1] at H
      by_cases c49:ag<(af.length:Int)
      rotate_left
      ·rw [if_neg c49] at H
       have dt:decide (ag<(af.length:Int))=false:=decide_eq_false c49
       clear c49
       have H':=aK H
       clear H
       obtain⟨dx,dy,dz,dB,dC,dD,dE,dF⟩:=bf4 (w:=wr) ae
       go_wp2
       go_loopg [83] k2 (fun kq v83 w'=>∃ (al:Int),v83 = .int .i64 al∧Aside0 (node_May.l2 kq ai (ai.length:Int) al false ab af ai=some r)∧Aside0 (kq≤k2)∧Aside0 (w'.heap[ak]? = some (.cells #[.bool false,(.slice bx ab.length aQ),(.slice aT af.length aU),(.slice aV ai.length aW)] 36 (0,0)))∧Aside0 (Below w.heap.size w w'))
       case atStart=>exact⟨(0),(by first|rfl|(simp;done)|(simp [*];done)),H',⟨Nat.le_refl _⟩,bK ae,bV HB⟩
       case round =>
        clear H'
        try clear p1
        try clear q1
        try clear hx1
        try clear p2
        try clear c3
        try clear c4
        try clear di
        try clear c5
        try clear c6
        try clear p6
        try clear c7
        try clear c9
        try clear p11
        try clear q11
        try clear eu
        try clear p12
        try clear q12
        try clear f7
        try clear c33
        try clear c34
        try clear c40
        try clear c44
        try clear c45
        try clear dd
        try clear de
        try clear dr
        try clear c49
        try clear dt
        try clear c50
        try clear d9
        try clear c51
        try clear ed
        try clear c53
        try clear c54
        try clear du
        try clear c56
        try clear eg
        try clear c57
        try clear eh
        try clear c58
        try clear dv
        try clear cu cv cw cx cz cA cB cC
        try clear cD cE cF cG cH cI cJ cK
        try clear bD bF bI bJ
        try clear bX bY b8 b9
        try clear cg ch cj cm
        try clear dG dH dI dJ
        try clear dK dL dM dN
        try clear dx dy dz dB
        try clear cL cM cN cO cP cQ cR cS
        try clear cT cU cV cX cY cZ da db
        try clear bM bN bO bU
        try clear ca cb cd cf
        try clear cn cp cq ct
        try clear dO dP dQ dR
        try clear dS dT dU dV
        try clear dC dD dE dF
        try clear am
        try clear ao
        try clear ap
        try clear aq
        try clear ar
        try clear au
        try clear av
        try clear aw
        try clear ax
        try clear ba
        try clear p1
        try clear p11
        try clear aA
        try clear aX
        try clear bp
        try clear p2
        try clear p6
        try clear q1
        try clear q11
        try clear aC
        try clear aY
        try clear bq
        obtain⟨al,rfl,HA,HK3,ae,HB⟩:=hrel
        cases gk with
        | zero=>exact absurd HA.out (by simp [node_May.l2])
        | succ k3 =>
         have H:=HA.out
         clear HA
         simp only [node_May.l2] at H
         by_cases c62:al<(ai.length:Int)
         rotate_left
         ·rw [if_neg c62] at H
          have ei:decide (al<(ai.length:Int))=false:=decide_eq_false c62
          clear c62
          by_cases c67:(ai.length:Int)≥1
          rotate_left
          ·rw [if_neg c67] at H
           have ej:decide (1≤(ai.length:Int))=false:=decide_eq_false c67
           have ek:decide (1≤ai.length)=false:=decide_eq_false (by omega)
           clear c67
           obtain rfl:=Option.some.inj H
           obtain⟨ev,ex,ey,ez,eA,eB,eC,eD⟩:=bf4 (w:=wr) ae
           go_wp2
           go_ret
           exact xB HB
          rw [if_pos c67] at H
          have ej:decide (1≤(ai.length:Int))=true:=decide_eq_true c67
          have ek:decide (1≤ai.length)=true:=decide_eq_true (by omega)
          clear c67
          by_cases c68:(ai.length:Int)≤32
          ·rw [if_pos c68] at H
           have el:decide ((ai.length:Int)≤32)=true:=decide_eq_true c68
           have em:decide (ai.length≤32)=true:=decide_eq_true (by omega)
           clear c68
           obtain rfl:=Option.some.inj H
           obtain⟨eE,eF,eG,eH,eI,eJ,eK,eL⟩:=bf4 (w:=wr) ae
           go_wp2
           go_ret
           exact xB HB
          rw [if_neg c68] at H
          have el:decide ((ai.length:Int)≤32)=false:=decide_eq_false c68
          have em:decide (ai.length≤32)=false:=decide_eq_false (by omega)
          clear c68
          obtain rfl:=Option.some.inj H
          obtain⟨eM,eN,eO,eP,eQ,eR,eS,eT⟩:=bf4 (w:=wr) ae
          go_wp2
          go_ret
          exact xB HB
         rw [if_pos c62] at H
         have ei:decide (al<(ai.length:Int))=true:=decide_eq_true c62
         clear c62
         by_cases c63:0≤al
         rotate_left
         ·rw [if_neg c63] at H
          exact absurd H (by simp)
         rw [if_pos c63] at H
         have fZ:decide (0≤al)=true:=decide_eq_true c63
         clear c63
         by_cases c64:al<(ai.length:Int)
         rotate_left
         ·rw [if_neg c64] at H
          exact absurd H (by simp)
         rw [if_pos c64] at H
         have f4:decide (al<(ai.length:Int))=true:=decide_eq_true c64
         clear c64
         by_cases c65:(rd ai al)<2
         ·rw [if_pos c65] at H
          have ep:decide ((rd ai al)<2)=true:=decide_eq_true c65
          clear c65
          obtain rfl:=Option.some.inj H
          have bb:0≤(al:Int):=dA
          have bc:al<(ai.length:Int):=dA
          obtain⟨dw,e121,aZ⟩:=Kd.at_int dc.out al bb bc
          cases e121
          replace aZ:=cW HB aZ
          replace bb:=eq_true bb
          replace bc:=eq_true bc
          go_wp2
          go_ret
          exact xB HB
         rw [if_neg c65] at H
         have ep:decide ((rd ai al)<2)=false:=decide_eq_false c65
         clear c65
         by_cases c66:(rd ai al)≥32
         ·rw [if_pos c66] at H
          have er:decide (32≤(rd ai al))=true:=decide_eq_true c66
          clear c66
          obtain rfl:=Option.some.inj H
          have bb:0≤(al:Int):=dA
          have bc:al<(ai.length:Int):=dA
          obtain⟨dw,e121,aZ⟩:=Kd.at_int dc.out al bb bc
          cases e121
          replace aZ:=cW HB aZ
          replace bb:=eq_true bb
          replace bc:=eq_true bc
          go_wp2
          go_ret
          exact xB HB
         rw [if_neg c66] at H
         have er:decide (32≤(rd ai al))=false:=decide_eq_false c66
         clear c66
         have H':=aK H
         clear H
         have bb:0≤(al:Int):=dA
         have bc:al<(ai.length:Int):=dA
         obtain⟨dw,e121,aZ⟩:=Kd.at_int dc.out al bb bc
         cases e121
         replace aZ:=cW HB aZ
         replace bb:=eq_true bb
         replace bc:=eq_true bc
         go_wp2
         go_roundg k3
         case measure=>have:=HK1.out;have:=HK2.out;have:=HK3.out;omega
         case rel=>exact⟨(wrap64 (al+1)),(by first|rfl|(simp;done)|(simp [*];done)),H',⟨by have:=HK1.out;have:=HK2.out;have:=HK3.out;omega⟩,bK ae,bV HB⟩
      rw [if_pos c49] at H
      have dt:decide (ag<(af.length:Int))=true:=decide_eq_true c49
      clear c49
      by_cases c50:0≤ag
      rotate_left
      ·rw [if_neg c50] at H
       exact absurd H (by simp)
      rw [if_pos c50] at H
      have d9:decide (0≤ag)=true:=decide_eq_true c50
      clear c50
      by_cases c51:ag<(af.length:Int)
      rotate_left
      ·rw [if_neg c51] at H
       exact absurd H (by simp)
      rw [if_pos c51] at H
      have ed:decide (ag<(af.length:Int))=true:=decide_eq_true c51
      clear c51
      replace H:=oS H
      obtain⟨d7,d8,H⟩:=H
      replace H:(if d7=true then (if ag>0 then (if 0≤(wrap64 (ag - 1)) then (if (wrap64 (ag - 1))<(af.length:Int) then (if ((Op.bytesLess ((rdOf ByteArray.empty af (wrap64 (ag - 1))).toList) ((rdOf ByteArray.empty af ag).toList))=true) then (node_May.l1 k2 af (af.length:Int) (wrap64 (ag+1)) false ab af ai) else (some false)) else (none)) else (none)) else (node_May.l1 k2 af (af.length:Int) (wrap64 (ag+1)) false ab af ai)) else (some false))=some r:=H
      have A52:=aK d8
      clear d8
      by_cases c53:d7=true
      rotate_left
      ·replace c53:=Bool.eq_false_iff.mpr c53
       subst c53
       have H1:(some false)=some r:=by rw [if_neg (show ¬ (false=true) by decide)] at H;exact H
       clear H
       have H:=H1
       clear H1
       obtain rfl:=Option.some.inj H
       have aX:0≤(ag:Int):=dA
       have aY:ag<(af.length:Int):=dA
       obtain⟨bv,e118,ax⟩:=Kd.at_string br.out ag aX aY
       cases e118
       replace ax:=cW HB ax
       replace aX:=eq_true aX
       replace aY:=eq_true aY
       go_wp2_with (first|((with_reducible refine gate_callee (f:=34) rfl ?_);refine gL (some 63) Try.func34 #[.string (rdOf ByteArray.empty af ag)] ?_;(with_reducible refine (key_May.calls (rdOf ByteArray.empty af ag) false _ A52.out).mono ?_);rintro e w' ⟨rfl,⟨nd,rfl⟩⟩;refine⟨_,rfl,?_⟩))
       go_ret
       exact xB HB
      subst c53
      have H1:(if ag>0 then (if 0≤(wrap64 (ag - 1)) then (if (wrap64 (ag - 1))<(af.length:Int) then (if ((Op.bytesLess ((rdOf ByteArray.empty af (wrap64 (ag - 1))).toList) ((rdOf ByteArray.empty af ag).toList))=true) then (node_May.l1 k2 af (af.length:Int) (wrap64 (ag+1)) false ab af ai) else (some false)) else (none)) else (none)) else (node_May.l1 k2 af (af.length:Int) (wrap64 (ag+1)) false ab af ai))=some r:=by rw [if_pos rfl] at H;exact H
      clear H
      have H:=H1
      clear H1
      by_cases c54:ag>0
      rotate_left
      ·rw [if_neg c54] at H
       have du:decide (0<ag)=false:=decide_eq_false c54
       clear c54
       have H':=aK H
       clear H
       have aX:0≤(ag:Int):=dA
       have aY:ag<(af.length:Int):=dA
       obtain⟨bv,e118,ax⟩:=Kd.at_string br.out ag aX aY
       cases e118
       replace ax:=cW HB ax
       replace aX:=eq_true aX
       replace aY:=eq_true aY
       go_wp2_with (first|((with_reducible refine gate_callee (f:=34) rfl ?_);refine gL (some 63) Try.func34 #[.string (rdOf ByteArray.empty af ag)] ?_;(with_reducible refine (key_May.calls (rdOf ByteArray.empty af ag) true _ A52.out).mono ?_);rintro e w' ⟨rfl,⟨nd,rfl⟩⟩;refine⟨_,rfl,?_⟩))
       go_roundg k2
       case measure=>have:=HK1.out;have:=HK2.out;omega
       case rel=>exact⟨(wrap64 (ag+1)),(by first|rfl|(simp;done)|(simp [*];done)),H',⟨by have:=HK1.out;have:=HK2.out;omega⟩,bK ae,bV HB⟩
      rw [if_pos c54] at H
      have du:decide (0<ag)=true:=decide_eq_true c54
      clear c54
      obtain⟨ji55,hji55⟩:∃ j_:Int,(wrap64 (ag - 1))=j_:=⟨_,rfl⟩
      replace H:(if 0≤(ji55) then (if (ji55)<(af.length:Int) then (if ((Op.bytesLess ((rdOf ByteArray.empty af (ji55)).toList) ((rdOf ByteArray.empty af ag).toList))=true) then (node_May.l1 k2 af (af.length:Int) (wrap64 (ag+1)) false ab af ai) else (some false)) else (none)) else (none))=some r:=by first|(rw [hji55] at H;exact H)|(simp only [hji55] at H ⊢;exact H)
      (try rw [hji55] at A52)
      have hji55w:(IntKind.i64.wrap (ag - 1))=ji55:=(i64_w _).trans hji55
      by_cases c56:0≤(ji55)
      rotate_left
      ·rw [if_neg c56] at H
       exact absurd H (by simp)
      rw [if_pos c56] at H
      have eg:decide (0≤(ji55))=true:=decide_eq_true c56
      clear c56
      by_cases c57:(ji55)<(af.length:Int)
      rotate_left
      ·rw [if_neg c57] at H
       exact absurd H (by simp)
      rw [if_pos c57] at H
      have eh:decide ((ji55)<(af.length:Int))=true:=decide_eq_true c57
      clear c57
      by_cases c58:((Op.bytesLess ((rdOf ByteArray.empty af (ji55)).toList) ((rdOf ByteArray.empty af ag).toList))=true)
      ·rw [if_pos c58] at H
       have dv:(Op.bytesLess ((rdOf ByteArray.empty af (ji55)).toList) ((rdOf ByteArray.empty af ag).toList))=true:=c58
       clear c58
       have H':=aK H
       clear H
       have aX:0≤(ag:Int):=dA
       have aY:ag<(af.length:Int):=dA
       obtain⟨bv,e118,ax⟩:=Kd.at_string br.out ag aX aY
       cases e118
       replace ax:=cW HB ax
       replace aX:=eq_true aX
       replace aY:=eq_true aY
       go_wp2_with (first|((with_reducible refine gate_callee (f:=34) rfl ?_);refine gL (some 63) Try.func34 #[.string (rdOf ByteArray.empty af ag)] ?_;(with_reducible refine (key_May.calls (rdOf ByteArray.empty af ag) true _ A52.out).mono ?_);rintro e w' ⟨rfl,⟨nd,rfl⟩⟩;refine⟨_,rfl,?_⟩;obtain⟨dG,dH,dI,dJ,dO,dP,dQ,dR⟩:=bf4 (w:=wr) ae;have bp:0≤((ji55):Int):=dA;have bq:(ji55)<(af.length:Int):=dA;obtain⟨df,e120,ba⟩:=Kd.at_string br.out (ji55) bp bq;obtain rfl:bv=df:=(by injection e120);replace ba:=cW HB ba;replace bp:=eq_true bp;replace bq:=eq_true bq))
       go_roundg k2
       case measure=>have:=HK1.out;have:=HK2.out;omega
       case rel=>exact⟨(wrap64 (ag+1)),(by first|rfl|(simp;done)|(simp [*];done)),H',⟨by have:=HK1.out;have:=HK2.out;omega⟩,bK ae,bV HB⟩
      rw [if_neg c58] at H
      have dv:(Op.bytesLess ((rdOf ByteArray.empty af (ji55)).toList) ((rdOf ByteArray.empty af ag).toList))=false:=by simpa using c58
      clear c58
      obtain rfl:=Option.some.inj H
      have aX:0≤(ag:Int):=dA
      have aY:ag<(af.length:Int):=dA
      obtain⟨bv,e118,ax⟩:=Kd.at_string br.out ag aX aY
      cases e118
      replace ax:=cW HB ax
      replace aX:=eq_true aX
      replace aY:=eq_true aY
      go_wp2_with (first|((with_reducible refine gate_callee (f:=34) rfl ?_);refine gL (some 63) Try.func34 #[.string (rdOf ByteArray.empty af ag)] ?_;(with_reducible refine (key_May.calls (rdOf ByteArray.empty af ag) true _ A52.out).mono ?_);rintro e w' ⟨rfl,⟨nd,rfl⟩⟩;refine⟨_,rfl,?_⟩;obtain⟨dK,dL,dM,dN,dS,dT,dU,dV⟩:=bf4 (w:=wr) ae;have bp:0≤((ji55):Int):=dA;have bq:(ji55)<(af.length:Int):=dA;obtain⟨df,e120,ba⟩:=Kd.at_string br.out (ji55) bp bq;obtain rfl:bv=df:=(by injection e120);replace ba:=cW HB ba;replace bp:=eq_true bp;replace bq:=eq_true bq))
      go_ret
      exact⟨by first|rfl|(simp [errW_none,errW_some] <;> rfl)|(simp only [← hji55];first|rfl|(simp [errW_none,errW_some] <;> rfl))|(simp [*,errW_none,errW_some] <;> rfl),by repeat (first|(with_reducible first|exact HB.out|apply below_alloc|apply pw_below_drewN|apply below_drew1|refine below_set ?_ dq.out)|exact HB.out)⟩
   rw [if_pos c4] at H
   have di:decide (aa<(ab.length:Int))=true:=decide_eq_true c4
   clear c4
   by_cases c5:0≤aa
   rotate_left
   ·rw [if_neg c5] at H
    exact absurd H (by simp)
   rw [if_pos c5] at H
   have f8:decide (0≤aa)=true:=decide_eq_true c5
   clear c5
   by_cases c6:aa<(ab.length:Int)
   rotate_left
   ·rw [if_neg c6] at H
    exact absurd H (by simp)
   rw [if_pos c6] at H
   have ga:decide (aa<(ab.length:Int))=true:=decide_eq_true c6
   clear c6
   by_cases c7:bo=true
   rotate_left
   ·replace c7:=Bool.eq_false_iff.mpr c7
    subst c7
    have H1:(some false)=some r:=by rw [if_neg (show ¬ (false=true) by decide)] at H;exact H
    clear H
    have H:=H1
    clear H1
    obtain rfl:=Option.some.inj H
    have aA:0≤(aa:Int):=dA
    have aC:aa<(ab.length:Int):=dA
    obtain⟨aj,e114,am,ao,ap,aq,ar,au,av,aw⟩:=at_T62 bn.out aa aA aC
    cases e114
    replace am:=cW HB am
    replace ao:=cW HB ao
    replace ap:=cW HB ap
    replace aq:=cW HB aq
    replace ar:=cW HB ar
    replace au:=cW HB au
    replace av:=cW HB av
    replace aw:=cW HB aw
    replace aA:=eq_true aA
    replace aC:=eq_true aC
    try go_wp2_with (first|((with_reducible refine gate_dst (N:=4) rfl ?_);(try (refine gate_guard (by rfl) ?_;dsimp only));refine box_event ?hg (N:=4) ?hd (cs:=#[.string (⟨#[]⟩:ByteArray),.int .i64 0,.float .f64 0,.string (⟨#[]⟩:ByteArray),.int .i64 0,.int .i64 0,.float .f64 0,.string (⟨#[]⟩:ByteArray)]) (t:=62) ?hr ?_;(case hd=>rfl);(case hg=>rfl);(case hr=>first|(go_simp;done)|(go_simp;rfl));intro ac hg w39 hbox hb;have ah:=aK (hbox);have bA:=bZ HB hg;have bw:=bZ HB hg;have ay:=bL ae hg;have az:=bG ae hg;replace ae:=bB ae hb;replace HB:=bW HB hb;clear hb hbox hg;have hnb40:=az.out;have hnc40:=ay.out;obtain⟨cD,cE,cF,cG,cH,cI,cJ,cK,cT,cU,cV,cX,cY,cZ,da,db⟩:=bf8 (w:=w39) ah))
    have n0_:Aside0 (((((((((w39.setCell ⟨ac,0,none⟩ (.string ((rd_T62 ab aa).f0))).setCell ⟨ac,1,none⟩ (.int .i64 ((rd_T62 ab aa).f1.f0))).setCell ⟨ac,2,none⟩ (.float .f64 ((rd_T62 ab aa).f1.f1))).setCell ⟨ac,3,none⟩ (.string ((rd_T62 ab aa).f1.f2))).setCell ⟨ac,4,none⟩ (.int .i64 ((rd_T62 ab aa).f2))).setCell ⟨ac,5,none⟩ (.int .i64 ((rd_T62 ab aa).f3.f0))).setCell ⟨ac,6,none⟩ (.float .f64 ((rd_T62 ab aa).f3.f1))).setCell ⟨ac,7,none⟩ (.string ((rd_T62 ab aa).f3.f2))).heap[ak]? = some (.cells #[.bool false,.slice (some aj) ab.length aQ,.slice aT af.length aU,.slice aV ai.length aW] 36 (0,0))):=bS ae
    have n1_:Aside0 (((((((((w39.setCell ⟨ac,0,none⟩ (.string ((rd_T62 ab aa).f0))).setCell ⟨ac,1,none⟩ (.int .i64 ((rd_T62 ab aa).f1.f0))).setCell ⟨ac,2,none⟩ (.float .f64 ((rd_T62 ab aa).f1.f1))).setCell ⟨ac,3,none⟩ (.string ((rd_T62 ab aa).f1.f2))).setCell ⟨ac,4,none⟩ (.int .i64 ((rd_T62 ab aa).f2))).setCell ⟨ac,5,none⟩ (.int .i64 ((rd_T62 ab aa).f3.f0))).setCell ⟨ac,6,none⟩ (.float .f64 ((rd_T62 ab aa).f3.f1))).setCell ⟨ac,7,none⟩ (.string ((rd_T62 ab aa).f3.f2))).heap[ac]? = some (.cells #[.string ((rd_T62 ab aa).f0),.int .i64 ((rd_T62 ab aa).f1.f0),.float .f64 ((rd_T62 ab aa).f1.f1),.string ((rd_T62 ab aa).f1.f2),.int .i64 ((rd_T62 ab aa).f2),.int .i64 ((rd_T62 ab aa).f3.f0),.float .f64 ((rd_T62 ab aa).f3.f1),.string ((rd_T62 ab aa).f3.f2)] 62 (0,0))):=⟨by (with_reducible repeat (first|refine blk_drewN ?_ _|refine blk_drew ?_|refine blk_alloc ?_ _));refine blk_put (cs:=#[.string ((rd_T62 ab aa).f0),.int .i64 ((rd_T62 ab aa).f1.f0),.float .f64 ((rd_T62 ab aa).f1.f1),.string ((rd_T62 ab aa).f1.f2),.int .i64 ((rd_T62 ab aa).f2),.int .i64 ((rd_T62 ab aa).f3.f0),.float .f64 ((rd_T62 ab aa).f3.f1),.string (⟨#[]⟩:ByteArray)]) ?_ 7 _ rfl;(with_reducible repeat (first|refine blk_drewN ?_ _|refine blk_drew ?_|refine blk_alloc ?_ _));refine blk_put (cs:=#[.string ((rd_T62 ab aa).f0),.int .i64 ((rd_T62 ab aa).f1.f0),.float .f64 ((rd_T62 ab aa).f1.f1),.string ((rd_T62 ab aa).f1.f2),.int .i64 ((rd_T62 ab aa).f2),.int .i64 ((rd_T62 ab aa).f3.f0),.float .f64 0,.string (⟨#[]⟩:ByteArray)]) ?_ 6 _ rfl;(with_reducible repeat (first|refine blk_drewN ?_ _|refine blk_drew ?_|refine blk_alloc ?_ _));refine blk_put (cs:=#[.string ((rd_T62 ab aa).f0),.int .i64 ((rd_T62 ab aa).f1.f0),.float .f64 ((rd_T62 ab aa).f1.f1),.string ((rd_T62 ab aa).f1.f2),.int .i64 ((rd_T62 ab aa).f2),.int .i64 0,.float .f64 0,.string (⟨#[]⟩:ByteArray)]) ?_ 5 _ rfl;(with_reducible repeat (first|refine blk_drewN ?_ _|refine blk_drew ?_|refine blk_alloc ?_ _));refine blk_put (cs:=#[.string ((rd_T62 ab aa).f0),.int .i64 ((rd_T62 ab aa).f1.f0),.float .f64 ((rd_T62 ab aa).f1.f1),.string ((rd_T62 ab aa).f1.f2),.int .i64 0,.int .i64 0,.float .f64 0,.string (⟨#[]⟩:ByteArray)]) ?_ 4 _ rfl;(with_reducible repeat (first|refine blk_drewN ?_ _|refine blk_drew ?_|refine blk_alloc ?_ _));refine blk_put (cs:=#[.string ((rd_T62 ab aa).f0),.int .i64 ((rd_T62 ab aa).f1.f0),.float .f64 ((rd_T62 ab aa).f1.f1),.string (⟨#[]⟩:ByteArray),.int .i64 0,.int .i64 0,.float .f64 0,.string (⟨#[]⟩:ByteArray)]) ?_ 3 _ rfl;(with_reducible repeat (first|refine blk_drewN ?_ _|refine blk_drew ?_|refine blk_alloc ?_ _));refine blk_put (cs:=#[.string ((rd_T62 ab aa).f0),.int .i64 ((rd_T62 ab aa).f1.f0),.float .f64 0,.string (⟨#[]⟩:ByteArray),.int .i64 0,.int .i64 0,.float .f64 0,.string (⟨#[]⟩:ByteArray)]) ?_ 2 _ rfl;(with_reducible repeat (first|refine blk_drewN ?_ _|refine blk_drew ?_|refine blk_alloc ?_ _));refine blk_put (cs:=#[.string ((rd_T62 ab aa).f0),.int .i64 0,.float .f64 0,.string (⟨#[]⟩:ByteArray),.int .i64 0,.int .i64 0,.float .f64 0,.string (⟨#[]⟩:ByteArray)]) ?_ 1 _ rfl;(with_reducible repeat (first|refine blk_drewN ?_ _|refine blk_drew ?_|refine blk_alloc ?_ _));refine blk_put (cs:=#[.string (⟨#[]⟩:ByteArray),.int .i64 0,.float .f64 0,.string (⟨#[]⟩:ByteArray),.int .i64 0,.int .i64 0,.float .f64 0,.string (⟨#[]⟩:ByteArray)]) ?_ 0 _ rfl;(with_reducible repeat (first|refine blk_drewN ?_ _|refine blk_drew ?_|refine blk_alloc ?_ _));exact ah.out⟩
    have n2_:Aside0 (Below w.heap.size w ((((((((w39.setCell ⟨ac,0,none⟩ (.string ((rd_T62 ab aa).f0))).setCell ⟨ac,1,none⟩ (.int .i64 ((rd_T62 ab aa).f1.f0))).setCell ⟨ac,2,none⟩ (.float .f64 ((rd_T62 ab aa).f1.f1))).setCell ⟨ac,3,none⟩ (.string ((rd_T62 ab aa).f1.f2))).setCell ⟨ac,4,none⟩ (.int .i64 ((rd_T62 ab aa).f2))).setCell ⟨ac,5,none⟩ (.int .i64 ((rd_T62 ab aa).f3.f0))).setCell ⟨ac,6,none⟩ (.float .f64 ((rd_T62 ab aa).f3.f1))).setCell ⟨ac,7,none⟩ (.string ((rd_T62 ab aa).f3.f2)))):=bV HB
    (try clear ae)
    (try clear ah)
    (try clear HB)
    generalize ((((((((w39.setCell ⟨ac,0,none⟩ (.string ((rd_T62 ab aa).f0))).setCell ⟨ac,1,none⟩ (.int .i64 ((rd_T62 ab aa).f1.f0))).setCell ⟨ac,2,none⟩ (.float .f64 ((rd_T62 ab aa).f1.f1))).setCell ⟨ac,3,none⟩ (.string ((rd_T62 ab aa).f1.f2))).setCell ⟨ac,4,none⟩ (.int .i64 ((rd_T62 ab aa).f2))).setCell ⟨ac,5,none⟩ (.int .i64 ((rd_T62 ab aa).f3.f0))).setCell ⟨ac,6,none⟩ (.float .f64 ((rd_T62 ab aa).f3.f1))).setCell ⟨ac,7,none⟩ (.string ((rd_T62 ab aa).f3.f2)))=w42 at n0_ n1_ n2_ ⊢
    have ae:=n0_
    have ah:=n1_
    have HB:=n2_
    clear n0_ n1_ n2_
    replace ae:=aK (blk_drew ae.out)
    replace ah:=aK (blk_drew ah.out)
    replace HB:=aK (below_drew1 HB.out)
    refine start_ (n:=24) (S:=fun w'=>w'.cell? ⟨ak,0,none⟩=some (.bool false)∧w'.cell? ⟨ak,1,none⟩=some (.slice (some aj) ab.length aQ)∧w'.cell? ⟨ak,2,none⟩=some (.slice aT af.length aU)∧w'.cell? ⟨ak,3,none⟩=some (.slice aV ai.length aW)) (ds:=[]) #[false,false,false,false,false,false,false,false,false,false,false,false,false,false,false,false,false,false,false,false,false,false,false,false] (by kernel_rfl) rfl rfl (be4 ae) (fun hHeld=>?_);refine with_tabW node_May.tab4 node_May.bits4 (fun HT_ HW_=>?_)
    generalize w42.drew=w43 at ae ah HB hHeld ⊢
    refine pA 0 17 HT_ ?_
    refine tA 1 18 HT_ HW_ hHeld ?_ (hy:=by rintro w' ⟨s0,s1,s2,s3⟩;go_simp;with_reducible rfl)
    refine pA 2 19 HT_ ?_
    refine pA 3 20 HT_ ?_
    refine pU 4 21 HT_ ?_
    refine pU 5 22 HT_ ?_
    refine pU 6 23 HT_ ?_
    refine pA 7 24 HT_ ?_
    refine pA 8 25 HT_ ?_
    refine pU 9 26 HT_ ?_
    refine pU 10 27 HT_ ?_
    refine pU 11 28 HT_ ?_
    refine pU 12 29 HT_ ?_
    refine pU 13 30 HT_ ?_
    refine pU 14 31 HT_ ?_
    refine pU 15 32 HT_ ?_
    refine pU 16 33 HT_ ?_
    refine pU 17 34 HT_ ?_
    refine pU 18 35 HT_ ?_
    refine pU 19 36 HT_ ?_
    refine pU 20 37 HT_ ?_
    refine pU 21 38 HT_ ?_
    refine pU 22 39 HT_ ?_
    refine pA 23 40 HT_ ?_
    refine done_ (done_of HT_.out (by kernel_rfl)) ?_
    try go_wp2
    go_ret
    exact xB HB
   subst c7
   have H1:((cell_May.f k1 ((rd_T62 ab aa).f0) ((rd_T62 ab aa).f1.f0) ((rd_T62 ab aa).f1.f1) ((rd_T62 ab aa).f1.f2) ((rd_T62 ab aa).f2) ((rd_T62 ab aa).f3.f0) ((rd_T62 ab aa).f3.f1) ((rd_T62 ab aa).f3.f2)).bind fun dg=>(if dg=true then (if aa>0 then (if 0≤(wrap64 (aa - 1)) then (if (wrap64 (aa - 1))<(ab.length:Int) then (if ((Op.bytesLess (((rd_T62 ab (wrap64 (aa - 1))).f0).toList) (((rd_T62 ab aa).f0).toList))=true) then (node_May.l0 k1 ab (ab.length:Int) (wrap64 (aa+1)) true ab af ai) else (some false)) else (none)) else (none)) else (node_May.l0 k1 ab (ab.length:Int) (wrap64 (aa+1)) true ab af ai)) else (some false)))=some r:=by rw [if_pos rfl] at H;exact H
   clear H
   have H:=H1
   clear H1
   replace H:=oS H
   obtain⟨dg,A80,H⟩:=H
   replace H:(if dg=true then (if aa>0 then (if 0≤(wrap64 (aa - 1)) then (if (wrap64 (aa - 1))<(ab.length:Int) then (if ((Op.bytesLess (((rd_T62 ab (wrap64 (aa - 1))).f0).toList) (((rd_T62 ab aa).f0).toList))=true) then (node_May.l0 k1 ab (ab.length:Int) (wrap64 (aa+1)) true ab af ai) else (some false)) else (none)) else (none)) else (node_May.l0 k1 ab (ab.length:Int) (wrap64 (aa+1)) true ab af ai)) else (some false))=some r:=H
   have A8:=aK A80
   clear A80
   by_cases c9:dg=true
   rotate_left
   ·replace c9:=Bool.eq_false_iff.mpr c9
    subst c9
    have H1:(some false)=some r:=by rw [if_neg (show ¬ (false=true) by decide)] at H;exact H
    clear H
    have H:=H1
    clear H1
    obtain rfl:=Option.some.inj H
    have aA:0≤(aa:Int):=dA
    have aC:aa<(ab.length:Int):=dA
    obtain⟨aj,e114,am,ao,ap,aq,ar,au,av,aw⟩:=at_T62 bn.out aa aA aC
    cases e114
    replace am:=cW HB am
    replace ao:=cW HB ao
    replace ap:=cW HB ap
    replace aq:=cW HB aq
    replace ar:=cW HB ar
    replace au:=cW HB au
    replace av:=cW HB av
    replace aw:=cW HB aw
    replace aA:=eq_true aA
    replace aC:=eq_true aC
    try go_wp2_with (first|((with_reducible refine gate_dst (N:=4) rfl ?_);(try (refine gate_guard (by rfl) ?_;dsimp only));refine box_event ?hg (N:=4) ?hd (cs:=#[.string (⟨#[]⟩:ByteArray),.int .i64 0,.float .f64 0,.string (⟨#[]⟩:ByteArray),.int .i64 0,.int .i64 0,.float .f64 0,.string (⟨#[]⟩:ByteArray)]) (t:=62) ?hr ?_;(case hd=>rfl);(case hg=>rfl);(case hr=>first|(go_simp;done)|(go_simp;rfl));intro ac hg w33 hbox hb;have ah:=aK (hbox);have bA:=bZ HB hg;have bw:=bZ HB hg;have ay:=bL ae hg;have az:=bG ae hg;replace ae:=bB ae hb;replace HB:=bW HB hb;clear hb hbox hg;have hnb34:=az.out;have hnc34:=ay.out;obtain⟨cu,cv,cw,cx,cz,cA,cB,cC,cL,cM,cN,cO,cP,cQ,cR,cS⟩:=bf8 (w:=w33) ah))
    have n0_:Aside0 (((((((((w33.setCell ⟨ac,0,none⟩ (.string ((rd_T62 ab aa).f0))).setCell ⟨ac,1,none⟩ (.int .i64 ((rd_T62 ab aa).f1.f0))).setCell ⟨ac,2,none⟩ (.float .f64 ((rd_T62 ab aa).f1.f1))).setCell ⟨ac,3,none⟩ (.string ((rd_T62 ab aa).f1.f2))).setCell ⟨ac,4,none⟩ (.int .i64 ((rd_T62 ab aa).f2))).setCell ⟨ac,5,none⟩ (.int .i64 ((rd_T62 ab aa).f3.f0))).setCell ⟨ac,6,none⟩ (.float .f64 ((rd_T62 ab aa).f3.f1))).setCell ⟨ac,7,none⟩ (.string ((rd_T62 ab aa).f3.f2))).heap[ak]? = some (.cells #[.bool true,.slice (some aj) ab.length aQ,.slice aT af.length aU,.slice aV ai.length aW] 36 (0,0))):=bS ae
    have n1_:Aside0 (((((((((w33.setCell ⟨ac,0,none⟩ (.string ((rd_T62 ab aa).f0))).setCell ⟨ac,1,none⟩ (.int .i64 ((rd_T62 ab aa).f1.f0))).setCell ⟨ac,2,none⟩ (.float .f64 ((rd_T62 ab aa).f1.f1))).setCell ⟨ac,3,none⟩ (.string ((rd_T62 ab aa).f1.f2))).setCell ⟨ac,4,none⟩ (.int .i64 ((rd_T62 ab aa).f2))).setCell ⟨ac,5,none⟩ (.int .i64 ((rd_T62 ab aa).f3.f0))).setCell ⟨ac,6,none⟩ (.float .f64 ((rd_T62 ab aa).f3.f1))).setCell ⟨ac,7,none⟩ (.string ((rd_T62 ab aa).f3.f2))).heap[ac]? = some (.cells #[.string ((rd_T62 ab aa).f0),.int .i64 ((rd_T62 ab aa).f1.f0),.float .f64 ((rd_T62 ab aa).f1.f1),.string ((rd_T62 ab aa).f1.f2),.int .i64 ((rd_T62 ab aa).f2),.int .i64 ((rd_T62 ab aa).f3.f0),.float .f64 ((rd_T62 ab aa).f3.f1),.string ((rd_T62 ab aa).f3.f2)] 62 (0,0))):=⟨by (with_reducible repeat (first|refine blk_drewN ?_ _|refine blk_drew ?_|refine blk_alloc ?_ _));refine blk_put (cs:=#[.string ((rd_T62 ab aa).f0),.int .i64 ((rd_T62 ab aa).f1.f0),.float .f64 ((rd_T62 ab aa).f1.f1),.string ((rd_T62 ab aa).f1.f2),.int .i64 ((rd_T62 ab aa).f2),.int .i64 ((rd_T62 ab aa).f3.f0),.float .f64 ((rd_T62 ab aa).f3.f1),.string (⟨#[]⟩:ByteArray)]) ?_ 7 _ rfl;(with_reducible repeat (first|refine blk_drewN ?_ _|refine blk_drew ?_|refine blk_alloc ?_ _));refine blk_put (cs:=#[.string ((rd_T62 ab aa).f0),.int .i64 ((rd_T62 ab aa).f1.f0),.float .f64 ((rd_T62 ab aa).f1.f1),.string ((rd_T62 ab aa).f1.f2),.int .i64 ((rd_T62 ab aa).f2),.int .i64 ((rd_T62 ab aa).f3.f0),.float .f64 0,.string (⟨#[]⟩:ByteArray)]) ?_ 6 _ rfl;(with_reducible repeat (first|refine blk_drewN ?_ _|refine blk_drew ?_|refine blk_alloc ?_ _));refine blk_put (cs:=#[.string ((rd_T62 ab aa).f0),.int .i64 ((rd_T62 ab aa).f1.f0),.float .f64 ((rd_T62 ab aa).f1.f1),.string ((rd_T62 ab aa).f1.f2),.int .i64 ((rd_T62 ab aa).f2),.int .i64 0,.float .f64 0,.string (⟨#[]⟩:ByteArray)]) ?_ 5 _ rfl;(with_reducible repeat (first|refine blk_drewN ?_ _|refine blk_drew ?_|refine blk_alloc ?_ _));refine blk_put (cs:=#[.string ((rd_T62 ab aa).f0),.int .i64 ((rd_T62 ab aa).f1.f0),.float .f64 ((rd_T62 ab aa).f1.f1),.string ((rd_T62 ab aa).f1.f2),.int .i64 0,.int .i64 0,.float .f64 0,.string (⟨#[]⟩:ByteArray)]) ?_ 4 _ rfl;(with_reducible repeat (first|refine blk_drewN ?_ _|refine blk_drew ?_|refine blk_alloc ?_ _));refine blk_put (cs:=#[.string ((rd_T62 ab aa).f0),.int .i64 ((rd_T62 ab aa).f1.f0),.float .f64 ((rd_T62 ab aa).f1.f1),.string (⟨#[]⟩:ByteArray),.int .i64 0,.int .i64 0,.float .f64 0,.string (⟨#[]⟩:ByteArray)]) ?_ 3 _ rfl;(with_reducible repeat (first|refine blk_drewN ?_ _|refine blk_drew ?_|refine blk_alloc ?_ _));refine blk_put (cs:=#[.string ((rd_T62 ab aa).f0),.int .i64 ((rd_T62 ab aa).f1.f0),.float .f64 0,.string (⟨#[]⟩:ByteArray),.int .i64 0,.int .i64 0,.float .f64 0,.string (⟨#[]⟩:ByteArray)]) ?_ 2 _ rfl;(with_reducible repeat (first|refine blk_drewN ?_ _|refine blk_drew ?_|refine blk_alloc ?_ _));refine blk_put (cs:=#[.string ((rd_T62 ab aa).f0),.int .i64 0,.float .f64 0,.string (⟨#[]⟩:ByteArray),.int .i64 0,.int .i64 0,.float .f64 0,.string (⟨#[]⟩:ByteArray)]) ?_ 1 _ rfl;(with_reducible repeat (first|refine blk_drewN ?_ _|refine blk_drew ?_|refine blk_alloc ?_ _));refine blk_put (cs:=#[.string (⟨#[]⟩:ByteArray),.int .i64 0,.float .f64 0,.string (⟨#[]⟩:ByteArray),.int .i64 0,.int .i64 0,.float .f64 0,.string (⟨#[]⟩:ByteArray)]) ?_ 0 _ rfl;(with_reducible repeat (first|refine blk_drewN ?_ _|refine blk_drew ?_|refine blk_alloc ?_ _));exact ah.out⟩
    have n2_:Aside0 (Below w.heap.size w ((((((((w33.setCell ⟨ac,0,none⟩ (.string ((rd_T62 ab aa).f0))).setCell ⟨ac,1,none⟩ (.int .i64 ((rd_T62 ab aa).f1.f0))).setCell ⟨ac,2,none⟩ (.float .f64 ((rd_T62 ab aa).f1.f1))).setCell ⟨ac,3,none⟩ (.string ((rd_T62 ab aa).f1.f2))).setCell ⟨ac,4,none⟩ (.int .i64 ((rd_T62 ab aa).f2))).setCell ⟨ac,5,none⟩ (.int .i64 ((rd_T62 ab aa).f3.f0))).setCell ⟨ac,6,none⟩ (.float .f64 ((rd_T62 ab aa).f3.f1))).setCell ⟨ac,7,none⟩ (.string ((rd_T62 ab aa).f3.f2)))):=bV HB
    (try clear ae)
    (try clear ah)
    (try clear HB)
    generalize ((((((((w33.setCell ⟨ac,0,none⟩ (.string ((rd_T62 ab aa).f0))).setCell ⟨ac,1,none⟩ (.int .i64 ((rd_T62 ab aa).f1.f0))).setCell ⟨ac,2,none⟩ (.float .f64 ((rd_T62 ab aa).f1.f1))).setCell ⟨ac,3,none⟩ (.string ((rd_T62 ab aa).f1.f2))).setCell ⟨ac,4,none⟩ (.int .i64 ((rd_T62 ab aa).f2))).setCell ⟨ac,5,none⟩ (.int .i64 ((rd_T62 ab aa).f3.f0))).setCell ⟨ac,6,none⟩ (.float .f64 ((rd_T62 ab aa).f3.f1))).setCell ⟨ac,7,none⟩ (.string ((rd_T62 ab aa).f3.f2)))=w36 at n0_ n1_ n2_ ⊢
    have ae:=n0_
    have ah:=n1_
    have HB:=n2_
    clear n0_ n1_ n2_
    replace ae:=aK (blk_drew ae.out)
    replace ah:=aK (blk_drew ah.out)
    replace HB:=aK (below_drew1 HB.out)
    refine start_ (n:=24) (S:=fun w'=>w'.cell? ⟨ak,0,none⟩=some (.bool true)∧w'.cell? ⟨ak,1,none⟩=some (.slice (some aj) ab.length aQ)∧w'.cell? ⟨ak,2,none⟩=some (.slice aT af.length aU)∧w'.cell? ⟨ak,3,none⟩=some (.slice aV ai.length aW)∧w'.cell? ⟨ac,0,none⟩=some (.string ((rd_T62 ab aa).f0))∧w'.cell? ⟨ac,1,none⟩=some (.int .i64 ((rd_T62 ab aa).f1.f0))∧w'.cell? ⟨ac,2,none⟩=some (.float .f64 ((rd_T62 ab aa).f1.f1))∧w'.cell? ⟨ac,3,none⟩=some (.string ((rd_T62 ab aa).f1.f2))∧w'.cell? ⟨ac,4,none⟩=some (.int .i64 ((rd_T62 ab aa).f2))∧w'.cell? ⟨ac,5,none⟩=some (.int .i64 ((rd_T62 ab aa).f3.f0))∧w'.cell? ⟨ac,6,none⟩=some (.float .f64 ((rd_T62 ab aa).f3.f1))∧w'.cell? ⟨ac,7,none⟩=some (.string ((rd_T62 ab aa).f3.f2))) (ds:=[]) #[false,false,false,false,false,false,false,false,false,false,false,false,false,false,false,false,false,false,false,false,false,false,false,false] (by kernel_rfl) rfl rfl (bn4 ae (be8 ah)) (fun hHeld=>?_);refine with_tabW node_May.tab4 node_May.bits4 (fun HT_ HW_=>?_)
    generalize w36.drew=w37 at ae ah HB hHeld ⊢
    refine pA 0 17 HT_ ?_
    refine tA 1 18 HT_ HW_ hHeld ?_ (hy:=by rintro w' ⟨s0,s1,s2,s3,s4,s5,s6,s7,s8,s9,s10,s11⟩;go_simp;with_reducible rfl)
    refine pA 2 19 HT_ ?_
    refine pA 3 20 HT_ ?_
    refine tA 4 21 HT_ HW_ hHeld ?_ (hy:=by rintro w' ⟨s0,s1,s2,s3,s4,s5,s6,s7,s8,s9,s10,s11⟩;go_simp;with_reducible rfl)
    refine oA 5 (some 22) HT_ (fun K hK=>?_)
    refine goes_ Try.func33 (by kernel_rfl) rfl #[.agg #[.string ((rd_T62 ab aa).f0),.int .i64 ((rd_T62 ab aa).f1.f0),.float .f64 ((rd_T62 ab aa).f1.f1),.string ((rd_T62 ab aa).f1.f2),.int .i64 ((rd_T62 ab aa).f2),.int .i64 ((rd_T62 ab aa).f3.f0),.float .f64 ((rd_T62 ab aa).f3.f1),.string ((rd_T62 ab aa).f3.f2)]] (by rfl) rfl rfl (by (try simp only [List.map_toArray,List.map_cons,List.map_nil]);first|done|rfl|(simp only [List.length_drop,List.length_take];rfl)) ?_
    with_reducible refine (cell_May.calls k1 ((rd_T62 ab aa).f0) ((rd_T62 ab aa).f1.f0) ((rd_T62 ab aa).f1.f1) ((rd_T62 ab aa).f1.f2) ((rd_T62 ab aa).f2) ((rd_T62 ab aa).f3.f0) ((rd_T62 ab aa).f3.f1) ((rd_T62 ab aa).f3.f2) false _ A8.out).mono ?_
    rintro e w38 ⟨rfl,hb⟩
    refine⟨_,rfl,?_⟩
    replace ae:=bB ae hb
    replace ah:=bB ah hb
    replace HB:=bW HB hb
    (try clear hb)
    (try clear hb2)
    (try clear hk)
    (try clear hi)
    refine hK.out _ _ (bn4 ae (be8 ah)) (fun hHeld=>?_)
    clear hK K
    refine norm_ (a':=?_) ?_ ?_
    rotate_left
    ·show Act.put _ (some 22) _=_
     simp only [Act.put,List.setIfInBounds_toArray,List.set_cons_zero,List.set_cons_succ,i64_w,i32_w]
     rfl
    refine pA 6 23 HT_ ?_
    refine pA 7 24 HT_ ?_
    refine pA 8 25 HT_ ?_
    refine pU 9 26 HT_ ?_
    refine pU 10 27 HT_ ?_
    refine pU 11 28 HT_ ?_
    refine pU 12 29 HT_ ?_
    refine pU 13 30 HT_ ?_
    refine pU 14 31 HT_ ?_
    refine pU 15 32 HT_ ?_
    refine pU 16 33 HT_ ?_
    refine pU 17 34 HT_ ?_
    refine pU 18 35 HT_ ?_
    refine pU 19 36 HT_ ?_
    refine pU 20 37 HT_ ?_
    refine pU 21 38 HT_ ?_
    refine pU 22 39 HT_ ?_
    refine pA 23 40 HT_ ?_
    refine done_ (done_of HT_.out (by kernel_rfl)) ?_
    try go_wp2
    go_ret
    exact xB HB
   subst c9
   have H1:(if aa>0 then (if 0≤(wrap64 (aa - 1)) then (if (wrap64 (aa - 1))<(ab.length:Int) then (if ((Op.bytesLess (((rd_T62 ab (wrap64 (aa - 1))).f0).toList) (((rd_T62 ab aa).f0).toList))=true) then (node_May.l0 k1 ab (ab.length:Int) (wrap64 (aa+1)) true ab af ai) else (some false)) else (none)) else (none)) else (node_May.l0 k1 ab (ab.length:Int) (wrap64 (aa+1)) true ab af ai))=some r:=by rw [if_pos rfl] at H;exact H
   clear H
   have H:=H1
   clear H1
   by_cases c10:aa>0
   rotate_left
   ·rw [if_neg c10] at H
    have es:decide (0<aa)=false:=decide_eq_false c10
    clear c10
    have H':=aK H
    clear H
    have aA:0≤(aa:Int):=dA
    have aC:aa<(ab.length:Int):=dA
    obtain⟨aj,e114,am,ao,ap,aq,ar,au,av,aw⟩:=at_T62 bn.out aa aA aC
    cases e114
    replace am:=cW HB am
    replace ao:=cW HB ao
    replace ap:=cW HB ap
    replace aq:=cW HB aq
    replace ar:=cW HB ar
    replace au:=cW HB au
    replace av:=cW HB av
    replace aw:=cW HB aw
    replace aA:=eq_true aA
    replace aC:=eq_true aC
    try go_wp2_with (first|((with_reducible refine gate_dst (N:=4) rfl ?_);(try (refine gate_guard (by rfl) ?_;dsimp only));refine box_event ?hg (N:=4) ?hd (cs:=#[.string (⟨#[]⟩:ByteArray),.int .i64 0,.float .f64 0,.string (⟨#[]⟩:ByteArray),.int .i64 0,.int .i64 0,.float .f64 0,.string (⟨#[]⟩:ByteArray)]) (t:=62) ?hr ?_;(case hd=>rfl);(case hg=>rfl);(case hr=>first|(go_simp;done)|(go_simp;rfl));intro ac hg w27 hbox hb;have ah:=aK (hbox);have bA:=bZ HB hg;have bw:=bZ HB hg;have ay:=bL ae hg;have az:=bG ae hg;replace ae:=bB ae hb;replace HB:=bW HB hb;clear hb hbox hg;have hnb28:=az.out;have hnc28:=ay.out;obtain⟨eU,eV,eW,eX,eY,eZ,e8,e9,fa,fb,fd,fe,ff,fg,fh,fi⟩:=bf8 (w:=w27) ah))
    have n0_:Aside0 (((((((((w27.setCell ⟨ac,0,none⟩ (.string ((rd_T62 ab aa).f0))).setCell ⟨ac,1,none⟩ (.int .i64 ((rd_T62 ab aa).f1.f0))).setCell ⟨ac,2,none⟩ (.float .f64 ((rd_T62 ab aa).f1.f1))).setCell ⟨ac,3,none⟩ (.string ((rd_T62 ab aa).f1.f2))).setCell ⟨ac,4,none⟩ (.int .i64 ((rd_T62 ab aa).f2))).setCell ⟨ac,5,none⟩ (.int .i64 ((rd_T62 ab aa).f3.f0))).setCell ⟨ac,6,none⟩ (.float .f64 ((rd_T62 ab aa).f3.f1))).setCell ⟨ac,7,none⟩ (.string ((rd_T62 ab aa).f3.f2))).heap[ak]? = some (.cells #[.bool true,.slice (some aj) ab.length aQ,.slice aT af.length aU,.slice aV ai.length aW] 36 (0,0))):=bS ae
    have n1_:Aside0 (((((((((w27.setCell ⟨ac,0,none⟩ (.string ((rd_T62 ab aa).f0))).setCell ⟨ac,1,none⟩ (.int .i64 ((rd_T62 ab aa).f1.f0))).setCell ⟨ac,2,none⟩ (.float .f64 ((rd_T62 ab aa).f1.f1))).setCell ⟨ac,3,none⟩ (.string ((rd_T62 ab aa).f1.f2))).setCell ⟨ac,4,none⟩ (.int .i64 ((rd_T62 ab aa).f2))).setCell ⟨ac,5,none⟩ (.int .i64 ((rd_T62 ab aa).f3.f0))).setCell ⟨ac,6,none⟩ (.float .f64 ((rd_T62 ab aa).f3.f1))).setCell ⟨ac,7,none⟩ (.string ((rd_T62 ab aa).f3.f2))).heap[ac]? = some (.cells #[.string ((rd_T62 ab aa).f0),.int .i64 ((rd_T62 ab aa).f1.f0),.float .f64 ((rd_T62 ab aa).f1.f1),.string ((rd_T62 ab aa).f1.f2),.int .i64 ((rd_T62 ab aa).f2),.int .i64 ((rd_T62 ab aa).f3.f0),.float .f64 ((rd_T62 ab aa).f3.f1),.string ((rd_T62 ab aa).f3.f2)] 62 (0,0))):=⟨by (with_reducible repeat (first|refine blk_drewN ?_ _|refine blk_drew ?_|refine blk_alloc ?_ _));refine blk_put (cs:=#[.string ((rd_T62 ab aa).f0),.int .i64 ((rd_T62 ab aa).f1.f0),.float .f64 ((rd_T62 ab aa).f1.f1),.string ((rd_T62 ab aa).f1.f2),.int .i64 ((rd_T62 ab aa).f2),.int .i64 ((rd_T62 ab aa).f3.f0),.float .f64 ((rd_T62 ab aa).f3.f1),.string (⟨#[]⟩:ByteArray)]) ?_ 7 _ rfl;(with_reducible repeat (first|refine blk_drewN ?_ _|refine blk_drew ?_|refine blk_alloc ?_ _));refine blk_put (cs:=#[.string ((rd_T62 ab aa).f0),.int .i64 ((rd_T62 ab aa).f1.f0),.float .f64 ((rd_T62 ab aa).f1.f1),.string ((rd_T62 ab aa).f1.f2),.int .i64 ((rd_T62 ab aa).f2),.int .i64 ((rd_T62 ab aa).f3.f0),.float .f64 0,.string (⟨#[]⟩:ByteArray)]) ?_ 6 _ rfl;(with_reducible repeat (first|refine blk_drewN ?_ _|refine blk_drew ?_|refine blk_alloc ?_ _));refine blk_put (cs:=#[.string ((rd_T62 ab aa).f0),.int .i64 ((rd_T62 ab aa).f1.f0),.float .f64 ((rd_T62 ab aa).f1.f1),.string ((rd_T62 ab aa).f1.f2),.int .i64 ((rd_T62 ab aa).f2),.int .i64 0,.float .f64 0,.string (⟨#[]⟩:ByteArray)]) ?_ 5 _ rfl;(with_reducible repeat (first|refine blk_drewN ?_ _|refine blk_drew ?_|refine blk_alloc ?_ _));refine blk_put (cs:=#[.string ((rd_T62 ab aa).f0),.int .i64 ((rd_T62 ab aa).f1.f0),.float .f64 ((rd_T62 ab aa).f1.f1),.string ((rd_T62 ab aa).f1.f2),.int .i64 0,.int .i64 0,.float .f64 0,.string (⟨#[]⟩:ByteArray)]) ?_ 4 _ rfl;(with_reducible repeat (first|refine blk_drewN ?_ _|refine blk_drew ?_|refine blk_alloc ?_ _));refine blk_put (cs:=#[.string ((rd_T62 ab aa).f0),.int .i64 ((rd_T62 ab aa).f1.f0),.float .f64 ((rd_T62 ab aa).f1.f1),.string (⟨#[]⟩:ByteArray),.int .i64 0,.int .i64 0,.float .f64 0,.string (⟨#[]⟩:ByteArray)]) ?_ 3 _ rfl;(with_reducible repeat (first|refine blk_drewN ?_ _|refine blk_drew ?_|refine blk_alloc ?_ _));refine blk_put (cs:=#[.string ((rd_T62 ab aa).f0),.int .i64 ((rd_T62 ab aa).f1.f0),.float .f64 0,.string (⟨#[]⟩:ByteArray),.int .i64 0,.int .i64 0,.float .f64 0,.string (⟨#[]⟩:ByteArray)]) ?_ 2 _ rfl;(with_reducible repeat (first|refine blk_drewN ?_ _|refine blk_drew ?_|refine blk_alloc ?_ _));refine blk_put (cs:=#[.string ((rd_T62 ab aa).f0),.int .i64 0,.float .f64 0,.string (⟨#[]⟩:ByteArray),.int .i64 0,.int .i64 0,.float .f64 0,.string (⟨#[]⟩:ByteArray)]) ?_ 1 _ rfl;(with_reducible repeat (first|refine blk_drewN ?_ _|refine blk_drew ?_|refine blk_alloc ?_ _));refine blk_put (cs:=#[.string (⟨#[]⟩:ByteArray),.int .i64 0,.float .f64 0,.string (⟨#[]⟩:ByteArray),.int .i64 0,.int .i64 0,.float .f64 0,.string (⟨#[]⟩:ByteArray)]) ?_ 0 _ rfl;(with_reducible repeat (first|refine blk_drewN ?_ _|refine blk_drew ?_|refine blk_alloc ?_ _));exact ah.out⟩
    have n2_:Aside0 (Below w.heap.size w ((((((((w27.setCell ⟨ac,0,none⟩ (.string ((rd_T62 ab aa).f0))).setCell ⟨ac,1,none⟩ (.int .i64 ((rd_T62 ab aa).f1.f0))).setCell ⟨ac,2,none⟩ (.float .f64 ((rd_T62 ab aa).f1.f1))).setCell ⟨ac,3,none⟩ (.string ((rd_T62 ab aa).f1.f2))).setCell ⟨ac,4,none⟩ (.int .i64 ((rd_T62 ab aa).f2))).setCell ⟨ac,5,none⟩ (.int .i64 ((rd_T62 ab aa).f3.f0))).setCell ⟨ac,6,none⟩ (.float .f64 ((rd_T62 ab aa).f3.f1))).setCell ⟨ac,7,none⟩ (.string ((rd_T62 ab aa).f3.f2)))):=bV HB
    (try clear ae)
    (try clear ah)
    (try clear HB)
    generalize ((((((((w27.setCell ⟨ac,0,none⟩ (.string ((rd_T62 ab aa).f0))).setCell ⟨ac,1,none⟩ (.int .i64 ((rd_T62 ab aa).f1.f0))).setCell ⟨ac,2,none⟩ (.float .f64 ((rd_T62 ab aa).f1.f1))).setCell ⟨ac,3,none⟩ (.string ((rd_T62 ab aa).f1.f2))).setCell ⟨ac,4,none⟩ (.int .i64 ((rd_T62 ab aa).f2))).setCell ⟨ac,5,none⟩ (.int .i64 ((rd_T62 ab aa).f3.f0))).setCell ⟨ac,6,none⟩ (.float .f64 ((rd_T62 ab aa).f3.f1))).setCell ⟨ac,7,none⟩ (.string ((rd_T62 ab aa).f3.f2)))=w30 at n0_ n1_ n2_ ⊢
    have ae:=n0_
    have ah:=n1_
    have HB:=n2_
    clear n0_ n1_ n2_
    replace ae:=aK (blk_drew ae.out)
    replace ah:=aK (blk_drew ah.out)
    replace HB:=aK (below_drew1 HB.out)
    refine start_ (n:=24) (S:=fun w'=>w'.cell? ⟨ak,0,none⟩=some (.bool true)∧w'.cell? ⟨ak,1,none⟩=some (.slice (some aj) ab.length aQ)∧w'.cell? ⟨ak,2,none⟩=some (.slice aT af.length aU)∧w'.cell? ⟨ak,3,none⟩=some (.slice aV ai.length aW)∧w'.cell? ⟨ac,0,none⟩=some (.string ((rd_T62 ab aa).f0))∧w'.cell? ⟨ac,1,none⟩=some (.int .i64 ((rd_T62 ab aa).f1.f0))∧w'.cell? ⟨ac,2,none⟩=some (.float .f64 ((rd_T62 ab aa).f1.f1))∧w'.cell? ⟨ac,3,none⟩=some (.string ((rd_T62 ab aa).f1.f2))∧w'.cell? ⟨ac,4,none⟩=some (.int .i64 ((rd_T62 ab aa).f2))∧w'.cell? ⟨ac,5,none⟩=some (.int .i64 ((rd_T62 ab aa).f3.f0))∧w'.cell? ⟨ac,6,none⟩=some (.float .f64 ((rd_T62 ab aa).f3.f1))∧w'.cell? ⟨ac,7,none⟩=some (.string ((rd_T62 ab aa).f3.f2))) (ds:=[]) #[false,false,false,false,false,false,false,false,false,false,false,false,false,false,false,false,false,false,false,false,false,false,false,false] (by kernel_rfl) rfl rfl (bn4 ae (be8 ah)) (fun hHeld=>?_);refine with_tabW node_May.tab4 node_May.bits4 (fun HT_ HW_=>?_)
    generalize w30.drew=w31 at ae ah HB hHeld ⊢
    refine pA 0 17 HT_ ?_
    refine tA 1 18 HT_ HW_ hHeld ?_ (hy:=by rintro w' ⟨s0,s1,s2,s3,s4,s5,s6,s7,s8,s9,s10,s11⟩;go_simp;with_reducible rfl)
    refine pA 2 19 HT_ ?_
    refine pA 3 20 HT_ ?_
    refine tA 4 21 HT_ HW_ hHeld ?_ (hy:=by rintro w' ⟨s0,s1,s2,s3,s4,s5,s6,s7,s8,s9,s10,s11⟩;go_simp;with_reducible rfl)
    refine oA 5 (some 22) HT_ (fun K hK=>?_)
    refine goes_ Try.func33 (by kernel_rfl) rfl #[.agg #[.string ((rd_T62 ab aa).f0),.int .i64 ((rd_T62 ab aa).f1.f0),.float .f64 ((rd_T62 ab aa).f1.f1),.string ((rd_T62 ab aa).f1.f2),.int .i64 ((rd_T62 ab aa).f2),.int .i64 ((rd_T62 ab aa).f3.f0),.float .f64 ((rd_T62 ab aa).f3.f1),.string ((rd_T62 ab aa).f3.f2)]] (by rfl) rfl rfl (by (try simp only [List.map_toArray,List.map_cons,List.map_nil]);first|done|rfl|(simp only [List.length_drop,List.length_take];rfl)) ?_
    with_reducible refine (cell_May.calls k1 ((rd_T62 ab aa).f0) ((rd_T62 ab aa).f1.f0) ((rd_T62 ab aa).f1.f1) ((rd_T62 ab aa).f1.f2) ((rd_T62 ab aa).f2) ((rd_T62 ab aa).f3.f0) ((rd_T62 ab aa).f3.f1) ((rd_T62 ab aa).f3.f2) true _ A8.out).mono ?_
    rintro e w32 ⟨rfl,hb⟩
    refine⟨_,rfl,?_⟩
    replace ae:=bB ae hb
    replace ah:=bB ah hb
    replace HB:=bW HB hb
    (try clear hb)
    (try clear hb2)
    (try clear hk)
    (try clear hi)
    refine hK.out _ _ (bn4 ae (be8 ah)) (fun hHeld=>?_)
    clear hK K
    refine norm_ (a':=?_) ?_ ?_
    rotate_left
    ·show Act.put _ (some 22) _=_
     simp only [Act.put,List.setIfInBounds_toArray,List.set_cons_zero,List.set_cons_succ,i64_w,i32_w]
     rfl
    refine pA 6 23 HT_ ?_
    refine pA 7 24 HT_ ?_
    refine pA 8 25 HT_ ?_
    refine pA 9 26 HT_ ?_
    refine pA 10 27 HT_ ?_
    refine pA 11 28 HT_ ?_
    refine pU 12 29 HT_ ?_
    refine pU 13 30 HT_ ?_
    refine pU 14 31 HT_ ?_
    refine pU 15 32 HT_ ?_
    refine pU 16 33 HT_ ?_
    refine pU 17 34 HT_ ?_
    refine pU 18 35 HT_ ?_
    refine pU 19 36 HT_ ?_
    refine pU 20 37 HT_ ?_
    refine pU 21 38 HT_ ?_
    refine pA 22 39 HT_ ?_
    refine pA 23 40 HT_ ?_
    refine done_ (done_of HT_.out (by kernel_rfl)) ?_
    try go_wp2
    go_roundg k1
    case measure=>have:=HK1.out;omega
    case rel=>exact⟨(wrap64 (aa+1)),(by first|rfl|(simp;done)|(simp [*];done)),H',⟨by have:=HK1.out;omega⟩,bK ae,bV HB⟩
   rw [if_pos c10] at H
   have es:decide (0<aa)=true:=decide_eq_true c10
   clear c10
   obtain⟨ji11,hji11⟩:∃ j_:Int,(wrap64 (aa - 1))=j_:=⟨_,rfl⟩
   replace H:(if 0≤(ji11) then (if (ji11)<(ab.length:Int) then (if ((Op.bytesLess (((rd_T62 ab (ji11)).f0).toList) (((rd_T62 ab aa).f0).toList))=true) then (node_May.l0 k1 ab (ab.length:Int) (wrap64 (aa+1)) true ab af ai) else (some false)) else (none)) else (none))=some r:=by first|(rw [hji11] at H;exact H)|(simp only [hji11] at H ⊢;exact H)
   (try rw [hji11] at A8)
   have hji11w:(IntKind.i64.wrap (aa - 1))=ji11:=(i64_w _).trans hji11
   by_cases c12:0≤(ji11)
   rotate_left
   ·rw [if_neg c12] at H
    exact absurd H (by simp)
   rw [if_pos c12] at H
   have f5:decide (0≤(ji11))=true:=decide_eq_true c12
   clear c12
   by_cases c13:(ji11)<(ab.length:Int)
   rotate_left
   ·rw [if_neg c13] at H
    exact absurd H (by simp)
   rw [if_pos c13] at H
   have f6:decide ((ji11)<(ab.length:Int))=true:=decide_eq_true c13
   clear c13
   by_cases c14:((Op.bytesLess (((rd_T62 ab (ji11)).f0).toList) (((rd_T62 ab aa).f0).toList))=true)
   ·rw [if_pos c14] at H
    have et:(Op.bytesLess (((rd_T62 ab (ji11)).f0).toList) (((rd_T62 ab aa).f0).toList))=true:=c14
    clear c14
    have H':=aK H
    clear H
    have aA:0≤(aa:Int):=dA
    have aC:aa<(ab.length:Int):=dA
    obtain⟨aj,e114,am,ao,ap,aq,ar,au,av,aw⟩:=at_T62 bn.out aa aA aC
    cases e114
    replace am:=cW HB am
    replace ao:=cW HB ao
    replace ap:=cW HB ap
    replace aq:=cW HB aq
    replace ar:=cW HB ar
    replace au:=cW HB au
    replace av:=cW HB av
    replace aw:=cW HB aw
    replace aA:=eq_true aA
    replace aC:=eq_true aC
    try go_wp2_with (first|((with_reducible refine gate_dst (N:=4) rfl ?_);(try (refine gate_guard (by rfl) ?_;dsimp only));refine box_event ?hg (N:=4) ?hd (cs:=#[.string (⟨#[]⟩:ByteArray),.int .i64 0,.float .f64 0,.string (⟨#[]⟩:ByteArray),.int .i64 0,.int .i64 0,.float .f64 0,.string (⟨#[]⟩:ByteArray)]) (t:=62) ?hr ?_;(case hd=>rfl);(case hg=>rfl);(case hr=>first|(go_simp;done)|(go_simp;rfl));intro ac hg w15 hbox hb;have ah:=aK (hbox);have bA:=bZ HB hg;have bw:=bZ HB hg;have ay:=bL ae hg;have az:=bG ae hg;replace ae:=bB ae hb;replace HB:=bW HB hb;clear hb hbox hg;have hnb16:=az.out;have hnc16:=ay.out;obtain⟨fj,fk,fl,fm,fp,fq,ft,fu,fv,fw,fz,fA,fB,fC,fD,fE⟩:=bf8 (w:=w15) ah))
    have n0_:Aside0 (((((((((w15.setCell ⟨ac,0,none⟩ (.string ((rd_T62 ab aa).f0))).setCell ⟨ac,1,none⟩ (.int .i64 ((rd_T62 ab aa).f1.f0))).setCell ⟨ac,2,none⟩ (.float .f64 ((rd_T62 ab aa).f1.f1))).setCell ⟨ac,3,none⟩ (.string ((rd_T62 ab aa).f1.f2))).setCell ⟨ac,4,none⟩ (.int .i64 ((rd_T62 ab aa).f2))).setCell ⟨ac,5,none⟩ (.int .i64 ((rd_T62 ab aa).f3.f0))).setCell ⟨ac,6,none⟩ (.float .f64 ((rd_T62 ab aa).f3.f1))).setCell ⟨ac,7,none⟩ (.string ((rd_T62 ab aa).f3.f2))).heap[ak]? = some (.cells #[.bool true,.slice (some aj) ab.length aQ,.slice aT af.length aU,.slice aV ai.length aW] 36 (0,0))):=bS ae
    have n1_:Aside0 (((((((((w15.setCell ⟨ac,0,none⟩ (.string ((rd_T62 ab aa).f0))).setCell ⟨ac,1,none⟩ (.int .i64 ((rd_T62 ab aa).f1.f0))).setCell ⟨ac,2,none⟩ (.float .f64 ((rd_T62 ab aa).f1.f1))).setCell ⟨ac,3,none⟩ (.string ((rd_T62 ab aa).f1.f2))).setCell ⟨ac,4,none⟩ (.int .i64 ((rd_T62 ab aa).f2))).setCell ⟨ac,5,none⟩ (.int .i64 ((rd_T62 ab aa).f3.f0))).setCell ⟨ac,6,none⟩ (.float .f64 ((rd_T62 ab aa).f3.f1))).setCell ⟨ac,7,none⟩ (.string ((rd_T62 ab aa).f3.f2))).heap[ac]? = some (.cells #[.string ((rd_T62 ab aa).f0),.int .i64 ((rd_T62 ab aa).f1.f0),.float .f64 ((rd_T62 ab aa).f1.f1),.string ((rd_T62 ab aa).f1.f2),.int .i64 ((rd_T62 ab aa).f2),.int .i64 ((rd_T62 ab aa).f3.f0),.float .f64 ((rd_T62 ab aa).f3.f1),.string ((rd_T62 ab aa).f3.f2)] 62 (0,0))):=⟨by (with_reducible repeat (first|refine blk_drewN ?_ _|refine blk_drew ?_|refine blk_alloc ?_ _));refine blk_put (cs:=#[.string ((rd_T62 ab aa).f0),.int .i64 ((rd_T62 ab aa).f1.f0),.float .f64 ((rd_T62 ab aa).f1.f1),.string ((rd_T62 ab aa).f1.f2),.int .i64 ((rd_T62 ab aa).f2),.int .i64 ((rd_T62 ab aa).f3.f0),.float .f64 ((rd_T62 ab aa).f3.f1),.string (⟨#[]⟩:ByteArray)]) ?_ 7 _ rfl;(with_reducible repeat (first|refine blk_drewN ?_ _|refine blk_drew ?_|refine blk_alloc ?_ _));refine blk_put (cs:=#[.string ((rd_T62 ab aa).f0),.int .i64 ((rd_T62 ab aa).f1.f0),.float .f64 ((rd_T62 ab aa).f1.f1),.string ((rd_T62 ab aa).f1.f2),.int .i64 ((rd_T62 ab aa).f2),.int .i64 ((rd_T62 ab aa).f3.f0),.float .f64 0,.string (⟨#[]⟩:ByteArray)]) ?_ 6 _ rfl;(with_reducible repeat (first|refine blk_drewN ?_ _|refine blk_drew ?_|refine blk_alloc ?_ _));refine blk_put (cs:=#[.string ((rd_T62 ab aa).f0),.int .i64 ((rd_T62 ab aa).f1.f0),.float .f64 ((rd_T62 ab aa).f1.f1),.string ((rd_T62 ab aa).f1.f2),.int .i64 ((rd_T62 ab aa).f2),.int .i64 0,.float .f64 0,.string (⟨#[]⟩:ByteArray)]) ?_ 5 _ rfl;(with_reducible repeat (first|refine blk_drewN ?_ _|refine blk_drew ?_|refine blk_alloc ?_ _));refine blk_put (cs:=#[.string ((rd_T62 ab aa).f0),.int .i64 ((rd_T62 ab aa).f1.f0),.float .f64 ((rd_T62 ab aa).f1.f1),.string ((rd_T62 ab aa).f1.f2),.int .i64 0,.int .i64 0,.float .f64 0,.string (⟨#[]⟩:ByteArray)]) ?_ 4 _ rfl;(with_reducible repeat (first|refine blk_drewN ?_ _|refine blk_drew ?_|refine blk_alloc ?_ _));refine blk_put (cs:=#[.string ((rd_T62 ab aa).f0),.int .i64 ((rd_T62 ab aa).f1.f0),.float .f64 ((rd_T62 ab aa).f1.f1),.string (⟨#[]⟩:ByteArray),.int .i64 0,.int .i64 0,.float .f64 0,.string (⟨#[]⟩:ByteArray)]) ?_ 3 _ rfl;(with_reducible repeat (first|refine blk_drewN ?_ _|refine blk_drew ?_|refine blk_alloc ?_ _));refine blk_put (cs:=#[.string ((rd_T62 ab aa).f0),.int .i64 ((rd_T62 ab aa).f1.f0),.float .f64 0,.string (⟨#[]⟩:ByteArray),.int .i64 0,.int .i64 0,.float .f64 0,.string (⟨#[]⟩:ByteArray)]) ?_ 2 _ rfl;(with_reducible repeat (first|refine blk_drewN ?_ _|refine blk_drew ?_|refine blk_alloc ?_ _));refine blk_put (cs:=#[.string ((rd_T62 ab aa).f0),.int .i64 0,.float .f64 0,.string (⟨#[]⟩:ByteArray),.int .i64 0,.int .i64 0,.float .f64 0,.string (⟨#[]⟩:ByteArray)]) ?_ 1 _ rfl;(with_reducible repeat (first|refine blk_drewN ?_ _|refine blk_drew ?_|refine blk_alloc ?_ _));refine blk_put (cs:=#[.string (⟨#[]⟩:ByteArray),.int .i64 0,.float .f64 0,.string (⟨#[]⟩:ByteArray),.int .i64 0,.int .i64 0,.float .f64 0,.string (⟨#[]⟩:ByteArray)]) ?_ 0 _ rfl;(with_reducible repeat (first|refine blk_drewN ?_ _|refine blk_drew ?_|refine blk_alloc ?_ _));exact ah.out⟩
    have n2_:Aside0 (Below w.heap.size w ((((((((w15.setCell ⟨ac,0,none⟩ (.string ((rd_T62 ab aa).f0))).setCell ⟨ac,1,none⟩ (.int .i64 ((rd_T62 ab aa).f1.f0))).setCell ⟨ac,2,none⟩ (.float .f64 ((rd_T62 ab aa).f1.f1))).setCell ⟨ac,3,none⟩ (.string ((rd_T62 ab aa).f1.f2))).setCell ⟨ac,4,none⟩ (.int .i64 ((rd_T62 ab aa).f2))).setCell ⟨ac,5,none⟩ (.int .i64 ((rd_T62 ab aa).f3.f0))).setCell ⟨ac,6,none⟩ (.float .f64 ((rd_T62 ab aa).f3.f1))).setCell ⟨ac,7,none⟩ (.string ((rd_T62 ab aa).f3.f2)))):=bV HB
    (try clear ae)
    (try clear ah)
    (try clear HB)
    generalize ((((((((w15.setCell ⟨ac,0,none⟩ (.string ((rd_T62 ab aa).f0))).setCell ⟨ac,1,none⟩ (.int .i64 ((rd_T62 ab aa).f1.f0))).setCell ⟨ac,2,none⟩ (.float .f64 ((rd_T62 ab aa).f1.f1))).setCell ⟨ac,3,none⟩ (.string ((rd_T62 ab aa).f1.f2))).setCell ⟨ac,4,none⟩ (.int .i64 ((rd_T62 ab aa).f2))).setCell ⟨ac,5,none⟩ (.int .i64 ((rd_T62 ab aa).f3.f0))).setCell ⟨ac,6,none⟩ (.float .f64 ((rd_T62 ab aa).f3.f1))).setCell ⟨ac,7,none⟩ (.string ((rd_T62 ab aa).f3.f2)))=w18 at n0_ n1_ n2_ ⊢
    have ae:=n0_
    have ah:=n1_
    have HB:=n2_
    clear n0_ n1_ n2_
    replace ae:=aK (blk_drew ae.out)
    replace ah:=aK (blk_drew ah.out)
    replace HB:=aK (below_drew1 HB.out)
    have bs:0≤((ji11):Int):=dA
    have bu:(ji11)<(ab.length:Int):=dA
    obtain⟨dh,e117,aD,aE,aG,aH,aI,aJ,aM,aN⟩:=at_T62 bn.out (ji11) bs bu
    have bf:=aN
    have bg:=aM
    have bh:=aJ
    have bi:=aI
    have bj:=aH
    have bk:=aG
    have bl:=aE
    have bm:=aD
    obtain rfl:aj=dh:=(by injection e117)
    replace aD:=cW HB aD
    replace aE:=cW HB aE
    replace aG:=cW HB aG
    replace aH:=cW HB aH
    replace aI:=cW HB aI
    replace aJ:=cW HB aJ
    replace aM:=cW HB aM
    replace aN:=cW HB aN
    replace bs:=eq_true bs
    replace bu:=eq_true bu
    refine start_ (n:=24) (S:=fun w'=>w'.cell? ⟨ak,0,none⟩=some (.bool true)∧w'.cell? ⟨ak,1,none⟩=some (.slice (some aj) ab.length aQ)∧w'.cell? ⟨ak,2,none⟩=some (.slice aT af.length aU)∧w'.cell? ⟨ak,3,none⟩=some (.slice aV ai.length aW)∧w'.cell? ⟨ac,0,none⟩=some (.string ((rd_T62 ab aa).f0))∧w'.cell? ⟨ac,1,none⟩=some (.int .i64 ((rd_T62 ab aa).f1.f0))∧w'.cell? ⟨ac,2,none⟩=some (.float .f64 ((rd_T62 ab aa).f1.f1))∧w'.cell? ⟨ac,3,none⟩=some (.string ((rd_T62 ab aa).f1.f2))∧w'.cell? ⟨ac,4,none⟩=some (.int .i64 ((rd_T62 ab aa).f2))∧w'.cell? ⟨ac,5,none⟩=some (.int .i64 ((rd_T62 ab aa).f3.f0))∧w'.cell? ⟨ac,6,none⟩=some (.float .f64 ((rd_T62 ab aa).f3.f1))∧w'.cell? ⟨ac,7,none⟩=some (.string ((rd_T62 ab aa).f3.f2))∧w'.cell? (aj.add (((ji11)).toNat * 8))=some (.string ((rd_T62 ab (ji11)).f0))∧w'.cell? ⟨(aj.add (((ji11)).toNat * 8)).block,(aj.add (((ji11)).toNat * 8)).off+1,none⟩=some (.int .i64 ((rd_T62 ab (ji11)).f1.f0))∧w'.cell? ⟨(aj.add (((ji11)).toNat * 8)).block,(aj.add (((ji11)).toNat * 8)).off+2,none⟩=some (.float .f64 ((rd_T62 ab (ji11)).f1.f1))∧w'.cell? ⟨(aj.add (((ji11)).toNat * 8)).block,(aj.add (((ji11)).toNat * 8)).off+3,none⟩=some (.string ((rd_T62 ab (ji11)).f1.f2))∧w'.cell? ⟨(aj.add (((ji11)).toNat * 8)).block,(aj.add (((ji11)).toNat * 8)).off+4,none⟩=some (.int .i64 ((rd_T62 ab (ji11)).f2))∧w'.cell? ⟨(aj.add (((ji11)).toNat * 8)).block,(aj.add (((ji11)).toNat * 8)).off+5,none⟩=some (.int .i64 ((rd_T62 ab (ji11)).f3.f0))∧w'.cell? ⟨(aj.add (((ji11)).toNat * 8)).block,(aj.add (((ji11)).toNat * 8)).off+6,none⟩=some (.float .f64 ((rd_T62 ab (ji11)).f3.f1))∧w'.cell? ⟨(aj.add (((ji11)).toNat * 8)).block,(aj.add (((ji11)).toNat * 8)).off+7,none⟩=some (.string ((rd_T62 ab (ji11)).f3.f2))) (ds:=[]) #[false,false,false,false,false,false,false,false,false,false,false,false,false,false,false,false,false,false,false,false,false,false,false,false] (by kernel_rfl) rfl rfl (bn4 ae (bn8 ah ⟨(cW HB bm),(cW HB bl),(cW HB bk),(cW HB bj),(cW HB bi),(cW HB bh),(cW HB bg),(cW HB bf)⟩)) (fun hHeld=>?_);refine with_tabW node_May.tab4 node_May.bits4 (fun HT_ HW_=>?_)
    generalize w18.drew=w19 at ae ah HB aD aE aG aH aI aJ aM aN hHeld ⊢
    refine pA 0 17 HT_ ?_
    refine tA 1 18 HT_ HW_ hHeld ?_ (hy:=by rintro w' ⟨s0,s1,s2,s3,s4,s5,s6,s7,s8,s9,s10,s11,s12,s13,s14,s15,s16,s17,s18,s19⟩;go_simp;with_reducible rfl)
    refine pA 2 19 HT_ ?_
    refine pA 3 20 HT_ ?_
    refine tA 4 21 HT_ HW_ hHeld ?_ (hy:=by rintro w' ⟨s0,s1,s2,s3,s4,s5,s6,s7,s8,s9,s10,s11,s12,s13,s14,s15,s16,s17,s18,s19⟩;go_simp;with_reducible rfl)
    refine oA 5 (some 22) HT_ (fun K hK=>?_)
    refine goes_ Try.func33 (by kernel_rfl) rfl #[.agg #[.string ((rd_T62 ab aa).f0),.int .i64 ((rd_T62 ab aa).f1.f0),.float .f64 ((rd_T62 ab aa).f1.f1),.string ((rd_T62 ab aa).f1.f2),.int .i64 ((rd_T62 ab aa).f2),.int .i64 ((rd_T62 ab aa).f3.f0),.float .f64 ((rd_T62 ab aa).f3.f1),.string ((rd_T62 ab aa).f3.f2)]] (by rfl) rfl rfl (by (try simp only [List.map_toArray,List.map_cons,List.map_nil]);first|done|rfl|(simp only [List.length_drop,List.length_take];rfl)) ?_
    with_reducible refine (cell_May.calls k1 ((rd_T62 ab aa).f0) ((rd_T62 ab aa).f1.f0) ((rd_T62 ab aa).f1.f1) ((rd_T62 ab aa).f1.f2) ((rd_T62 ab aa).f2) ((rd_T62 ab aa).f3.f0) ((rd_T62 ab aa).f3.f1) ((rd_T62 ab aa).f3.f2) true _ A8.out).mono ?_
    rintro e w20 ⟨rfl,hb⟩
    refine⟨_,rfl,?_⟩
    replace ae:=bB ae hb
    replace ah:=bB ah hb
    replace HB:=bW HB hb
    (try clear hb)
    (try clear hb2)
    (try clear hk)
    (try clear hi)
    refine hK.out _ _ (bn4 ae (bn8 ah ⟨(cW HB bm),(cW HB bl),(cW HB bk),(cW HB bj),(cW HB bi),(cW HB bh),(cW HB bg),(cW HB bf)⟩)) (fun hHeld=>?_)
    clear hK K
    refine norm_ (a':=?_) ?_ ?_
    rotate_left
    ·show Act.put _ (some 22) _=_
     simp only [Act.put,List.setIfInBounds_toArray,List.set_cons_zero,List.set_cons_succ,i64_w,i32_w]
     rfl
    refine pA 6 23 HT_ ?_
    refine pA 7 24 HT_ ?_
    refine pA 8 25 HT_ ?_
    refine pA 9 26 HT_ ?_
    refine pA 10 27 HT_ ?_
    refine pA 11 28 HT_ ?_
    refine pA 12 29 HT_ ?_
    refine pA 14 31 HT_ ?_
    refine pA 15 32 HT_ ?_
    refine pA 19 36 HT_ ?_
    refine tA 13 30 HT_ HW_ hHeld ?_ (hy:=by rintro w' ⟨s0,s1,s2,s3,s4,s5,s6,s7,s8,s9,s10,s11,s12,s13,s14,s15,s16,s17,s18,s19⟩;go_simp;with_reducible rfl)
    refine pA 16 33 HT_ ?_
    refine pA 17 34 HT_ ?_
    refine tA 18 35 HT_ HW_ hHeld ?_ (hy:=by rintro w' ⟨s0,s1,s2,s3,s4,s5,s6,s7,s8,s9,s10,s11,s12,s13,s14,s15,s16,s17,s18,s19⟩;go_simp;with_reducible rfl)
    refine tA 20 37 HT_ HW_ hHeld ?_ (hy:=by rintro w' ⟨s0,s1,s2,s3,s4,s5,s6,s7,s8,s9,s10,s11,s12,s13,s14,s15,s16,s17,s18,s19⟩;go_simp;with_reducible rfl)
    refine pA 21 38 HT_ ?_
    refine pA 22 39 HT_ ?_
    refine pA 23 40 HT_ ?_
    refine done_ (done_of HT_.out (by kernel_rfl)) ?_
    try go_wp2
    go_roundg k1
    case measure=>have:=HK1.out;omega
    case rel=>exact⟨(wrap64 (aa+1)),(by first|rfl|(simp;done)|(simp [*];done)),H',⟨by have:=HK1.out;omega⟩,bK ae,bV HB⟩
   rw [if_neg c14] at H
   have et:(Op.bytesLess (((rd_T62 ab (ji11)).f0).toList) (((rd_T62 ab aa).f0).toList))=false:=by simpa using c14
   clear c14
   obtain rfl:=Option.some.inj H
   have aA:0≤(aa:Int):=dA
   have aC:aa<(ab.length:Int):=dA
   obtain⟨aj,e114,am,ao,ap,aq,ar,au,av,aw⟩:=at_T62 bn.out aa aA aC
   cases e114
   replace am:=cW HB am
   replace ao:=cW HB ao
   replace ap:=cW HB ap
   replace aq:=cW HB aq
   replace ar:=cW HB ar
   replace au:=cW HB au
   replace av:=cW HB av
   replace aw:=cW HB aw
   replace aA:=eq_true aA
   replace aC:=eq_true aC
   try go_wp2_with (first|((with_reducible refine gate_dst (N:=4) rfl ?_);(try (refine gate_guard (by rfl) ?_;dsimp only));refine box_event ?hg (N:=4) ?hd (cs:=#[.string (⟨#[]⟩:ByteArray),.int .i64 0,.float .f64 0,.string (⟨#[]⟩:ByteArray),.int .i64 0,.int .i64 0,.float .f64 0,.string (⟨#[]⟩:ByteArray)]) (t:=62) ?hr ?_;(case hd=>rfl);(case hg=>rfl);(case hr=>first|(go_simp;done)|(go_simp;rfl));intro ac hg w21 hbox hb;have ah:=aK (hbox);have bA:=bZ HB hg;have bw:=bZ HB hg;have ay:=bL ae hg;have az:=bG ae hg;replace ae:=bB ae hb;replace HB:=bW HB hb;clear hb hbox hg;have hnb22:=az.out;have hnc22:=ay.out;obtain⟨fF,fG,fH,fI,fJ,fK,fL,fM,fN,fO,fP,fQ,fR,fS,fT,fU⟩:=bf8 (w:=w21) ah))
   have n0_:Aside0 (((((((((w21.setCell ⟨ac,0,none⟩ (.string ((rd_T62 ab aa).f0))).setCell ⟨ac,1,none⟩ (.int .i64 ((rd_T62 ab aa).f1.f0))).setCell ⟨ac,2,none⟩ (.float .f64 ((rd_T62 ab aa).f1.f1))).setCell ⟨ac,3,none⟩ (.string ((rd_T62 ab aa).f1.f2))).setCell ⟨ac,4,none⟩ (.int .i64 ((rd_T62 ab aa).f2))).setCell ⟨ac,5,none⟩ (.int .i64 ((rd_T62 ab aa).f3.f0))).setCell ⟨ac,6,none⟩ (.float .f64 ((rd_T62 ab aa).f3.f1))).setCell ⟨ac,7,none⟩ (.string ((rd_T62 ab aa).f3.f2))).heap[ak]? = some (.cells #[.bool true,.slice (some aj) ab.length aQ,.slice aT af.length aU,.slice aV ai.length aW] 36 (0,0))):=bS ae
   have n1_:Aside0 (((((((((w21.setCell ⟨ac,0,none⟩ (.string ((rd_T62 ab aa).f0))).setCell ⟨ac,1,none⟩ (.int .i64 ((rd_T62 ab aa).f1.f0))).setCell ⟨ac,2,none⟩ (.float .f64 ((rd_T62 ab aa).f1.f1))).setCell ⟨ac,3,none⟩ (.string ((rd_T62 ab aa).f1.f2))).setCell ⟨ac,4,none⟩ (.int .i64 ((rd_T62 ab aa).f2))).setCell ⟨ac,5,none⟩ (.int .i64 ((rd_T62 ab aa).f3.f0))).setCell ⟨ac,6,none⟩ (.float .f64 ((rd_T62 ab aa).f3.f1))).setCell ⟨ac,7,none⟩ (.string ((rd_T62 ab aa).f3.f2))).heap[ac]? = some (.cells #[.string ((rd_T62 ab aa).f0),.int .i64 ((rd_T62 ab aa).f1.f0),.float .f64 ((rd_T62 ab aa).f1.f1),.string ((rd_T62 ab aa).f1.f2),.int .i64 ((rd_T62 ab aa).f2),.int .i64 ((rd_T62 ab aa).f3.f0),.float .f64 ((rd_T62 ab aa).f3.f1),.string ((rd_T62 ab aa).f3.f2)] 62 (0,0))):=⟨by (with_reducible repeat (first|refine blk_drewN ?_ _|refine blk_drew ?_|refine blk_alloc ?_ _));refine blk_put (cs:=#[.string ((rd_T62 ab aa).f0),.int .i64 ((rd_T62 ab aa).f1.f0),.float .f64 ((rd_T62 ab aa).f1.f1),.string ((rd_T62 ab aa).f1.f2),.int .i64 ((rd_T62 ab aa).f2),.int .i64 ((rd_T62 ab aa).f3.f0),.float .f64 ((rd_T62 ab aa).f3.f1),.string (⟨#[]⟩:ByteArray)]) ?_ 7 _ rfl;(with_reducible repeat (first|refine blk_drewN ?_ _|refine blk_drew ?_|refine blk_alloc ?_ _));refine blk_put (cs:=#[.string ((rd_T62 ab aa).f0),.int .i64 ((rd_T62 ab aa).f1.f0),.float .f64 ((rd_T62 ab aa).f1.f1),.string ((rd_T62 ab aa).f1.f2),.int .i64 ((rd_T62 ab aa).f2),.int .i64 ((rd_T62 ab aa).f3.f0),.float .f64 0,.string (⟨#[]⟩:ByteArray)]) ?_ 6 _ rfl;(with_reducible repeat (first|refine blk_drewN ?_ _|refine blk_drew ?_|refine blk_alloc ?_ _));refine blk_put (cs:=#[.string ((rd_T62 ab aa).f0),.int .i64 ((rd_T62 ab aa).f1.f0),.float .f64 ((rd_T62 ab aa).f1.f1),.string ((rd_T62 ab aa).f1.f2),.int .i64 ((rd_T62 ab aa).f2),.int .i64 0,.float .f64 0,.string (⟨#[]⟩:ByteArray)]) ?_ 5 _ rfl;(with_reducible repeat (first|refine blk_drewN ?_ _|refine blk_drew ?_|refine blk_alloc ?_ _));refine blk_put (cs:=#[.string ((rd_T62 ab aa).f0),.int .i64 ((rd_T62 ab aa).f1.f0),.float .f64 ((rd_T62 ab aa).f1.f1),.string ((rd_T62 ab aa).f1.f2),.int .i64 0,.int .i64 0,.float .f64 0,.string (⟨#[]⟩:ByteArray)]) ?_ 4 _ rfl;(with_reducible repeat (first|refine blk_drewN ?_ _|refine blk_drew ?_|refine blk_alloc ?_ _));refine blk_put (cs:=#[.string ((rd_T62 ab aa).f0),.int .i64 ((rd_T62 ab aa).f1.f0),.float .f64 ((rd_T62 ab aa).f1.f1),.string (⟨#[]⟩:ByteArray),.int .i64 0,.int .i64 0,.float .f64 0,.string (⟨#[]⟩:ByteArray)]) ?_ 3 _ rfl;(with_reducible repeat (first|refine blk_drewN ?_ _|refine blk_drew ?_|refine blk_alloc ?_ _));refine blk_put (cs:=#[.string ((rd_T62 ab aa).f0),.int .i64 ((rd_T62 ab aa).f1.f0),.float .f64 0,.string (⟨#[]⟩:ByteArray),.int .i64 0,.int .i64 0,.float .f64 0,.string (⟨#[]⟩:ByteArray)]) ?_ 2 _ rfl;(with_reducible repeat (first|refine blk_drewN ?_ _|refine blk_drew ?_|refine blk_alloc ?_ _));refine blk_put (cs:=#[.string ((rd_T62 ab aa).f0),.int .i64 0,.float .f64 0,.string (⟨#[]⟩:ByteArray),.int .i64 0,.int .i64 0,.float .f64 0,.string (⟨#[]⟩:ByteArray)]) ?_ 1 _ rfl;(with_reducible repeat (first|refine blk_drewN ?_ _|refine blk_drew ?_|refine blk_alloc ?_ _));refine blk_put (cs:=#[.string (⟨#[]⟩:ByteArray),.int .i64 0,.float .f64 0,.string (⟨#[]⟩:ByteArray),.int .i64 0,.int .i64 0,.float .f64 0,.string (⟨#[]⟩:ByteArray)]) ?_ 0 _ rfl;(with_reducible repeat (first|refine blk_drewN ?_ _|refine blk_drew ?_|refine blk_alloc ?_ _));exact ah.out⟩
   have n2_:Aside0 (Below w.heap.size w ((((((((w21.setCell ⟨ac,0,none⟩ (.string ((rd_T62 ab aa).f0))).setCell ⟨ac,1,none⟩ (.int .i64 ((rd_T62 ab aa).f1.f0))).setCell ⟨ac,2,none⟩ (.float .f64 ((rd_T62 ab aa).f1.f1))).setCell ⟨ac,3,none⟩ (.string ((rd_T62 ab aa).f1.f2))).setCell ⟨ac,4,none⟩ (.int .i64 ((rd_T62 ab aa).f2))).setCell ⟨ac,5,none⟩ (.int .i64 ((rd_T62 ab aa).f3.f0))).setCell ⟨ac,6,none⟩ (.float .f64 ((rd_T62 ab aa).f3.f1))).setCell ⟨ac,7,none⟩ (.string ((rd_T62 ab aa).f3.f2)))):=bV HB
   (try clear ae)
   (try clear ah)
   (try clear HB)
   generalize ((((((((w21.setCell ⟨ac,0,none⟩ (.string ((rd_T62 ab aa).f0))).setCell ⟨ac,1,none⟩ (.int .i64 ((rd_T62 ab aa).f1.f0))).setCell ⟨ac,2,none⟩ (.float .f64 ((rd_T62 ab aa).f1.f1))).setCell ⟨ac,3,none⟩ (.string ((rd_T62 ab aa).f1.f2))).setCell ⟨ac,4,none⟩ (.int .i64 ((rd_T62 ab aa).f2))).setCell ⟨ac,5,none⟩ (.int .i64 ((rd_T62 ab aa).f3.f0))).setCell ⟨ac,6,none⟩ (.float .f64 ((rd_T62 ab aa).f3.f1))).setCell ⟨ac,7,none⟩ (.string ((rd_T62 ab aa).f3.f2)))=w24 at n0_ n1_ n2_ ⊢
   have ae:=n0_
   have ah:=n1_
   have HB:=n2_
   clear n0_ n1_ n2_
   replace ae:=aK (blk_drew ae.out)
   replace ah:=aK (blk_drew ah.out)
   replace HB:=aK (below_drew1 HB.out)
   have bs:0≤((ji11):Int):=dA
   have bu:(ji11)<(ab.length:Int):=dA
   obtain⟨dh,e117,aD,aE,aG,aH,aI,aJ,aM,aN⟩:=at_T62 bn.out (ji11) bs bu
   have bf:=aN
   have bg:=aM
   have bh:=aJ
   have bi:=aI
   have bj:=aH
   have bk:=aG
   have bl:=aE
   have bm:=aD
   obtain rfl:aj=dh:=(by injection e117)
   replace aD:=cW HB aD
   replace aE:=cW HB aE
   replace aG:=cW HB aG
   replace aH:=cW HB aH
   replace aI:=cW HB aI
   replace aJ:=cW HB aJ
   replace aM:=cW HB aM
   replace aN:=cW HB aN
   replace bs:=eq_true bs
   replace bu:=eq_true bu
   refine start_ (n:=24) (S:=fun w'=>w'.cell? ⟨ak,0,none⟩=some (.bool true)∧w'.cell? ⟨ak,1,none⟩=some (.slice (some aj) ab.length aQ)∧w'.cell? ⟨ak,2,none⟩=some (.slice aT af.length aU)∧w'.cell? ⟨ak,3,none⟩=some (.slice aV ai.length aW)∧w'.cell? ⟨ac,0,none⟩=some (.string ((rd_T62 ab aa).f0))∧w'.cell? ⟨ac,1,none⟩=some (.int .i64 ((rd_T62 ab aa).f1.f0))∧w'.cell? ⟨ac,2,none⟩=some (.float .f64 ((rd_T62 ab aa).f1.f1))∧w'.cell? ⟨ac,3,none⟩=some (.string ((rd_T62 ab aa).f1.f2))∧w'.cell? ⟨ac,4,none⟩=some (.int .i64 ((rd_T62 ab aa).f2))∧w'.cell? ⟨ac,5,none⟩=some (.int .i64 ((rd_T62 ab aa).f3.f0))∧w'.cell? ⟨ac,6,none⟩=some (.float .f64 ((rd_T62 ab aa).f3.f1))∧w'.cell? ⟨ac,7,none⟩=some (.string ((rd_T62 ab aa).f3.f2))∧w'.cell? (aj.add (((ji11)).toNat * 8))=some (.string ((rd_T62 ab (ji11)).f0))∧w'.cell? ⟨(aj.add (((ji11)).toNat * 8)).block,(aj.add (((ji11)).toNat * 8)).off+1,none⟩=some (.int .i64 ((rd_T62 ab (ji11)).f1.f0))∧w'.cell? ⟨(aj.add (((ji11)).toNat * 8)).block,(aj.add (((ji11)).toNat * 8)).off+2,none⟩=some (.float .f64 ((rd_T62 ab (ji11)).f1.f1))∧w'.cell? ⟨(aj.add (((ji11)).toNat * 8)).block,(aj.add (((ji11)).toNat * 8)).off+3,none⟩=some (.string ((rd_T62 ab (ji11)).f1.f2))∧w'.cell? ⟨(aj.add (((ji11)).toNat * 8)).block,(aj.add (((ji11)).toNat * 8)).off+4,none⟩=some (.int .i64 ((rd_T62 ab (ji11)).f2))∧w'.cell? ⟨(aj.add (((ji11)).toNat * 8)).block,(aj.add (((ji11)).toNat * 8)).off+5,none⟩=some (.int .i64 ((rd_T62 ab (ji11)).f3.f0))∧w'.cell? ⟨(aj.add (((ji11)).toNat * 8)).block,(aj.add (((ji11)).toNat * 8)).off+6,none⟩=some (.float .f64 ((rd_T62 ab (ji11)).f3.f1))∧w'.cell? ⟨(aj.add (((ji11)).toNat * 8)).block,(aj.add (((ji11)).toNat * 8)).off+7,none⟩=some (.string ((rd_T62 ab (ji11)).f3.f2))) (ds:=[]) #[false,false,false,false,false,false,false,false,false,false,false,false,false,false,false,false,false,false,false,false,false,false,false,false] (by kernel_rfl) rfl rfl (bn4 ae (bn8 ah ⟨(cW HB bm),(cW HB bl),(cW HB bk),(cW HB bj),(cW HB bi),(cW HB bh),(cW HB bg),(cW HB bf)⟩)) (fun hHeld=>?_);refine with_tabW node_May.tab4 node_May.bits4 (fun HT_ HW_=>?_)
   generalize w24.drew=w25 at ae ah HB aD aE aG aH aI aJ aM aN hHeld ⊢
   refine pA 0 17 HT_ ?_
   refine tA 1 18 HT_ HW_ hHeld ?_ (hy:=by rintro w' ⟨s0,s1,s2,s3,s4,s5,s6,s7,s8,s9,s10,s11,s12,s13,s14,s15,s16,s17,s18,s19⟩;go_simp;with_reducible rfl)
   refine pA 2 19 HT_ ?_
   refine pA 3 20 HT_ ?_
   refine tA 4 21 HT_ HW_ hHeld ?_ (hy:=by rintro w' ⟨s0,s1,s2,s3,s4,s5,s6,s7,s8,s9,s10,s11,s12,s13,s14,s15,s16,s17,s18,s19⟩;go_simp;with_reducible rfl)
   refine oA 5 (some 22) HT_ (fun K hK=>?_)
   refine goes_ Try.func33 (by kernel_rfl) rfl #[.agg #[.string ((rd_T62 ab aa).f0),.int .i64 ((rd_T62 ab aa).f1.f0),.float .f64 ((rd_T62 ab aa).f1.f1),.string ((rd_T62 ab aa).f1.f2),.int .i64 ((rd_T62 ab aa).f2),.int .i64 ((rd_T62 ab aa).f3.f0),.float .f64 ((rd_T62 ab aa).f3.f1),.string ((rd_T62 ab aa).f3.f2)]] (by rfl) rfl rfl (by (try simp only [List.map_toArray,List.map_cons,List.map_nil]);first|done|rfl|(simp only [List.length_drop,List.length_take];rfl)) ?_
   with_reducible refine (cell_May.calls k1 ((rd_T62 ab aa).f0) ((rd_T62 ab aa).f1.f0) ((rd_T62 ab aa).f1.f1) ((rd_T62 ab aa).f1.f2) ((rd_T62 ab aa).f2) ((rd_T62 ab aa).f3.f0) ((rd_T62 ab aa).f3.f1) ((rd_T62 ab aa).f3.f2) true _ A8.out).mono ?_
   rintro e w26 ⟨rfl,hb⟩
   refine⟨_,rfl,?_⟩
   replace ae:=bB ae hb
   replace ah:=bB ah hb
   replace HB:=bW HB hb
   (try clear hb)
   (try clear hb2)
   (try clear hk)
   (try clear hi)
   refine hK.out _ _ (bn4 ae (bn8 ah ⟨(cW HB bm),(cW HB bl),(cW HB bk),(cW HB bj),(cW HB bi),(cW HB bh),(cW HB bg),(cW HB bf)⟩)) (fun hHeld=>?_)
   clear hK K
   refine norm_ (a':=?_) ?_ ?_
   rotate_left
   ·show Act.put _ (some 22) _=_
    simp only [Act.put,List.setIfInBounds_toArray,List.set_cons_zero,List.set_cons_succ,i64_w,i32_w]
    rfl
   refine pA 6 23 HT_ ?_
   refine pA 7 24 HT_ ?_
   refine pA 8 25 HT_ ?_
   refine pA 9 26 HT_ ?_
   refine pA 10 27 HT_ ?_
   refine pA 11 28 HT_ ?_
   refine pA 12 29 HT_ ?_
   refine pA 14 31 HT_ ?_
   refine pA 15 32 HT_ ?_
   refine pA 19 36 HT_ ?_
   refine tA 13 30 HT_ HW_ hHeld ?_ (hy:=by rintro w' ⟨s0,s1,s2,s3,s4,s5,s6,s7,s8,s9,s10,s11,s12,s13,s14,s15,s16,s17,s18,s19⟩;go_simp;with_reducible rfl)
   refine pA 16 33 HT_ ?_
   refine pA 17 34 HT_ ?_
   refine tA 18 35 HT_ HW_ hHeld ?_ (hy:=by rintro w' ⟨s0,s1,s2,s3,s4,s5,s6,s7,s8,s9,s10,s11,s12,s13,s14,s15,s16,s17,s18,s19⟩;go_simp;with_reducible rfl)
   refine tA 20 37 HT_ HW_ hHeld ?_ (hy:=by rintro w' ⟨s0,s1,s2,s3,s4,s5,s6,s7,s8,s9,s10,s11,s12,s13,s14,s15,s16,s17,s18,s19⟩;go_simp;with_reducible rfl)
   refine pA 21 38 HT_ ?_
   refine pA 22 39 HT_ ?_
   refine pA 23 40 HT_ ?_
   refine done_ (done_of HT_.out (by kernel_rfl)) ?_
   try go_wp2
   go_ret
   exact⟨by first|rfl|(simp [errW_none,errW_some] <;> rfl)|(simp only [← hji11];first|rfl|(simp [errW_none,errW_some] <;> rfl))|(simp [*,errW_none,errW_some] <;> rfl),by repeat (first|(with_reducible first|exact HB.out|apply below_alloc|apply pw_below_drewN|apply below_drew1|refine below_set ?_ dq.out|refine below_set ?_ bw.out)|exact HB.out)⟩
end Go.Proofs.Ytmmjpieafbjggaa.P
end
section
namespace Go.Proofs.Ytmmjpieafbjggaa.P
open Go.RowKit Go.Proofs.YtmmjpieafbjggaaW.PrintWords Go.Proofs.YtmmjpieafbjggaaW.PrintLast Go.Proofs.YtmmjpieafbjggaaW.PrintMore
attribute [local go_sem] max2_int min2_int max_two min_two max_three min_three max_four min_four   -- for this text's walks alone
attribute [local go_sem] x_str_gtr x_str_leq x_str_geq ext_bits ext_frombits ext_neg x_store_float Instr.field asAgg
set_option linter.unusedVariables false
set_option linter.unusedSimpArgs false
mutual
def num_Put.j0:Nat→List Int→Int→Option (List Int)
 | 0,_,_=>none
 | k+1,x0,x5=>num_Put.l0 k x0 x5
def num_Put.l0:Nat→List Int→Int→Option (List Int)
 | 0,_,_=>none
 | k+1,x0,x5=>if x5>127 then (if x0.length<140737488355328 then (num_Put.l0 k (x0++[Go.bits .or .u8 ((x5) % 256) 128]) (x5 / 128)) else (none)) else (if x0.length<140737488355328 then (some (x0++[(x5) % 256])) else (none))
end
def num_Put.f (k:Nat) (l0:List Int) (a1:Int):Option (List Int):=if a1<0 then (num_Put.j0 k l0 (Go.bits .xor .u64 18446744073709551615 (IntKind.u64.wrap ((IntKind.u64.wrap (a1)) * 2)))) else (num_Put.j0 k l0 (IntKind.u64.wrap ((IntKind.u64.wrap (a1)) * 2)))
theorem num_Put.mono_l:∀ k,(∀ y0 y1,LeO (num_Put.j0 k y0 y1) (num_Put.j0 (k+1) y0 y1))∧(∀ y0 y1,LeO (num_Put.l0 k y0 y1) (num_Put.l0 (k+1) y0 y1))
 | 0=>⟨fun _ _ r h=>by simp [num_Put.j0] at h,fun _ _ r h=>by simp [num_Put.l0] at h⟩
 | k+1=>by
  obtain⟨ih0,ih1⟩:=num_Put.mono_l k
  refine⟨?_,?_⟩
  ·intro y0 y1
   unfold num_Put.j0
   repeat' first
   | (with_reducible exact ih0 _ _)
   | (with_reducible exact ih1 _ _)
   | (with_reducible exact LeO.refl _)
   | (with_reducible exact LeO.none _)
   | (with_reducible refine LeO.ite ?_ ?_)
   | (with_reducible refine LeO.bind ?_ (fun _=>?_))
   | exact ih0 _ _
   | exact ih1 _ _
   | exact LeO.none _
   | refine LeO.ite ?_ ?_
   | refine LeO.bind ?_ (fun _=>?_)
  ·intro y0 y1
   unfold num_Put.l0
   repeat' first
   | (with_reducible exact ih0 _ _)
   | (with_reducible exact ih1 _ _)
   | (with_reducible exact LeO.refl _)
   | (with_reducible exact LeO.none _)
   | (with_reducible refine LeO.ite ?_ ?_)
   | (with_reducible refine LeO.bind ?_ (fun _=>?_))
   | exact ih0 _ _
   | exact ih1 _ _
   | exact LeO.none _
   | refine LeO.ite ?_ ?_
   | refine LeO.bind ?_ (fun _=>?_)
theorem num_Put.mono:∀ a0 a1 k,LeO (num_Put.f k a0 a1) (num_Put.f (k+1) a0 a1):=by
 intro a0 a1 k
 obtain⟨ih0,ih1⟩:=num_Put.mono_l k
 unfold num_Put.f
 repeat' first
   | (with_reducible exact ih0 _ _)
   | (with_reducible exact ih1 _ _)
   | (with_reducible exact LeO.refl _)
   | (with_reducible exact LeO.none _)
   | (with_reducible refine LeO.ite ?_ ?_)
   | (with_reducible refine LeO.bind ?_ (fun _=>?_))
   | exact ih0 _ _
   | exact ih1 _ _
   | exact LeO.none _
   | refine LeO.ite ?_ ?_
   | refine LeO.bind ?_ (fun _=>?_)
set_option maxHeartbeats 8000000 in
set_option maxRecDepth 100000 in
theorem num_Put.calls (k:Nat) (P0_:Nat→Prop) (af:Value) (l0:List Int) (a1:Int) (r:List Int) (w0 w:World) (hB:Below w0.heap.size w0 w) (ho0:Kd.R (Kd.int .u8) 5 w w0.heap.size P0_ af l0) (h:num_Put.f k l0 a1=some r) :
  Calls Try.prog 50 #[af,.int .i64 a1] w fun e w'=>∃ v0_:Value,e = .returned (v0_)∧Kd.R (Kd.int .u8) 5 w' w0.heap.size (fun k_=>(P0_ k_∨w.heap.size≤k_)) v0_ r∧Below w0.heap.size w0 w'∧Kept w w' (fun k_=>P0_ k_):=by
 have HO0:=aK (show Kd.R (Kd.int .u8) 5 w w0.heap.size (fun k_=>(P0_ k_∨w.heap.size≤k_)) af l0 from Kd.R_mono ho0 (fun k_ hk=>(.inl hk)))
 have HK:=aK (Kept.refl w (fun k_=>P0_ k_))
 have HW0:=aK hB.size
 have HB:=aK hB
 clear hB
 have H:(if a1<0 then (num_Put.j0 k l0 (Go.bits .xor .u64 18446744073709551615 (IntKind.u64.wrap ((IntKind.u64.wrap (a1)) * 2)))) else (num_Put.j0 k l0 (IntKind.u64.wrap ((IntKind.u64.wrap (a1)) * 2))))=some r:=h
 clear h
 have HC3:=aK H
 clear H
 go_enter Try.func50,Try.ntmps50
 go_upto_if 10 with (fail)
 go_cut [5] (fun v5 wc=>∃ (kq:Nat) (aa:Int),v5 = .int .u64 aa∧Aside0 (num_Put.j0 kq l0 aa=some r)∧Aside0 (kq≤k)∧Aside0 (Kd.R (Kd.int .u8) 5 wc w0.heap.size (fun k_=>(P0_ k_∨w.heap.size≤k_)) af l0)∧Aside0 (Kept w wc (fun k_=>P0_ k_))∧Aside0 (Below w0.heap.size w0 wc))
 case first =>
  have H:=HC3.out
  clear HC3
  by_cases c4:a1<0
  rotate_left
  ·rw [if_neg c4] at H
   have ae:decide (a1<0)=false:=decide_eq_false c4
   clear c4
   (first|rw [ae]|(simp only [i64_w,i32_w];rw [ae])|skip)
   have H':=aK H
   clear H
   go_wp2
   go_meet
   case rel=>exact⟨_,(IntKind.u64.wrap ((IntKind.u64.wrap (a1)) * 2)),(by first|rfl|(simp;done)|(simp [*];done)),H',⟨by first|omega|exact Nat.le_refl _⟩,⟨by (with_reducible repeat (first|apply Kd.R_alloc|apply Kd.R_drewN|apply Kd.R_drew));exact HO0.out⟩,⟨by repeat (first|(with_reducible first|exact HK.out|apply Kept.alloc|apply Kept.drewN|apply Kept.drew)|exact HK.out)⟩,bV HB⟩
  rw [if_pos c4] at H
  have ae:decide (a1<0)=true:=decide_eq_true c4
  clear c4
  (first|rw [ae]|(simp only [i64_w,i32_w];rw [ae])|skip)
  have H':=aK H
  clear H
  go_wp2
  go_meet
  case rel=>exact⟨_,(Go.bits .xor .u64 18446744073709551615 (IntKind.u64.wrap ((IntKind.u64.wrap (a1)) * 2))),(by first|rfl|(simp;done)|(simp [*];done)),H',⟨by first|omega|exact Nat.le_refl _⟩,⟨by (with_reducible repeat (first|apply Kd.R_alloc|apply Kd.R_drewN|apply Kd.R_drew));exact HO0.out⟩,⟨by repeat (first|(with_reducible first|exact HK.out|apply Kept.alloc|apply Kept.drewN|apply Kept.drew)|exact HK.out)⟩,bV HB⟩
 case rest =>
  clear HC3
  try clear p2
  try clear c4
  try clear ae
  obtain⟨kq,aa,rfl,HA,HJ2,ac,HK,HB⟩:=hcut
  cases kq with
  | zero=>exact absurd HA.out (by simp [num_Put.j0])
  | succ kj2 =>
   have H:=HA.out
   clear HA
   simp only [num_Put.j0] at H
   have H':=aK H
   clear H
   go_wp2
   go_loopg [0,5] kj2 (fun kq v0 v5 w'=>∃ (ab:List Int) (aa:Int),v5 = .int .u64 aa∧Aside0 (num_Put.l0 kq ab aa=some r)∧Aside0 (kq≤kj2)∧Aside0 (Kd.R (Kd.int .u8) 5 w' w0.heap.size (fun k_=>(P0_ k_∨w.heap.size≤k_)) v0 ab)∧Aside0 (Kept w w' (fun k_=>P0_ k_))∧Aside0 (Below w0.heap.size w0 w'))
   case atStart=>exact⟨(l0),(aa),(by first|rfl|(simp;done)|(simp [*];done)),H',⟨Nat.le_refl _⟩,⟨by (with_reducible repeat (first|apply Kd.R_alloc|apply Kd.R_drewN|apply Kd.R_drew));exact ac.out⟩,⟨by repeat (first|(with_reducible first|exact HK.out|apply Kept.alloc|apply Kept.drewN|apply Kept.drew)|exact HK.out)⟩,bV HB⟩
   case round =>
    clear H'
    try clear p2
    try clear c4
    try clear ae
    try clear p2
    obtain⟨ab,aa,rfl,HA,HK2,ac,HK,HB⟩:=hrel
    cases gk with
    | zero=>exact absurd HA.out (by simp [num_Put.l0])
    | succ k2 =>
     have H:=HA.out
     clear HA
     simp only [num_Put.l0] at H
     by_cases c5:aa>127
     rotate_left
     ·rw [if_neg c5] at H
      have aj:decide (127<aa)=false:=decide_eq_false c5
      clear c5
      by_cases c8:ab.length<140737488355328
      rotate_left
      ·rw [if_neg c8] at H
       exact absurd H (by simp)
      rw [if_pos c8] at H
      have LMc8:=aK c8
      clear c8
      obtain⟨ak,hy125⟩:∃ y_:List Int,y_=(ab++[(aa) % 256]):=⟨_,rfl⟩
      replace H:(some ak)=some r:=by first|(rw [hy125];with_reducible exact H)|(have H2_:=(Option.bind_some _ _).symm.trans H;rw [hy125];with_reducible exact H2_)|(have H2_:=(Option.bind_some _ _).symm.trans H;with_reducible exact H2_)|with_reducible exact H|(rw [hy125];exact H)|exact H
      have Ny125:=aK hy125
      clear hy125
      obtain rfl:=Option.some.inj H
      go_wp2_with (first|((with_reducible refine gate_builtin (b:=.append) (xs:=#[.tmp 23,.tmp 26]) rfl ?_);at_builtin;refine Kd.R_append (Kd.int .u8) (w0:=w0) w0.heap.size rfl (.tmp 23) (.tmp 26) 30 5 (.int .u8 0) 1 rfl Try.underlying30 info5 rfl (by decide) (by omega) u0 ab ((aa) % 256) [.int .u8 ((aa) % 256)] (fun k_=>(P0_ k_∨w.heap.size≤k_)) (fun _=>False) rfl rfl ?aP (fun _ hk=>hk.elim) ?aF ?aO ?aB ?aS ?aL ?_;(case aP=>exact rfl);(case aB=>exact (bC HB));(case aF=>exact (fun k_ hk=>(.inr (Nat.le_trans (by first|exact HK.out.1|exact (show Kept w _ (fun k_=>P0_ k_) from by repeat (first|(with_reducible first|exact HK.out|apply Kept.alloc|apply Kept.drewN|apply Kept.drew)|exact HK.out)).1) hk))));(case aO=>exact (by (with_reducible repeat (first|apply Kd.R_alloc|apply Kd.R_drewN|apply Kd.R_drew));exact ac.out));(case aS=>exact (below_size (bC HB)));(case aL=>have:=LMc8.out;omega);intro al w9 ho hb hg hat;rw [← Ny125.out] at ho;have ah:=aK (ho);replace HB:=aK (hb);replace HK:=aK (Kept.of_grown (S:=(fun k_=>P0_ k_)) hg (by repeat (first|(with_reducible first|exact HK.out|apply Kept.alloc|apply Kept.drewN|apply Kept.drew)|exact HK.out)) (fun k_ e_=>(ac.out.1 k_ e_)));clear ac;clear ho hb hg hat))
      go_ret
      exact⟨_,by first|rfl|(simp [errW_none,errW_some] <;> rfl)|(simp [*,errW_none,errW_some] <;> rfl),by (with_reducible repeat (first|apply Kd.R_alloc|apply Kd.R_drewN|apply Kd.R_drew));exact ah.out,by repeat (first|(with_reducible first|exact HB.out|apply below_alloc|apply pw_below_drewN|apply below_drew1)|exact HB.out),by repeat (first|(with_reducible first|exact HK.out|apply Kept.alloc|apply Kept.drewN|apply Kept.drew)|exact HK.out)⟩
     rw [if_pos c5] at H
     have aj:decide (127<aa)=true:=decide_eq_true c5
     clear c5
     by_cases c6:ab.length<140737488355328
     rotate_left
     ·rw [if_neg c6] at H
      exact absurd H (by simp)
     rw [if_pos c6] at H
     have LMc6:=aK c6
     clear c6
     obtain⟨ag,hy122⟩:∃ y_:List Int,y_=(ab++[Go.bits .or .u8 ((aa) % 256) 128]):=⟨_,rfl⟩
     replace H:(num_Put.l0 k2 ag (aa / 128))=some r:=by first|(rw [hy122];with_reducible exact H)|(have H2_:=(Option.bind_some _ _).symm.trans H;rw [hy122];with_reducible exact H2_)|(have H2_:=(Option.bind_some _ _).symm.trans H;with_reducible exact H2_)|with_reducible exact H|(rw [hy122];exact H)|exact H
     have Ny122:=aK hy122
     clear hy122
     have H':=aK H
     clear H
     go_wp2_with (first|((with_reducible refine gate_builtin (b:=.append) (xs:=#[.tmp 15,.tmp 19]) rfl ?_);at_builtin;refine Kd.R_append (Kd.int .u8) (w0:=w0) w0.heap.size rfl (.tmp 15) (.tmp 19) 30 5 (.int .u8 0) 1 rfl Try.underlying30 info5 rfl (by decide) (by omega) u0 ab (Go.bits .or .u8 ((aa) % 256) 128) [.int .u8 (Go.bits .or .u8 ((aa) % 256) 128)] (fun k_=>(P0_ k_∨w.heap.size≤k_)) (fun _=>False) rfl rfl ?aP (fun _ hk=>hk.elim) ?aF ?aO ?aB ?aS ?aL ?_;(case aP=>exact rfl);(case aB=>exact (bC HB));(case aF=>exact (fun k_ hk=>(.inr (Nat.le_trans (by first|exact HK.out.1|exact (show Kept w _ (fun k_=>P0_ k_) from by repeat (first|(with_reducible first|exact HK.out|apply Kept.alloc|apply Kept.drewN|apply Kept.drew)|exact HK.out)).1) hk))));(case aO=>exact (by (with_reducible repeat (first|apply Kd.R_alloc|apply Kd.R_drewN|apply Kd.R_drew));exact ac.out));(case aS=>exact (below_size (bC HB)));(case aL=>have:=LMc6.out;omega);intro am w7 ho hb hg hat;rw [← Ny122.out] at ho;have ai:=aK (ho);replace HB:=aK (hb);replace HK:=aK (Kept.of_grown (S:=(fun k_=>P0_ k_)) hg (by repeat (first|(with_reducible first|exact HK.out|apply Kept.alloc|apply Kept.drewN|apply Kept.drew)|exact HK.out)) (fun k_ e_=>(ac.out.1 k_ e_)));clear ac;clear ho hb hg hat))
     go_roundg k2
     case measure=>have:=HJ2.out;have:=HK2.out;omega
     case rel=>exact⟨(ag),(aa / 128),(by first|rfl|(simp;done)|(simp [*];done)),H',⟨by have:=HJ2.out;have:=HK2.out;omega⟩,⟨by (with_reducible repeat (first|apply Kd.R_alloc|apply Kd.R_drewN|apply Kd.R_drew));exact ai.out⟩,⟨by repeat (first|(with_reducible first|exact HK.out|apply Kept.alloc|apply Kept.drewN|apply Kept.drew)|exact HK.out)⟩,bV HB⟩
def num_PutText.f (k:Nat) (l0:List Int) (a1:ByteArray):Option (List Int):=(num_Put.f k l0 (a1.size:Int)).bind fun t128=>(if t128.length+a1.size<140737488355328 then (some (t128++bytesOf a1)) else (none))
theorem num_PutText.mono:∀ a0 a1 k,LeO (num_PutText.f k a0 a1) (num_PutText.f (k+1) a0 a1):=by
 intro a0 a1 k
 unfold num_PutText.f
 repeat' first
   | (with_reducible exact num_Put.mono _ _ _)
   | (with_reducible exact LeO.refl _)
   | (with_reducible exact LeO.none _)
   | (with_reducible refine LeO.ite ?_ ?_)
   | (with_reducible refine LeO.bind ?_ (fun _=>?_))
   | exact num_Put.mono _ _ _
   | exact LeO.none _
   | refine LeO.ite ?_ ?_
   | refine LeO.bind ?_ (fun _=>?_)
set_option maxHeartbeats 8000000 in
set_option maxRecDepth 100000 in
theorem num_PutText.calls (k:Nat) (P0_:Nat→Prop) (ab:Value) (l0:List Int) (a1:ByteArray) (r:List Int) (w0 w:World) (hB:Below w0.heap.size w0 w) (ho0:Kd.R (Kd.int .u8) 5 w w0.heap.size P0_ ab l0) (h:num_PutText.f k l0 a1=some r) :
  Calls Try.prog 52 #[ab,.string a1] w fun e w'=>∃ v0_:Value,e = .returned (v0_)∧Kd.R (Kd.int .u8) 5 w' w0.heap.size (fun k_=>(P0_ k_∨w.heap.size≤k_)) v0_ r∧Below w0.heap.size w0 w'∧Kept w w' (fun k_=>P0_ k_):=by
 have HO0:=aK (show Kd.R (Kd.int .u8) 5 w w0.heap.size (fun k_=>(P0_ k_∨w.heap.size≤k_)) ab l0 from Kd.R_mono ho0 (fun k_ hk=>(.inl hk)))
 have HK:=aK (Kept.refl w (fun k_=>P0_ k_))
 have HW0:=aK hB.size
 have HB:=aK hB
 clear hB
 have H:((num_Put.f k l0 (a1.size:Int)).bind fun aa=>(if aa.length+a1.size<140737488355328 then (some (aa++bytesOf a1)) else (none)))=some r:=h
 clear h
 replace H:=oS H
 obtain⟨aa,A30,H⟩:=H
 replace H:(if aa.length+a1.size<140737488355328 then (some (aa++bytesOf a1)) else (none))=some r:=H
 have A3:=aK A30
 clear A30
 by_cases c4:aa.length+a1.size<140737488355328
 rotate_left
 ·rw [if_neg c4] at H
  exact absurd H (by simp)
 rw [if_pos c4] at H
 have LMc4:=aK c4
 clear c4
 obtain⟨af,hy131⟩:∃ y_:List Int,y_=(aa++bytesOf a1):=⟨_,rfl⟩
 replace H:(some af)=some r:=by first|(rw [hy131];with_reducible exact H)|(have H2_:=(Option.bind_some _ _).symm.trans H;rw [hy131];with_reducible exact H2_)|(have H2_:=(Option.bind_some _ _).symm.trans H;with_reducible exact H2_)|with_reducible exact H|(rw [hy131];exact H)|exact H
 have Ny131:=aK hy131
 clear hy131
 obtain rfl:=Option.some.inj H
 obtain⟨Ao5,co5,eo5⟩:=Kd.R_slice HO0.out
 subst eo5
 go_enter Try.func52,Try.ntmps52
 go_wp2_with (first|((with_reducible refine gate_callee (f:=50) rfl ?_);refine gL (some 8) Try.func50 #[.slice Ao5 l0.length co5,.int .i64 (a1.size:Int)] ?_;(with_reducible refine (num_Put.calls k (fun k_=>some k_=(.slice Ao5 l0.length co5:Value).ownBlock) (.slice Ao5 l0.length co5) l0 (a1.size:Int) aa w0 _ ?side1 ?side2 A3.out).mono ?_);(case side1=>repeat (first|(with_reducible first|exact HB.out|apply below_alloc|apply pw_below_drewN|apply below_drew1)|exact HB.out));(case side2=>exact Kd.R_tight rfl HO0.out);rintro e w6 ⟨ag,rfl,ho0,hb,hkp⟩;refine⟨_,rfl,?_⟩;have ac:=aK (Kd.R_mono (ok':=fun k_=>(P0_ k_∨w.heap.size≤k_)) ho0 (fun k_ hk_=>Or.elim hk_ (fun hs_=>(HO0.out.1 k_ (hs_).symm)) (fun hn_=>(.inr (Nat.le_trans (by first|exact HK.out.1|exact (show Kept w _ (fun k_=>P0_ k_) from by repeat (first|(with_reducible first|exact HK.out|apply Kept.alloc|apply Kept.drewN|apply Kept.drew)|exact HK.out)).1) hn_)))));replace HK:=aK (Kept.then_ (S:=(fun k_=>P0_ k_)) (by repeat (first|(with_reducible first|exact HK.out|apply Kept.alloc|apply Kept.drewN|apply Kept.drew)|exact HK.out)) hkp (fun k_ hs_=>(fun e_=>(HO0.out.1 k_ e_.symm)) hs_));replace HB:=aK (hb);clear HO0;(try clear hb);(try clear hkp);(try clear ho0))|(at_builtin;refine Kd.x_append_str (w0:=w0) w0.heap.size rfl (.tmp 8) _ 30 9 5 rfl Try.underlying30 Try.underlying9 info5 ag aa a1 (fun k_=>(P0_ k_∨w.heap.size≤k_)) rfl rfl ?aO ?aF ?aB ?aS ?aL ?_;(case aB=>exact (bC HB));(case aF=>exact (fun k_ hk=>(.inr (Nat.le_trans (by first|exact HK.out.1|exact (show Kept w _ (fun k_=>P0_ k_) from by repeat (first|(with_reducible first|exact HK.out|apply Kept.alloc|apply Kept.drewN|apply Kept.drew)|exact HK.out)).1) hk))));(case aO=>exact (by (with_reducible repeat (first|apply Kd.R_alloc|apply Kd.R_drewN|apply Kd.R_drew));exact ac.out));(case aS=>exact (below_size (bC HB)));(case aL=>have:=LMc4.out;omega);intro ah w7 ho hb hg hat;rw [← Ny131.out] at ho;have ae:=aK (ho);replace HB:=aK (hb);replace HK:=aK (Kept.of_grown (S:=(fun k_=>P0_ k_)) hg (by repeat (first|(with_reducible first|exact HK.out|apply Kept.alloc|apply Kept.drewN|apply Kept.drew)|exact HK.out)) (fun k_ e_=>(ac.out.1 k_ e_)));clear ac;clear ho hb hg hat))
 go_ret
 exact⟨_,by first|rfl|(simp [errW_none,errW_some] <;> rfl)|(simp [*,errW_none,errW_some] <;> rfl),by (with_reducible repeat (first|apply Kd.R_alloc|apply Kd.R_drewN|apply Kd.R_drew));exact ae.out,by repeat (first|(with_reducible first|exact HB.out|apply below_alloc|apply pw_below_drewN|apply below_drew1)|exact HB.out),by repeat (first|(with_reducible first|exact HK.out|apply Kept.alloc|apply Kept.drewN|apply Kept.drew)|exact HK.out)⟩
def float_place.f (a0:Nat):Option (Int):=(math_IsNaN.f a0).bind fun t134=>(if t134=true then (some 0) else (if (Go.bits .and .u64 ((a0:Nat):Int) 9223372036854775808)=0 then (some (Go.bits .or .u64 ((a0:Nat):Int) 9223372036854775808)) else (some (Go.bits .xor .u64 18446744073709551615 ((a0:Nat):Int)))))
set_option maxHeartbeats 8000000 in
set_option maxRecDepth 100000 in
theorem float_place.calls (a0:Nat) (r:Int) (w:World) (h:float_place.f a0=some r) :
  Calls Try.prog 74 #[.float .f64 a0] w fun e w'=>e = .returned (.int .u64 r)∧Drawn0 w w':=by
 have H:((math_IsNaN.f a0).bind fun aa=>(if aa=true then (some 0) else (if (Go.bits .and .u64 ((a0:Nat):Int) 9223372036854775808)=0 then (some (Go.bits .or .u64 ((a0:Nat):Int) 9223372036854775808)) else (some (Go.bits .xor .u64 18446744073709551615 ((a0:Nat):Int))))))=some r:=h
 clear h
 replace H:=oS H
 obtain⟨aa,A20,H⟩:=H
 replace H:(if aa=true then (some 0) else (if (Go.bits .and .u64 ((a0:Nat):Int) 9223372036854775808)=0 then (some (Go.bits .or .u64 ((a0:Nat):Int) 9223372036854775808)) else (some (Go.bits .xor .u64 18446744073709551615 ((a0:Nat):Int)))))=some r:=H
 have A2:=aK A20
 clear A20
 by_cases c3:aa=true
 ·subst c3
  have H1:(some 0)=some r:=by rw [if_pos rfl] at H;exact H
  clear H
  have H:=H1
  clear H1
  obtain rfl:=Option.some.inj H
  go_enter Try.func74,Try.ntmps74
  go_wp2_with (first|((with_reducible refine gate_callee (f:=71) rfl ?_);refine gL (some 8) Try.func71 #[.float .f64 a0] ?_;(with_reducible refine (math_IsNaN.calls a0 true _ A2.out).mono ?_);rintro e w' ⟨rfl,⟨nd,rfl⟩⟩;refine⟨_,rfl,?_⟩))
  go_ret
  exact⟨by first|rfl|(simp;done)|(simp [*];done),by repeat (first|exact Drawn0.refl _|apply Drawn0.step)⟩
 replace c3:=Bool.eq_false_iff.mpr c3
 subst c3
 have H1:(if (Go.bits .and .u64 ((a0:Nat):Int) 9223372036854775808)=0 then (some (Go.bits .or .u64 ((a0:Nat):Int) 9223372036854775808)) else (some (Go.bits .xor .u64 18446744073709551615 ((a0:Nat):Int))))=some r:=by rw [if_neg (show ¬ (false=true) by decide)] at H;exact H
 clear H
 have H:=H1
 clear H1
 by_cases c4:(Go.bits .and .u64 ((a0:Nat):Int) 9223372036854775808)=0
 rotate_left
 ·rw [if_neg c4] at H
  have ab:((Go.bits .and .u64 ((a0:Nat):Int) 9223372036854775808) == 0)=false:=beq_eq_false_iff_ne.mpr c4
  have ac:((Go.bits .and .u64 ((a0:Nat):Int) 9223372036854775808) != 0)=true:=bne_iff_ne.mpr c4
  obtain rfl:=Option.some.inj H
  go_enter Try.func74,Try.ntmps74
  go_wp2_with (first|((with_reducible refine gate_callee (f:=71) rfl ?_);refine gL (some 8) Try.func71 #[.float .f64 a0] ?_;(with_reducible refine (math_IsNaN.calls a0 false _ A2.out).mono ?_);rintro e w' ⟨rfl,⟨nd,rfl⟩⟩;refine⟨_,rfl,?_⟩))
  go_ret
  exact⟨by first|rfl|(simp;done)|(simp [*];done),by repeat (first|exact Drawn0.refl _|apply Drawn0.step)⟩
 rw [if_pos c4] at H
 have ab:((Go.bits .and .u64 ((a0:Nat):Int) 9223372036854775808) == 0)=true:=beq_iff_eq.mpr c4
 have ac:((Go.bits .and .u64 ((a0:Nat):Int) 9223372036854775808) != 0)=false:=bne_eq_false_iff_eq.mpr c4
 clear c4
 obtain rfl:=Option.some.inj H
 go_enter Try.func74,Try.ntmps74
 go_wp2_with (first|((with_reducible refine gate_callee (f:=71) rfl ?_);refine gL (some 8) Try.func71 #[.float .f64 a0] ?_;(with_reducible refine (math_IsNaN.calls a0 false _ A2.out).mono ?_);rintro e w' ⟨rfl,⟨nd,rfl⟩⟩;refine⟨_,rfl,?_⟩))
 go_ret
 exact⟨by first|rfl|(simp;done)|(simp [*];done),by repeat (first|exact Drawn0.refl _|apply Drawn0.step)⟩
def float_Bytes.l0:Nat→Int→List Int→Int→Option (List Int)
 | 0,_,_,_=>none
 | k+1,x3,x4,x8=>if x8<8 then (if 0≤(wrap64 (8 * (wrap64 (7 - x8)))) then (if x4.length<140737488355328 then (float_Bytes.l0 k x3 (x4++[(shr .u64 x3 (wrap64 (8 * (wrap64 (7 - x8))))) % 256]) (wrap64 (x8+1))) else (none)) else (none)) else (some x4)
def float_Bytes.f (k:Nat) (a0:Nat):Option (List Int):=(float_place.f a0).bind fun t135=>(float_Bytes.l0 k t135 ([]:List Int) 0)
theorem float_Bytes.mono_l:∀ k,(∀ y0 y1 y2,LeO (float_Bytes.l0 k y0 y1 y2) (float_Bytes.l0 (k+1) y0 y1 y2))
 | 0=>fun _ _ _ r h=>by simp [float_Bytes.l0] at h
 | k+1=>by
  have ih0:=float_Bytes.mono_l k
  ·intro y0 y1 y2
   unfold float_Bytes.l0
   repeat' first
   | (with_reducible exact ih0 _ _ _)
   | (with_reducible exact LeO.refl _)
   | (with_reducible exact LeO.none _)
   | (with_reducible refine LeO.ite ?_ ?_)
   | (with_reducible refine LeO.bind ?_ (fun _=>?_))
   | exact ih0 _ _ _
   | exact LeO.none _
   | refine LeO.ite ?_ ?_
   | refine LeO.bind ?_ (fun _=>?_)
theorem float_Bytes.mono:∀ a0 k,LeO (float_Bytes.f k a0) (float_Bytes.f (k+1) a0):=by
 intro a0 k
 have ih0:=float_Bytes.mono_l k
 unfold float_Bytes.f
 repeat' first
   | (with_reducible exact ih0 _ _ _)
   | (with_reducible exact LeO.refl _)
   | (with_reducible exact LeO.none _)
   | (with_reducible refine LeO.ite ?_ ?_)
   | (with_reducible refine LeO.bind ?_ (fun _=>?_))
   | exact ih0 _ _ _
   | exact LeO.none _
   | refine LeO.ite ?_ ?_
   | refine LeO.bind ?_ (fun _=>?_)
set_option maxHeartbeats 8000000 in
set_option maxRecDepth 100000 in
theorem float_Bytes.calls (k:Nat) (a0:Nat) (r:List Int) (w:World) (h:float_Bytes.f k a0=some r) :
  Calls Try.prog 72 #[.float .f64 a0] w fun e w'=>∃ v0_:Value,e = .returned (v0_)∧Kd.R (Kd.int .u8) 5 w' w.heap.size (fun _=>True) v0_ r∧Below w.heap.size w w':=by
 have HB:=aK (Below.refl w.heap.size w)
 have H:((float_place.f a0).bind fun aa=>(float_Bytes.l0 k aa ([]:List Int) 0))=some r:=h
 clear h
 replace H:=oS H
 obtain⟨aa,A20,H⟩:=H
 replace H:(float_Bytes.l0 k aa ([]:List Int) 0)=some r:=H
 have A2:=aK A20
 clear A20
 have H':=aK H
 clear H
 go_enter Try.func72,Try.ntmps72
 go_wp2_with (first|((with_reducible refine gate_callee (f:=74) rfl ?_);refine gL (some 7) Try.func74 #[.float .f64 a0] ?_;(with_reducible refine (float_place.calls a0 aa _ A2.out).mono ?_);rintro e w' ⟨rfl,⟨nd,rfl⟩⟩;refine⟨_,rfl,?_⟩))
 go_loopg [4,8] k (fun kq v4 v8 w'=>∃ (ac:List Int) (ab:Int),v8 = .int .i64 ab∧Aside0 (float_Bytes.l0 kq aa ac ab=some r)∧Aside0 (kq≤k)∧Aside0 (Kd.R (Kd.int .u8) 5 w' w.heap.size (fun _=>True) v4 ac)∧Aside0 (Below w.heap.size w w'))
 case atStart=>exact⟨(([]:List Int)),(0),(by first|rfl|(simp;done)|(simp [*];done)),H',⟨Nat.le_refl _⟩,⟨by first|exact Kd.R_nil _ _ _ _ _|exact Kd.N_nil _ _ _ _ _|exact Kd.V_nil _ _ _ _ _|exact Kd.Q_nil _ _ _ _ _|exact Kd.S_nil _ _ _ _ _⟩,bV HB⟩
 case round =>
  clear H'
  try clear p2
  obtain⟨ac,ab,rfl,HA,HK1,ae,HB⟩:=hrel
  cases gk with
  | zero=>exact absurd HA.out (by simp [float_Bytes.l0])
  | succ k1 =>
   have H:=HA.out
   clear HA
   simp only [float_Bytes.l0] at H
   by_cases c3:ab<8
   rotate_left
   ·rw [if_neg c3] at H
    have ah:decide (ab<8)=false:=decide_eq_false c3
    clear c3
    obtain rfl:=Option.some.inj H
    go_wp2
    go_ret
    exact⟨_,by first|rfl|(simp [errW_none,errW_some] <;> rfl)|(simp [*,errW_none,errW_some] <;> rfl),by (with_reducible repeat (first|apply Kd.R_alloc|apply Kd.R_drewN|apply Kd.R_drew));exact ae.out,by repeat (first|(with_reducible first|exact HB.out|apply below_alloc|apply pw_below_drewN|apply below_drew1)|exact HB.out)⟩
   rw [if_pos c3] at H
   have ah:decide (ab<8)=true:=decide_eq_true c3
   clear c3
   obtain⟨ji4,hji4⟩:∃ j_:Int,(wrap64 (8 * (wrap64 (7 - ab))))=j_:=⟨_,rfl⟩
   replace H:(if 0≤(ji4) then (if ac.length<140737488355328 then (float_Bytes.l0 k1 aa (ac++[(shr .u64 aa (ji4)) % 256]) (wrap64 (ab+1))) else (none)) else (none))=some r:=by first|(rw [hji4] at H;exact H)|(simp only [hji4] at H ⊢;exact H)
   have hji4w:(IntKind.i64.wrap (8 * (wrap64 (7 - ab))))=ji4:=(i64_w _).trans hji4
   by_cases c5:0≤(ji4)
   rotate_left
   ·rw [if_neg c5] at H
    exact absurd H (by simp)
   rw [if_pos c5] at H
   have ai:=eq_true c5
   have aj:decide (0≤(ji4))=true:=decide_eq_true c5
   clear c5
   obtain⟨ji6,hji6⟩:∃ j_:Int,(shr .u64 aa (ji4))=j_:=⟨_,rfl⟩
   replace H:(if ac.length<140737488355328 then (float_Bytes.l0 k1 aa (ac++[(ji6) % 256]) (wrap64 (ab+1))) else (none))=some r:=by first|(rw [hji6] at H;exact H)|(simp only [hji6] at H ⊢;exact H)
   have hji6_:(aa / 2 ^ min (ji4).toNat 64)=ji6:=hji6
   have hji6z:(ji4)≤64→(aa / 2 ^ (ji4).toNat)=ji6:=shr_small hji6
   by_cases c7:ac.length<140737488355328
   rotate_left
   ·rw [if_neg c7] at H
    exact absurd H (by simp)
   rw [if_pos c7] at H
   have LMc7:=aK c7
   clear c7
   obtain⟨af,hy136⟩:∃ y_:List Int,y_=(ac++[(ji6) % 256]):=⟨_,rfl⟩
   replace H:(float_Bytes.l0 k1 aa af (wrap64 (ab+1)))=some r:=by first|(rw [hy136];with_reducible exact H)|(have H2_:=(Option.bind_some _ _).symm.trans H;rw [hy136];with_reducible exact H2_)|(have H2_:=(Option.bind_some _ _).symm.trans H;with_reducible exact H2_)|with_reducible exact H|(rw [hy136];exact H)|exact H
   have Ny136:=aK hy136
   clear hy136
   have H':=aK H
   clear H
   go_wp2_with (first|((with_reducible refine gate_builtin (b:=.append) (xs:=#[.tmp 11,.tmp 18]) rfl ?_);at_builtin;refine Kd.R_append (Kd.int .u8) (w0:=w) w.heap.size rfl (.tmp 11) (.tmp 18) 30 5 (.int .u8 0) 1 rfl Try.underlying30 info5 rfl (by decide) (by omega) u4 ac ((ji6) % 256) [.int .u8 ((ji6) % 256)] (fun _=>True) (fun _=>False) rfl rfl ?aP (fun _ hk=>hk.elim) ?aF ?aO ?aB ?aS ?aL ?_;(case aP=>exact rfl);(case aB=>exact (bC HB));(case aF=>exact (fun _ _=>trivial));(case aO=>exact (by (with_reducible repeat (first|apply Kd.R_alloc|apply Kd.R_drewN|apply Kd.R_drew));exact ae.out));(case aS=>exact (below_size (bC HB)));(case aL=>have:=LMc7.out;omega);intro ak w8 ho hb hg hat;rw [← Ny136.out] at ho;have ag:=aK (ho);replace HB:=aK (hb);clear ae;clear ho hb hg hat))
   go_roundg k1
   case measure=>have:=HK1.out;omega
   case rel=>exact⟨(af),(wrap64 (ab+1)),(by first|rfl|(simp;done)|(simp [*];done)),H',⟨by have:=HK1.out;omega⟩,⟨by (with_reducible repeat (first|apply Kd.R_alloc|apply Kd.R_drewN|apply Kd.R_drew));exact ag.out⟩,bV HB⟩
def datum_Put.f (k:Nat) (l0:List Int) (a1_0:Int) (a1_1:Nat) (a1_2:ByteArray):Option (List Int):=(num_Put.f k l0 a1_0).bind fun t140=>(if a1_0=1 then ((float_Bytes.f k a1_1).bind fun t143=>(if t140.length+t143.length<140737488355328 then (some (t140++t143)) else (none))) else (if a1_0=2 then ((num_PutText.f k t140 a1_2).bind fun t149=>(some t149)) else (some t140)))
theorem datum_Put.mono:∀ a0 a1 a2 a3 k,LeO (datum_Put.f k a0 a1 a2 a3) (datum_Put.f (k+1) a0 a1 a2 a3):=by
 intro a0 a1 a2 a3 k
 unfold datum_Put.f
 repeat' first
   | (with_reducible exact float_Bytes.mono _ _)
   | (with_reducible exact num_Put.mono _ _ _)
   | (with_reducible exact num_PutText.mono _ _ _)
   | (with_reducible exact LeO.refl _)
   | (with_reducible exact LeO.none _)
   | (with_reducible refine LeO.ite ?_ ?_)
   | (with_reducible refine LeO.bind ?_ (fun _=>?_))
   | exact float_Bytes.mono _ _
   | exact num_Put.mono _ _ _
   | exact num_PutText.mono _ _ _
   | exact LeO.none _
   | refine LeO.ite ?_ ?_
   | refine LeO.bind ?_ (fun _=>?_)
set_option maxHeartbeats 8000000 in
set_option maxRecDepth 100000 in
theorem datum_Put.calls (k:Nat) (P0_:Nat→Prop) (ao:Value) (l0:List Int) (ab:Int) (aj:Nat) (ak:ByteArray) (r:List Int) (w0 w:World) (hB:Below w0.heap.size w0 w) (ho0:Kd.R (Kd.int .u8) 5 w w0.heap.size P0_ ao l0) (h:datum_Put.f k l0 ab aj ak=some r) :
  Calls Try.prog 65 #[ao,.agg #[.int .i64 ab,.float .f64 aj,.string ak]] w fun e w'=>∃ v0_:Value,e = .returned (v0_)∧Kd.R (Kd.int .u8) 5 w' w0.heap.size (fun k_=>(P0_ k_∨w.heap.size≤k_)) v0_ r∧Below w0.heap.size w0 w'∧Kept w w' (fun k_=>P0_ k_):=by
 have hu54:=Try.underlying54
 have HO0:=aK (show Kd.R (Kd.int .u8) 5 w w0.heap.size (fun k_=>(P0_ k_∨w.heap.size≤k_)) ao l0 from Kd.R_mono ho0 (fun k_ hk=>(.inl hk)))
 have HK:=aK (Kept.refl w (fun k_=>P0_ k_))
 have HW0:=aK hB.size
 have HB:=aK hB
 clear hB
 have H:((num_Put.f k l0 ab).bind fun ae=>(if ab=1 then ((float_Bytes.f k aj).bind fun ag=>(if ae.length+ag.length<140737488355328 then (some (ae++ag)) else (none))) else (if ab=2 then ((num_PutText.f k ae ak).bind fun am=>(some am)) else (some ae))))=some r:=h
 clear h
 replace H:=oS H
 obtain⟨ae,A30,H⟩:=H
 replace H:(if ab=1 then ((float_Bytes.f k aj).bind fun ag=>(if ae.length+ag.length<140737488355328 then (some (ae++ag)) else (none))) else (if ab=2 then ((num_PutText.f k ae ak).bind fun am=>(some am)) else (some ae)))=some r:=H
 have A3:=aK A30
 clear A30
 by_cases c4:ab=1
 ·rw [if_pos c4] at H
  have aE:(ab == 1)=true:=beq_iff_eq.mpr c4
  have aG:(ab != 1)=false:=bne_eq_false_iff_eq.mpr c4
  clear c4
  replace H:=oS H
  obtain⟨ag,A50,H⟩:=H
  replace H:(if ae.length+ag.length<140737488355328 then (some (ae++ag)) else (none))=some r:=H
  have A5:=aK A50
  clear A50
  by_cases c6:ae.length+ag.length<140737488355328
  rotate_left
  ·rw [if_neg c6] at H
   exact absurd H (by simp)
  rw [if_pos c6] at H
  have LMc6:=aK c6
  clear c6
  obtain⟨aH,hy146⟩:∃ y_:List Int,y_=(ae++ag):=⟨_,rfl⟩
  replace H:(some aH)=some r:=by first|(rw [hy146];with_reducible exact H)|(have H2_:=(Option.bind_some _ _).symm.trans H;rw [hy146];with_reducible exact H2_)|(have H2_:=(Option.bind_some _ _).symm.trans H;with_reducible exact H2_)|with_reducible exact H|(rw [hy146];exact H)|exact H
  have Ny146:=aK hy146
  clear hy146
  obtain rfl:=Option.some.inj H
  go_enter Try.func65,Try.ntmps65
  go_wp2_with (first|((with_reducible refine gate_dst (N:=3) rfl ?_);refine box_event ?hg (N:=3) ?hd (cs:=#[.int .i64 ab,.float .f64 aj,.string ak]) (t:=54) ?hr ?_;(case hd=>rfl);(case hg=>rfl);(case hr=>first|(go_simp;done)|(go_simp;rfl));intro ai hg w7 hbox hb;have aa:=aK (hbox);have ac:=aK ((by rw [hg];exact (by first|exact HK.out.1|exact (show Kept w _ (fun k_=>P0_ k_) from by repeat (first|(with_reducible first|exact HK.out|apply Kept.alloc|apply Kept.drewN|apply Kept.drew)|exact HK.out)).1):w.heap.size≤ai));have ah:=aK ((by rw [hg];exact (below_size (bC HB)):w0.heap.size≤ai));replace HO0:=rB HO0 hb;replace HK:=aK (Kept.below (S:=(fun k_=>P0_ k_)) (by repeat (first|(with_reducible first|exact HK.out|apply Kept.alloc|apply Kept.drewN|apply Kept.drew)|exact HK.out)) hb);replace HB:=bW HB hb;clear hb hbox hg;obtain⟨bI,bJ,bM,bN,bO,bU⟩:=bf3 (w:=w7) aa;obtain⟨Ao9,co9,eo9⟩:=Kd.R_slice HO0.out;subst eo9)|((with_reducible refine gate_callee (f:=50) rfl ?_);refine gL (some 8) Try.func50 #[.slice Ao9 l0.length co9,.int .i64 ab] ?_;(with_reducible refine (num_Put.calls k (fun k_=>some k_=(.slice Ao9 l0.length co9:Value).ownBlock) (.slice Ao9 l0.length co9) l0 ab ae w0 _ ?side1 ?side2 A3.out).mono ?_);(case side1=>repeat (first|(with_reducible first|exact HB.out|apply below_alloc|apply pw_below_drewN|apply below_drew1|refine below_set ?_ ah.out)|exact HB.out));(case side2=>exact Kd.R_tight rfl HO0.out);rintro e w10 ⟨ap,rfl,ho0,hb,hkp⟩;refine⟨_,rfl,?_⟩;have af:=aK (Kd.R_mono (ok':=fun k_=>(P0_ k_∨w.heap.size≤k_)) ho0 (fun k_ hk_=>Or.elim hk_ (fun hs_=>(HO0.out.1 k_ (hs_).symm)) (fun hn_=>(.inr (Nat.le_trans (by first|exact HK.out.1|exact (show Kept w _ (fun k_=>P0_ k_) from by repeat (first|(with_reducible first|exact HK.out|apply Kept.alloc|apply Kept.drewN|apply Kept.drew|refine Kept.setCell ?_ (.inr ac.out) _)|exact HK.out)).1) hn_)))));replace aa:=aK (blk_kept (bQ aa) hkp (fun hs_=>(fun e_=>(Kd.R_ne HO0.out aa.out (by decide)) e_) hs_));replace HK:=aK (Kept.then_ (S:=(fun k_=>P0_ k_)) (by repeat (first|(with_reducible first|exact HK.out|apply Kept.alloc|apply Kept.drewN|apply Kept.drew|refine Kept.setCell ?_ (.inr ac.out) _)|exact HK.out)) hkp (fun k_ hs_=>(fun e_=>(HO0.out.1 k_ e_.symm)) hs_));replace HB:=aK (hb);clear HO0;(try clear hb);(try clear hkp);(try clear ho0);obtain⟨aU,aV,aW,aX,aY,aZ⟩:=bf3 (w:=w10) aa)|((with_reducible refine gate_callee (f:=72) rfl ?_);refine gL (some 16) Try.func72 #[.float .f64 aj] ?_;(with_reducible refine (float_Bytes.calls k aj ag _ A5.out).mono ?_);rintro e w12 ⟨bX,rfl,ho0,hb⟩;refine⟨_,rfl,?_⟩;have al:=aK (Kd.R_lower (Kd.R_new' (Kd.R_newM (M:=fun k_=>(P0_ k_∨w.heap.size≤k_)) ho0 (by first|exact HK.out.1|exact (show Kept w _ (fun k_=>P0_ k_) from by repeat (first|(with_reducible first|exact HK.out|apply Kept.alloc|apply Kept.drewN|apply Kept.drew|refine Kept.setCell ?_ (.inr ac.out) _)|exact HK.out)).1) (fun k_ h_=>.inr h_)) (Kd.R_lt (by (with_reducible repeat (first|apply Kd.R_alloc|apply Kd.R_drewN|apply Kd.R_drew));exact af.out))) (below_size (bC HB)));replace af:=rE af (Kd.R_base ho0) hb;replace aa:=bB aa hb;replace HK:=aK (Kept.below (S:=(fun k_=>P0_ k_)) (by repeat (first|(with_reducible first|exact HK.out|apply Kept.alloc|apply Kept.drewN|apply Kept.drew|refine Kept.setCell ?_ (.inr ac.out) _)|exact HK.out)) hb);replace HB:=bW HB hb;(try clear hb);(try clear hb2);(try clear hk);(try clear hi);(try clear ho0);obtain⟨aI,aJ,aM⟩:=Kd.R_slice al.out;subst aM)|((with_reducible refine gate_builtin (b:=.append) (xs:=#[.tmp 13,.tmp 16]) rfl ?_);at_builtin;refine Kd.R_append_rows (Kd.int .u8) (w0:=w0) w0.heap.size rfl (.tmp 13) (.tmp 16) 30 5 (.int .u8 0) 1 rfl Try.underlying30 info5 rfl (by decide) (by omega) ap ae ag _ _ _ (fun k_=>(P0_ k_∨w.heap.size≤k_)∧some k_≠(.slice aI ag.length aJ:Value).ownBlock) (fun _=>False) rfl rfl ?aO ?aR (fun _ _ h=>h) (fun _ h=>h.elim) ?aF ?aB ?aS ?aL ?_;(case aR=>exact sC (Kd.R_reads' al.out).2.2);(case aB=>exact (bC HB));(case aF=>exact (fun k_ hk=>⟨(.inr (Nat.le_trans (by first|exact HK.out.1|exact (show Kept w _ (fun k_=>P0_ k_) from by repeat (first|(with_reducible first|exact HK.out|apply Kept.alloc|apply Kept.drewN|apply Kept.drew|refine Kept.setCell ?_ (.inr ac.out) _)|exact HK.out)).1) hk)),Kd.fresh' (Kd.R_lt (by (with_reducible repeat (first|apply Kd.R_alloc|apply Kd.R_drewN|apply Kd.R_drew));exact al.out)) k_ hk⟩));(case aO=>exact (by (with_reducible repeat (first|apply Kd.R_alloc|apply Kd.R_drewN|apply Kd.R_drew));exact af.out));(case aS=>exact (below_size (bC HB)));(case aL=>have:=LMc6.out;omega);intro bY w13 ho hb hg hat;rw [← Ny146.out] at ho;have az:=aK (ho);replace aa:=aK (blk_grown (bQ aa) hg (Kd.R_ne af.out aa.out (by decide)));replace al:=aK (Kd.R_after (ok:=(fun k_=>(P0_ k_∨w.heap.size≤k_))) (by (with_reducible repeat (first|apply Kd.R_alloc|apply Kd.R_drewN|apply Kd.R_drew));exact Kd.R_mono al.out (fun _ hk=>⟨hk.1.1,hk.2⟩)) hg hat);replace HB:=aK (hb);replace HK:=aK (Kept.of_grown (S:=(fun k_=>P0_ k_)) hg (by repeat (first|(with_reducible first|exact HK.out|apply Kept.alloc|apply Kept.drewN|apply Kept.drew|refine Kept.setCell ?_ (.inr ac.out) _)|exact HK.out)) (fun k_ e_=>(af.out.1 k_ e_).1));clear af;clear ho hb hg hat))
  go_ret
  exact⟨_,by first|rfl|(simp [errW_none,errW_some] <;> rfl)|(simp [*,errW_none,errW_some] <;> rfl),by (with_reducible repeat (first|apply Kd.R_alloc|apply Kd.R_drewN|apply Kd.R_drew));exact Kd.R_mono az.out (fun _ hk=>hk.1),by repeat (first|(with_reducible first|exact HB.out|apply below_alloc|apply pw_below_drewN|apply below_drew1|refine below_set ?_ ah.out)|exact HB.out),by repeat (first|(with_reducible first|exact HK.out|apply Kept.alloc|apply Kept.drewN|apply Kept.drew|refine Kept.setCell ?_ (.inr ac.out) _)|exact HK.out)⟩
 rw [if_neg c4] at H
 have aE:(ab == 1)=false:=beq_eq_false_iff_ne.mpr c4
 have aG:(ab != 1)=true:=bne_iff_ne.mpr c4
 by_cases c15:ab=2
 rotate_left
 ·rw [if_neg c15] at H
  have aA:(ab == 2)=false:=beq_eq_false_iff_ne.mpr c15
  have aC:(ab != 2)=true:=bne_iff_ne.mpr c15
  obtain rfl:=Option.some.inj H
  go_enter Try.func65,Try.ntmps65
  go_wp2_with (first|((with_reducible refine gate_dst (N:=3) rfl ?_);refine box_event ?hg (N:=3) ?hd (cs:=#[.int .i64 ab,.float .f64 aj,.string ak]) (t:=54) ?hr ?_;(case hd=>rfl);(case hg=>rfl);(case hr=>first|(go_simp;done)|(go_simp;rfl));intro ai hg w24 hbox hb;have aa:=aK (hbox);have ac:=aK ((by rw [hg];exact (by first|exact HK.out.1|exact (show Kept w _ (fun k_=>P0_ k_) from by repeat (first|(with_reducible first|exact HK.out|apply Kept.alloc|apply Kept.drewN|apply Kept.drew)|exact HK.out)).1):w.heap.size≤ai));have ah:=aK ((by rw [hg];exact (below_size (bC HB)):w0.heap.size≤ai));replace HO0:=rB HO0 hb;replace HK:=aK (Kept.below (S:=(fun k_=>P0_ k_)) (by repeat (first|(with_reducible first|exact HK.out|apply Kept.alloc|apply Kept.drewN|apply Kept.drew)|exact HK.out)) hb);replace HB:=bW HB hb;clear hb hbox hg;obtain⟨ba,bb,bc,bf,bg,bh⟩:=bf3 (w:=w24) aa;obtain⟨aq,ar,aN⟩:=Kd.R_slice HO0.out;subst aN)|((with_reducible refine gate_callee (f:=50) rfl ?_);refine gL (some 8) Try.func50 #[.slice aq l0.length ar,.int .i64 ab] ?_;(with_reducible refine (num_Put.calls k (fun k_=>some k_=(.slice aq l0.length ar:Value).ownBlock) (.slice aq l0.length ar) l0 ab ae w0 _ ?side1 ?side2 A3.out).mono ?_);(case side1=>repeat (first|(with_reducible first|exact HB.out|apply below_alloc|apply pw_below_drewN|apply below_drew1|refine below_set ?_ ah.out)|exact HB.out));(case side2=>exact Kd.R_tight rfl HO0.out);rintro e w27 ⟨ap,rfl,ho0,hb,hkp⟩;refine⟨_,rfl,?_⟩;have af:=aK (Kd.R_mono (ok':=fun k_=>(P0_ k_∨w.heap.size≤k_)) ho0 (fun k_ hk_=>Or.elim hk_ (fun hs_=>(HO0.out.1 k_ (hs_).symm)) (fun hn_=>(.inr (Nat.le_trans (by first|exact HK.out.1|exact (show Kept w _ (fun k_=>P0_ k_) from by repeat (first|(with_reducible first|exact HK.out|apply Kept.alloc|apply Kept.drewN|apply Kept.drew|refine Kept.setCell ?_ (.inr ac.out) _)|exact HK.out)).1) hn_)))));replace aa:=aK (blk_kept (bQ aa) hkp (fun hs_=>(fun e_=>(Kd.R_ne HO0.out aa.out (by decide)) e_) hs_));replace HK:=aK (Kept.then_ (S:=(fun k_=>P0_ k_)) (by repeat (first|(with_reducible first|exact HK.out|apply Kept.alloc|apply Kept.drewN|apply Kept.drew|refine Kept.setCell ?_ (.inr ac.out) _)|exact HK.out)) hkp (fun k_ hs_=>(fun e_=>(HO0.out.1 k_ e_.symm)) hs_));replace HB:=aK (hb);clear HO0;(try clear hb);(try clear hkp);(try clear ho0);obtain⟨bi,bj,bk,bl,bm,bn⟩:=bf3 (w:=w27) aa))
  go_ret
  exact⟨_,by first|rfl|(simp [errW_none,errW_some] <;> rfl)|(simp [*,errW_none,errW_some] <;> rfl),by (with_reducible repeat (first|apply Kd.R_alloc|apply Kd.R_drewN|apply Kd.R_drew));exact af.out,by repeat (first|(with_reducible first|exact HB.out|apply below_alloc|apply pw_below_drewN|apply below_drew1|refine below_set ?_ ah.out)|exact HB.out),by repeat (first|(with_reducible first|exact HK.out|apply Kept.alloc|apply Kept.drewN|apply Kept.drew|refine Kept.setCell ?_ (.inr ac.out) _)|exact HK.out)⟩
 rw [if_pos c15] at H
 have aA:(ab == 2)=true:=beq_iff_eq.mpr c15
 have aC:(ab != 2)=false:=bne_eq_false_iff_eq.mpr c15
 clear c15
 replace H:=oS H
 obtain⟨am,ay,H⟩:=H
 replace H:(some am)=some r:=H
 have A16:=aK ay
 clear ay
 obtain rfl:=Option.some.inj H
 go_enter Try.func65,Try.ntmps65
 go_wp2_with (first|((with_reducible refine gate_dst (N:=3) rfl ?_);refine box_event ?hg (N:=3) ?hd (cs:=#[.int .i64 ab,.float .f64 aj,.string ak]) (t:=54) ?hr ?_;(case hd=>rfl);(case hg=>rfl);(case hr=>first|(go_simp;done)|(go_simp;rfl));intro ai hg w17 hbox hb;have aa:=aK (hbox);have ac:=aK ((by rw [hg];exact (by first|exact HK.out.1|exact (show Kept w _ (fun k_=>P0_ k_) from by repeat (first|(with_reducible first|exact HK.out|apply Kept.alloc|apply Kept.drewN|apply Kept.drew)|exact HK.out)).1):w.heap.size≤ai));have ah:=aK ((by rw [hg];exact (below_size (bC HB)):w0.heap.size≤ai));replace HO0:=rB HO0 hb;replace HK:=aK (Kept.below (S:=(fun k_=>P0_ k_)) (by repeat (first|(with_reducible first|exact HK.out|apply Kept.alloc|apply Kept.drewN|apply Kept.drew)|exact HK.out)) hb);replace HB:=bW HB hb;clear hb hbox hg;obtain⟨bo,bp,bq,br,bs,bu⟩:=bf3 (w:=w17) aa;obtain⟨au,av,aQ⟩:=Kd.R_slice HO0.out;subst aQ)|((with_reducible refine gate_callee (f:=50) rfl ?_);refine gL (some 8) Try.func50 #[.slice au l0.length av,.int .i64 ab] ?_;(with_reducible refine (num_Put.calls k (fun k_=>some k_=(.slice au l0.length av:Value).ownBlock) (.slice au l0.length av) l0 ab ae w0 _ ?side1 ?side2 A3.out).mono ?_);(case side1=>repeat (first|(with_reducible first|exact HB.out|apply below_alloc|apply pw_below_drewN|apply below_drew1|refine below_set ?_ ah.out)|exact HB.out));(case side2=>exact Kd.R_tight rfl HO0.out);rintro e w20 ⟨ap,rfl,ho0,hb,hkp⟩;refine⟨_,rfl,?_⟩;have af:=aK (Kd.R_mono (ok':=fun k_=>(P0_ k_∨w.heap.size≤k_)) ho0 (fun k_ hk_=>Or.elim hk_ (fun hs_=>(HO0.out.1 k_ (hs_).symm)) (fun hn_=>(.inr (Nat.le_trans (by first|exact HK.out.1|exact (show Kept w _ (fun k_=>P0_ k_) from by repeat (first|(with_reducible first|exact HK.out|apply Kept.alloc|apply Kept.drewN|apply Kept.drew|refine Kept.setCell ?_ (.inr ac.out) _)|exact HK.out)).1) hn_)))));replace aa:=aK (blk_kept (bQ aa) hkp (fun hs_=>(fun e_=>(Kd.R_ne HO0.out aa.out (by decide)) e_) hs_));replace HK:=aK (Kept.then_ (S:=(fun k_=>P0_ k_)) (by repeat (first|(with_reducible first|exact HK.out|apply Kept.alloc|apply Kept.drewN|apply Kept.drew|refine Kept.setCell ?_ (.inr ac.out) _)|exact HK.out)) hkp (fun k_ hs_=>(fun e_=>(HO0.out.1 k_ e_.symm)) hs_));replace HB:=aK (hb);clear HO0;(try clear hb);(try clear hkp);(try clear ho0);obtain⟨bv,bw,bx,bA,bD,bF⟩:=bf3 (w:=w20) aa;obtain⟨aw,ax,aT⟩:=Kd.R_slice af.out;subst aT)|((with_reducible refine gate_callee (f:=52) rfl ?_);refine gL (some 23) Try.func52 #[.slice aw ae.length ax,.string ak] ?_;(with_reducible refine (num_PutText.calls k (fun k_=>some k_=(.slice aw ae.length ax:Value).ownBlock) (.slice aw ae.length ax) ae ak am w0 _ ?side1 ?side2 A16.out).mono ?_);(case side1=>repeat (first|(with_reducible first|exact HB.out|apply below_alloc|apply pw_below_drewN|apply below_drew1|refine below_set ?_ ah.out)|exact HB.out));(case side2=>exact Kd.R_tight rfl af.out);rintro e w23 ⟨b8,rfl,ho0,hb,hkp⟩;refine⟨_,rfl,?_⟩;have aD:=aK (Kd.R_mono (ok':=fun k_=>(P0_ k_∨w.heap.size≤k_)) ho0 (fun k_ hk_=>Or.elim hk_ (fun hs_=>(af.out.1 k_ (hs_).symm)) (fun hn_=>(.inr (Nat.le_trans (by first|exact HK.out.1|exact (show Kept w _ (fun k_=>P0_ k_) from by repeat (first|(with_reducible first|exact HK.out|apply Kept.alloc|apply Kept.drewN|apply Kept.drew|refine Kept.setCell ?_ (.inr ac.out) _)|exact HK.out)).1) hn_)))));replace aa:=aK (blk_kept (bQ aa) hkp (fun hs_=>(fun e_=>(Kd.R_ne af.out aa.out (by decide)) e_) hs_));replace HK:=aK (Kept.then_ (S:=(fun k_=>P0_ k_)) (by repeat (first|(with_reducible first|exact HK.out|apply Kept.alloc|apply Kept.drewN|apply Kept.drew|refine Kept.setCell ?_ (.inr ac.out) _)|exact HK.out)) hkp (fun k_ hs_=>(fun e_=>(af.out.1 k_ e_.symm)) hs_));replace HB:=aK (hb);clear af;(try clear hb);(try clear hkp);(try clear ho0)))
 go_ret
 exact⟨_,by first|rfl|(simp [errW_none,errW_some] <;> rfl)|(simp [*,errW_none,errW_some] <;> rfl),by (with_reducible repeat (first|apply Kd.R_alloc|apply Kd.R_drewN|apply Kd.R_drew));exact aD.out,by repeat (first|(with_reducible first|exact HB.out|apply below_alloc|apply pw_below_drewN|apply below_drew1|refine below_set ?_ ah.out)|exact HB.out),by repeat (first|(with_reducible first|exact HK.out|apply Kept.alloc|apply Kept.drewN|apply Kept.drew|refine Kept.setCell ?_ (.inr ac.out) _)|exact HK.out)⟩
def cell_Put.f (k:Nat) (l0:List Int) (a1_0:ByteArray) (a1_1:Int) (a1_2:Nat) (a1_3:ByteArray) (a1_4:Int) (a1_5:Int) (a1_6:Nat) (a1_7:ByteArray):Option (List Int):=(num_PutText.f k l0 a1_0).bind fun t153=>((datum_Put.f k t153 a1_1 a1_2 a1_3).bind fun t156=>((num_Put.f k t156 a1_4).bind fun t159=>(if a1_4>0 then ((datum_Put.f k t159 a1_5 a1_6 a1_7).bind fun t162=>(some t162)) else (some t159))))
theorem cell_Put.mono:∀ a0 a1 a2 a3 a4 a5 a6 a7 a8 k,LeO (cell_Put.f k a0 a1 a2 a3 a4 a5 a6 a7 a8) (cell_Put.f (k+1) a0 a1 a2 a3 a4 a5 a6 a7 a8):=by
 intro a0 a1 a2 a3 a4 a5 a6 a7 a8 k
 unfold cell_Put.f
 repeat' first
   | (with_reducible exact datum_Put.mono _ _ _ _ _)
   | (with_reducible exact num_Put.mono _ _ _)
   | (with_reducible exact num_PutText.mono _ _ _)
   | (with_reducible exact LeO.refl _)
   | (with_reducible exact LeO.none _)
   | (with_reducible refine LeO.ite ?_ ?_)
   | (with_reducible refine LeO.bind ?_ (fun _=>?_))
   | exact datum_Put.mono _ _ _ _ _
   | exact num_Put.mono _ _ _
   | exact num_PutText.mono _ _ _
   | exact LeO.none _
   | refine LeO.ite ?_ ?_
   | refine LeO.bind ?_ (fun _=>?_)
def cell_Put.T1:Bool × List (List Nat × List Nat):=(true,[([],[]),([],[]),([1],[1]),([0,2],[0,2]),([],[]),([4],[4]),([3,5,3],[3,5]),([],[]),([7],[7]),([6,8,6],[6,8]),([9,9,0,1,2,3,4,5,6,7,8,9],[0,9])])
def cell_Put.B1:List Nat:=[0,0,2,7,0,16,63,0,128,511,1023]
theorem cell_Put.tab1:rtab .any (opsOf Try.f51 1)=cell_Put.T1:=by kernel_rfl
theorem cell_Put.bits1:waitsOk cell_Put.T1.2 cell_Put.B1=true:=by kernel_rfl
set_option maxHeartbeats 8000000 in
set_option maxRecDepth 100000 in
theorem cell_Put.calls (k:Nat) (P0_:Nat→Prop) (ax:Value) (l0:List Int) (au:ByteArray) (al:Int) (am:Nat) (ao:ByteArray) (ae:Int) (ap:Int) (aq:Nat) (ar:ByteArray) (r:List Int) (w0 w:World) (hB:Below w0.heap.size w0 w) (ho0:Kd.R (Kd.int .u8) 5 w w0.heap.size P0_ ax l0) (h:cell_Put.f k l0 au al am ao ae ap aq ar=some r) :
  Calls Try.prog 51 #[ax,.agg #[.string au,.int .i64 al,.float .f64 am,.string ao,.int .i64 ae,.int .i64 ap,.float .f64 aq,.string ar]] w fun e w'=>∃ v0_:Value,e = .returned (v0_)∧Kd.R (Kd.int .u8) 5 w' w0.heap.size (fun k_=>(P0_ k_∨w.heap.size≤k_)) v0_ r∧Below w0.heap.size w0 w'∧Kept w w' (fun k_=>P0_ k_):=by
 have hu62:=Try.underlying62
 have hu54:=Try.underlying54
 have HO0:=aK (show Kd.R (Kd.int .u8) 5 w w0.heap.size (fun k_=>(P0_ k_∨w.heap.size≤k_)) ax l0 from Kd.R_mono ho0 (fun k_ hk=>(.inl hk)))
 have HK:=aK (Kept.refl w (fun k_=>P0_ k_))
 have HW0:=aK hB.size
 have HB:=aK hB
 clear hB
 have H:((num_PutText.f k l0 au).bind fun aj=>((datum_Put.f k aj al am ao).bind fun ai=>((num_Put.f k ai ae).bind fun af=>(if ae>0 then ((datum_Put.f k af ap aq ar).bind fun aw=>(some aw)) else (some af)))))=some r:=h
 clear h
 replace H:=oS H
 obtain⟨aj,A30,H⟩:=H
 replace H:((datum_Put.f k aj al am ao).bind fun ai=>((num_Put.f k ai ae).bind fun af=>(if ae>0 then ((datum_Put.f k af ap aq ar).bind fun aw=>(some aw)) else (some af))))=some r:=H
 have A3:=aK A30
 clear A30
 replace H:=oS H
 obtain⟨ai,A40,H⟩:=H
 replace H:((num_Put.f k ai ae).bind fun af=>(if ae>0 then ((datum_Put.f k af ap aq ar).bind fun aw=>(some aw)) else (some af)))=some r:=H
 have A4:=aK A40
 clear A40
 replace H:=oS H
 obtain⟨af,A50,H⟩:=H
 replace H:(if ae>0 then ((datum_Put.f k af ap aq ar).bind fun aw=>(some aw)) else (some af))=some r:=H
 have A5:=aK A50
 clear A50
 by_cases c6:ae>0
 rotate_left
 ·rw [if_neg c6] at H
  have bb:decide (0<ae)=false:=decide_eq_false c6
  clear c6
  obtain rfl:=Option.some.inj H
  go_enter Try.func51,Try.ntmps51
  try go_wp2_with (first|((with_reducible refine gate_dst (N:=3) rfl ?_);refine box_event ?hg (N:=3) ?hd (cs:=#[.string au,.int .i64 al,.float .f64 am,.string ao,.int .i64 ae,.int .i64 ap,.float .f64 aq,.string ar]) (t:=62) ?hr ?_;(case hd=>rfl);(case hg=>rfl);(case hr=>first|(go_simp;done)|(go_simp;rfl));intro ab hg w19 hbox hb;have aa:=aK (hbox);have ac:=aK ((by rw [hg];exact (by first|exact HK.out.1|exact (show Kept w _ (fun k_=>P0_ k_) from by repeat (first|(with_reducible first|exact HK.out|apply Kept.alloc|apply Kept.drewN|apply Kept.drew)|exact HK.out)).1):w.heap.size≤ab));have ak:=aK ((by rw [hg];exact (below_size (bC HB)):w0.heap.size≤ab));replace HO0:=rB HO0 hb;replace HK:=aK (Kept.below (S:=(fun k_=>P0_ k_)) (by repeat (first|(with_reducible first|exact HK.out|apply Kept.alloc|apply Kept.drewN|apply Kept.drew)|exact HK.out)) hb);replace HB:=bW HB hb;clear hb hbox hg))
  replace HO0:=aK (Kd.R_drew HO0.out)
  replace aa:=aK (blk_drew aa.out)
  replace HK:=aK (Kept.drew HK.out)
  replace HB:=aK (below_drew1 HB.out)
  obtain⟨ay,az,aU⟩:=Kd.R_slice HO0.out
  (first|subst aU|(injection aU with f1_ f2_ f3_;have f4_:=f1_.symm;have f5_:=f3_.symm;clear f1_ f2_ f3_;subst f4_;subst f5_))
  refine start_ (n:=11) (S:=fun w'=>w'.cell? ⟨ab,0,none⟩=some (.string au)∧w'.cell? ⟨ab,1,none⟩=some (.int .i64 al)∧w'.cell? ⟨ab,2,none⟩=some (.float .f64 am)∧w'.cell? ⟨ab,3,none⟩=some (.string ao)∧w'.cell? ⟨ab,4,none⟩=some (.int .i64 ae)∧w'.cell? ⟨ab,5,none⟩=some (.int .i64 ap)∧w'.cell? ⟨ab,6,none⟩=some (.float .f64 aq)∧w'.cell? ⟨ab,7,none⟩=some (.string ar)) (ds:=[]) #[false,false,false,false,false,false,false,false,false,false,false] (by kernel_rfl) rfl rfl (be8 aa) (fun hHeld=>?_);refine with_tabW cell_Put.tab1 cell_Put.bits1 (fun HT_ HW_=>?_)
  generalize w19.drew=w20 at HO0 aa HK HB hHeld ⊢
  refine pA 0 5 HT_ ?_
  refine pA 1 6 HT_ ?_
  refine pA 4 9 HT_ ?_
  refine pA 7 12 HT_ ?_
  refine tA 2 7 HT_ HW_ hHeld ?_ (hy:=by rintro w' ⟨s0,s1,s2,s3,s4,s5,s6,s7⟩;go_simp;with_reducible rfl)
  refine tA 5 10 HT_ HW_ hHeld ?_ (hy:=by rintro w' ⟨s0,s1,s2,s3,s4,s5,s6,s7⟩;go_simp;with_reducible rfl)
  refine tA 8 13 HT_ HW_ hHeld ?_ (hy:=by rintro w' ⟨s0,s1,s2,s3,s4,s5,s6,s7⟩;go_simp;with_reducible rfl)
  refine oA 3 (some 8) HT_ (fun K hK=>?_)
  refine goes_ Try.func52 (by kernel_rfl) rfl #[.slice ay l0.length az,.string au] (by rfl) rfl rfl (by (try simp only [List.map_toArray,List.map_cons,List.map_nil]);first|done|rfl|(simp only [List.length_drop,List.length_take];rfl)) ?_
  with_reducible refine (num_PutText.calls k (fun k_=>some k_=(.slice ay l0.length az:Value).ownBlock) (.slice ay l0.length az) l0 au aj w0 _ ?side1 ?side2 A3.out).mono ?_
  (case side1=>repeat (first|(with_reducible first|exact HB.out|apply below_alloc|apply pw_below_drewN|apply below_drew1|refine below_set ?_ ak.out)|exact HB.out))
  (case side2=>exact Kd.R_tight rfl HO0.out)
  rintro e w22 ⟨bc,rfl,ho0,hb,hkp⟩
  refine⟨_,rfl,?_⟩
  have ag:=aK (Kd.R_mono (ok':=fun k_=>(P0_ k_∨w.heap.size≤k_)) ho0 (fun k_ hk_=>Or.elim hk_ (fun hs_=>(HO0.out.1 k_ (hs_).symm)) (fun hn_=>(.inr (Nat.le_trans (by first|exact HK.out.1|exact (show Kept w _ (fun k_=>P0_ k_) from by repeat (first|(with_reducible first|exact HK.out|apply Kept.alloc|apply Kept.drewN|apply Kept.drew|refine Kept.setCell ?_ (.inr ac.out) _)|exact HK.out)).1) hn_)))))
  replace aa:=aK (blk_kept (bQ aa) hkp (fun hs_=>(fun e_=>(Kd.R_ne HO0.out aa.out (by decide)) e_) hs_))
  replace HK:=aK (Kept.then_ (S:=(fun k_=>P0_ k_)) (by repeat (first|(with_reducible first|exact HK.out|apply Kept.alloc|apply Kept.drewN|apply Kept.drew|refine Kept.setCell ?_ (.inr ac.out) _)|exact HK.out)) hkp (fun k_ hs_=>(fun e_=>(HO0.out.1 k_ e_.symm)) hs_))
  replace HB:=aK (hb)
  clear HO0
  (try clear hb)
  (try clear hkp)
  (try clear ho0)
  obtain⟨aA,aC,aV⟩:=Kd.R_slice ag.out
  (first|subst aV|(injection aV with f1_ f2_ f3_;have f4_:=f1_.symm;have f5_:=f3_.symm;clear f1_ f2_ f3_;subst f4_;subst f5_))
  refine hK.out _ _ (be8 aa) (fun hHeld=>?_)
  clear hK K
  refine norm_ (a':=?_) ?_ ?_
  rotate_left
  ·show Act.put _ (some 8) _=_
   simp only [Act.put,List.setIfInBounds_toArray,List.set_cons_zero,List.set_cons_succ,i64_w,i32_w]
   rfl
  refine oA 6 (some 11) HT_ (fun K hK=>?_)
  refine goes_ Try.func65 (by kernel_rfl) rfl #[.slice aA aj.length aC,.agg #[.int .i64 al,.float .f64 am,.string ao]] (by rfl) rfl rfl (by (try simp only [List.map_toArray,List.map_cons,List.map_nil]);first|done|rfl|(simp only [List.length_drop,List.length_take];rfl)) ?_
  with_reducible refine (datum_Put.calls k (fun k_=>some k_=(.slice aA aj.length aC:Value).ownBlock) (.slice aA aj.length aC) aj al am ao ai w0 _ ?side1 ?side2 A4.out).mono ?_
  (case side1=>repeat (first|(with_reducible first|exact HB.out|apply below_alloc|apply pw_below_drewN|apply below_drew1|refine below_set ?_ ak.out)|exact HB.out))
  (case side2=>exact Kd.R_tight rfl ag.out)
  rintro e w24 ⟨bf,rfl,ho0,hb,hkp⟩
  refine⟨_,rfl,?_⟩
  have ah:=aK (Kd.R_mono (ok':=fun k_=>(P0_ k_∨w.heap.size≤k_)) ho0 (fun k_ hk_=>Or.elim hk_ (fun hs_=>(ag.out.1 k_ (hs_).symm)) (fun hn_=>(.inr (Nat.le_trans (by first|exact HK.out.1|exact (show Kept w _ (fun k_=>P0_ k_) from by repeat (first|(with_reducible first|exact HK.out|apply Kept.alloc|apply Kept.drewN|apply Kept.drew|refine Kept.setCell ?_ (.inr ac.out) _)|exact HK.out)).1) hn_)))))
  replace aa:=aK (blk_kept (bQ aa) hkp (fun hs_=>(fun e_=>(Kd.R_ne ag.out aa.out (by decide)) e_) hs_))
  replace HK:=aK (Kept.then_ (S:=(fun k_=>P0_ k_)) (by repeat (first|(with_reducible first|exact HK.out|apply Kept.alloc|apply Kept.drewN|apply Kept.drew|refine Kept.setCell ?_ (.inr ac.out) _)|exact HK.out)) hkp (fun k_ hs_=>(fun e_=>(ag.out.1 k_ e_.symm)) hs_))
  replace HB:=aK (hb)
  clear ag
  (try clear hb)
  (try clear hkp)
  (try clear ho0)
  obtain⟨aD,aE,aW⟩:=Kd.R_slice ah.out
  (first|subst aW|(injection aW with f1_ f2_ f3_;have f4_:=f1_.symm;have f5_:=f3_.symm;clear f1_ f2_ f3_;subst f4_;subst f5_))
  refine hK.out _ _ (be8 aa) (fun hHeld=>?_)
  clear hK K
  refine norm_ (a':=?_) ?_ ?_
  rotate_left
  ·show Act.put _ (some 11) _=_
   simp only [Act.put,List.setIfInBounds_toArray,List.set_cons_zero,List.set_cons_succ,i64_w,i32_w]
   rfl
  refine oA 9 (some 14) HT_ (fun K hK=>?_)
  refine goes_ Try.func50 (by kernel_rfl) rfl #[.slice aD ai.length aE,.int .i64 ae] (by rfl) rfl rfl (by (try simp only [List.map_toArray,List.map_cons,List.map_nil]);first|done|rfl|(simp only [List.length_drop,List.length_take];rfl)) ?_
  with_reducible refine (num_Put.calls k (fun k_=>some k_=(.slice aD ai.length aE:Value).ownBlock) (.slice aD ai.length aE) ai ae af w0 _ ?side1 ?side2 A5.out).mono ?_
  (case side1=>repeat (first|(with_reducible first|exact HB.out|apply below_alloc|apply pw_below_drewN|apply below_drew1|refine below_set ?_ ak.out)|exact HB.out))
  (case side2=>exact Kd.R_tight rfl ah.out)
  rintro e w26 ⟨bg,rfl,ho0,hb,hkp⟩
  refine⟨_,rfl,?_⟩
  have av:=aK (Kd.R_mono (ok':=fun k_=>(P0_ k_∨w.heap.size≤k_)) ho0 (fun k_ hk_=>Or.elim hk_ (fun hs_=>(ah.out.1 k_ (hs_).symm)) (fun hn_=>(.inr (Nat.le_trans (by first|exact HK.out.1|exact (show Kept w _ (fun k_=>P0_ k_) from by repeat (first|(with_reducible first|exact HK.out|apply Kept.alloc|apply Kept.drewN|apply Kept.drew|refine Kept.setCell ?_ (.inr ac.out) _)|exact HK.out)).1) hn_)))))
  replace aa:=aK (blk_kept (bQ aa) hkp (fun hs_=>(fun e_=>(Kd.R_ne ah.out aa.out (by decide)) e_) hs_))
  replace HK:=aK (Kept.then_ (S:=(fun k_=>P0_ k_)) (by repeat (first|(with_reducible first|exact HK.out|apply Kept.alloc|apply Kept.drewN|apply Kept.drew|refine Kept.setCell ?_ (.inr ac.out) _)|exact HK.out)) hkp (fun k_ hs_=>(fun e_=>(ah.out.1 k_ e_.symm)) hs_))
  replace HB:=aK (hb)
  clear ah
  (try clear hb)
  (try clear hkp)
  (try clear ho0)
  refine hK.out _ _ (be8 aa) (fun hHeld=>?_)
  clear hK K
  refine norm_ (a':=?_) ?_ ?_
  rotate_left
  ·show Act.put _ (some 14) _=_
   simp only [Act.put,List.setIfInBounds_toArray,List.set_cons_zero,List.set_cons_succ,i64_w,i32_w]
   rfl
  refine pA 10 0 HT_ ?_
  refine done_ (done_of HT_.out (by kernel_rfl)) ?_
  obtain⟨bi,bj,bk,bl,bm,bn,bo,bp,bq,br,bs,bu,bv,bw,bx,bA⟩:=bf8 (w:=w26) aa
  try go_wp2
  go_ret
  exact⟨_,by first|rfl|(simp [errW_none,errW_some] <;> rfl)|(simp [*,errW_none,errW_some] <;> rfl),by (with_reducible repeat (first|apply Kd.R_alloc|apply Kd.R_drewN|apply Kd.R_drew));exact av.out,by repeat (first|(with_reducible first|exact HB.out|apply below_alloc|apply pw_below_drewN|apply below_drew1|refine below_set ?_ ak.out)|exact HB.out),by repeat (first|(with_reducible first|exact HK.out|apply Kept.alloc|apply Kept.drewN|apply Kept.drew|refine Kept.setCell ?_ (.inr ac.out) _)|exact HK.out)⟩
 rw [if_pos c6] at H
 have bb:decide (0<ae)=true:=decide_eq_true c6
 clear c6
 replace H:=oS H
 obtain⟨aw,A70,H⟩:=H
 replace H:(some aw)=some r:=H
 have A7:=aK A70
 clear A70
 obtain rfl:=Option.some.inj H
 go_enter Try.func51,Try.ntmps51
 try go_wp2_with (first|((with_reducible refine gate_dst (N:=3) rfl ?_);refine box_event ?hg (N:=3) ?hd (cs:=#[.string au,.int .i64 al,.float .f64 am,.string ao,.int .i64 ae,.int .i64 ap,.float .f64 aq,.string ar]) (t:=62) ?hr ?_;(case hd=>rfl);(case hg=>rfl);(case hr=>first|(go_simp;done)|(go_simp;rfl));intro ab hg w8 hbox hb;have aa:=aK (hbox);have ac:=aK ((by rw [hg];exact (by first|exact HK.out.1|exact (show Kept w _ (fun k_=>P0_ k_) from by repeat (first|(with_reducible first|exact HK.out|apply Kept.alloc|apply Kept.drewN|apply Kept.drew)|exact HK.out)).1):w.heap.size≤ab));have ak:=aK ((by rw [hg];exact (below_size (bC HB)):w0.heap.size≤ab));replace HO0:=rB HO0 hb;replace HK:=aK (Kept.below (S:=(fun k_=>P0_ k_)) (by repeat (first|(with_reducible first|exact HK.out|apply Kept.alloc|apply Kept.drewN|apply Kept.drew)|exact HK.out)) hb);replace HB:=bW HB hb;clear hb hbox hg))
 replace HO0:=aK (Kd.R_drew HO0.out)
 replace aa:=aK (blk_drew aa.out)
 replace HK:=aK (Kept.drew HK.out)
 replace HB:=aK (below_drew1 HB.out)
 obtain⟨aG,aH,aX⟩:=Kd.R_slice HO0.out
 (first|subst aX|(injection aX with f1_ f2_ f3_;have f4_:=f1_.symm;have f5_:=f3_.symm;clear f1_ f2_ f3_;subst f4_;subst f5_))
 refine start_ (n:=11) (S:=fun w'=>w'.cell? ⟨ab,0,none⟩=some (.string au)∧w'.cell? ⟨ab,1,none⟩=some (.int .i64 al)∧w'.cell? ⟨ab,2,none⟩=some (.float .f64 am)∧w'.cell? ⟨ab,3,none⟩=some (.string ao)∧w'.cell? ⟨ab,4,none⟩=some (.int .i64 ae)∧w'.cell? ⟨ab,5,none⟩=some (.int .i64 ap)∧w'.cell? ⟨ab,6,none⟩=some (.float .f64 aq)∧w'.cell? ⟨ab,7,none⟩=some (.string ar)) (ds:=[]) #[false,false,false,false,false,false,false,false,false,false,false] (by kernel_rfl) rfl rfl (be8 aa) (fun hHeld=>?_);refine with_tabW cell_Put.tab1 cell_Put.bits1 (fun HT_ HW_=>?_)
 generalize w8.drew=w9 at HO0 aa HK HB hHeld ⊢
 refine pA 0 5 HT_ ?_
 refine pA 1 6 HT_ ?_
 refine pA 4 9 HT_ ?_
 refine pA 7 12 HT_ ?_
 refine tA 2 7 HT_ HW_ hHeld ?_ (hy:=by rintro w' ⟨s0,s1,s2,s3,s4,s5,s6,s7⟩;go_simp;with_reducible rfl)
 refine tA 5 10 HT_ HW_ hHeld ?_ (hy:=by rintro w' ⟨s0,s1,s2,s3,s4,s5,s6,s7⟩;go_simp;with_reducible rfl)
 refine tA 8 13 HT_ HW_ hHeld ?_ (hy:=by rintro w' ⟨s0,s1,s2,s3,s4,s5,s6,s7⟩;go_simp;with_reducible rfl)
 refine oA 3 (some 8) HT_ (fun K hK=>?_)
 refine goes_ Try.func52 (by kernel_rfl) rfl #[.slice aG l0.length aH,.string au] (by rfl) rfl rfl (by (try simp only [List.map_toArray,List.map_cons,List.map_nil]);first|done|rfl|(simp only [List.length_drop,List.length_take];rfl)) ?_
 with_reducible refine (num_PutText.calls k (fun k_=>some k_=(.slice aG l0.length aH:Value).ownBlock) (.slice aG l0.length aH) l0 au aj w0 _ ?side1 ?side2 A3.out).mono ?_
 (case side1=>repeat (first|(with_reducible first|exact HB.out|apply below_alloc|apply pw_below_drewN|apply below_drew1|refine below_set ?_ ak.out)|exact HB.out))
 (case side2=>exact Kd.R_tight rfl HO0.out)
 rintro e w11 ⟨bc,rfl,ho0,hb,hkp⟩
 refine⟨_,rfl,?_⟩
 have ag:=aK (Kd.R_mono (ok':=fun k_=>(P0_ k_∨w.heap.size≤k_)) ho0 (fun k_ hk_=>Or.elim hk_ (fun hs_=>(HO0.out.1 k_ (hs_).symm)) (fun hn_=>(.inr (Nat.le_trans (by first|exact HK.out.1|exact (show Kept w _ (fun k_=>P0_ k_) from by repeat (first|(with_reducible first|exact HK.out|apply Kept.alloc|apply Kept.drewN|apply Kept.drew|refine Kept.setCell ?_ (.inr ac.out) _)|exact HK.out)).1) hn_)))))
 replace aa:=aK (blk_kept (bQ aa) hkp (fun hs_=>(fun e_=>(Kd.R_ne HO0.out aa.out (by decide)) e_) hs_))
 replace HK:=aK (Kept.then_ (S:=(fun k_=>P0_ k_)) (by repeat (first|(with_reducible first|exact HK.out|apply Kept.alloc|apply Kept.drewN|apply Kept.drew|refine Kept.setCell ?_ (.inr ac.out) _)|exact HK.out)) hkp (fun k_ hs_=>(fun e_=>(HO0.out.1 k_ e_.symm)) hs_))
 replace HB:=aK (hb)
 clear HO0
 (try clear hb)
 (try clear hkp)
 (try clear ho0)
 obtain⟨aI,aJ,aY⟩:=Kd.R_slice ag.out
 (first|subst aY|(injection aY with f1_ f2_ f3_;have f4_:=f1_.symm;have f5_:=f3_.symm;clear f1_ f2_ f3_;subst f4_;subst f5_))
 refine hK.out _ _ (be8 aa) (fun hHeld=>?_)
 clear hK K
 refine norm_ (a':=?_) ?_ ?_
 rotate_left
 ·show Act.put _ (some 8) _=_
  simp only [Act.put,List.setIfInBounds_toArray,List.set_cons_zero,List.set_cons_succ,i64_w,i32_w]
  rfl
 refine oA 6 (some 11) HT_ (fun K hK=>?_)
 refine goes_ Try.func65 (by kernel_rfl) rfl #[.slice aI aj.length aJ,.agg #[.int .i64 al,.float .f64 am,.string ao]] (by rfl) rfl rfl (by (try simp only [List.map_toArray,List.map_cons,List.map_nil]);first|done|rfl|(simp only [List.length_drop,List.length_take];rfl)) ?_
 with_reducible refine (datum_Put.calls k (fun k_=>some k_=(.slice aI aj.length aJ:Value).ownBlock) (.slice aI aj.length aJ) aj al am ao ai w0 _ ?side1 ?side2 A4.out).mono ?_
 (case side1=>repeat (first|(with_reducible first|exact HB.out|apply below_alloc|apply pw_below_drewN|apply below_drew1|refine below_set ?_ ak.out)|exact HB.out))
 (case side2=>exact Kd.R_tight rfl ag.out)
 rintro e w13 ⟨bf,rfl,ho0,hb,hkp⟩
 refine⟨_,rfl,?_⟩
 have ah:=aK (Kd.R_mono (ok':=fun k_=>(P0_ k_∨w.heap.size≤k_)) ho0 (fun k_ hk_=>Or.elim hk_ (fun hs_=>(ag.out.1 k_ (hs_).symm)) (fun hn_=>(.inr (Nat.le_trans (by first|exact HK.out.1|exact (show Kept w _ (fun k_=>P0_ k_) from by repeat (first|(with_reducible first|exact HK.out|apply Kept.alloc|apply Kept.drewN|apply Kept.drew|refine Kept.setCell ?_ (.inr ac.out) _)|exact HK.out)).1) hn_)))))
 replace aa:=aK (blk_kept (bQ aa) hkp (fun hs_=>(fun e_=>(Kd.R_ne ag.out aa.out (by decide)) e_) hs_))
 replace HK:=aK (Kept.then_ (S:=(fun k_=>P0_ k_)) (by repeat (first|(with_reducible first|exact HK.out|apply Kept.alloc|apply Kept.drewN|apply Kept.drew|refine Kept.setCell ?_ (.inr ac.out) _)|exact HK.out)) hkp (fun k_ hs_=>(fun e_=>(ag.out.1 k_ e_.symm)) hs_))
 replace HB:=aK (hb)
 clear ag
 (try clear hb)
 (try clear hkp)
 (try clear ho0)
 obtain⟨aM,aN,aZ⟩:=Kd.R_slice ah.out
 (first|subst aZ|(injection aZ with f1_ f2_ f3_;have f4_:=f1_.symm;have f5_:=f3_.symm;clear f1_ f2_ f3_;subst f4_;subst f5_))
 refine hK.out _ _ (be8 aa) (fun hHeld=>?_)
 clear hK K
 refine norm_ (a':=?_) ?_ ?_
 rotate_left
 ·show Act.put _ (some 11) _=_
  simp only [Act.put,List.setIfInBounds_toArray,List.set_cons_zero,List.set_cons_succ,i64_w,i32_w]
  rfl
 refine oA 9 (some 14) HT_ (fun K hK=>?_)
 refine goes_ Try.func50 (by kernel_rfl) rfl #[.slice aM ai.length aN,.int .i64 ae] (by rfl) rfl rfl (by (try simp only [List.map_toArray,List.map_cons,List.map_nil]);first|done|rfl|(simp only [List.length_drop,List.length_take];rfl)) ?_
 with_reducible refine (num_Put.calls k (fun k_=>some k_=(.slice aM ai.length aN:Value).ownBlock) (.slice aM ai.length aN) ai ae af w0 _ ?side1 ?side2 A5.out).mono ?_
 (case side1=>repeat (first|(with_reducible first|exact HB.out|apply below_alloc|apply pw_below_drewN|apply below_drew1|refine below_set ?_ ak.out)|exact HB.out))
 (case side2=>exact Kd.R_tight rfl ah.out)
 rintro e w15 ⟨bg,rfl,ho0,hb,hkp⟩
 refine⟨_,rfl,?_⟩
 have av:=aK (Kd.R_mono (ok':=fun k_=>(P0_ k_∨w.heap.size≤k_)) ho0 (fun k_ hk_=>Or.elim hk_ (fun hs_=>(ah.out.1 k_ (hs_).symm)) (fun hn_=>(.inr (Nat.le_trans (by first|exact HK.out.1|exact (show Kept w _ (fun k_=>P0_ k_) from by repeat (first|(with_reducible first|exact HK.out|apply Kept.alloc|apply Kept.drewN|apply Kept.drew|refine Kept.setCell ?_ (.inr ac.out) _)|exact HK.out)).1) hn_)))))
 replace aa:=aK (blk_kept (bQ aa) hkp (fun hs_=>(fun e_=>(Kd.R_ne ah.out aa.out (by decide)) e_) hs_))
 replace HK:=aK (Kept.then_ (S:=(fun k_=>P0_ k_)) (by repeat (first|(with_reducible first|exact HK.out|apply Kept.alloc|apply Kept.drewN|apply Kept.drew|refine Kept.setCell ?_ (.inr ac.out) _)|exact HK.out)) hkp (fun k_ hs_=>(fun e_=>(ah.out.1 k_ e_.symm)) hs_))
 replace HB:=aK (hb)
 clear ah
 (try clear hb)
 (try clear hkp)
 (try clear ho0)
 refine hK.out _ _ (be8 aa) (fun hHeld=>?_)
 clear hK K
 refine norm_ (a':=?_) ?_ ?_
 rotate_left
 ·show Act.put _ (some 14) _=_
  simp only [Act.put,List.setIfInBounds_toArray,List.set_cons_zero,List.set_cons_succ,i64_w,i32_w]
  rfl
 refine pA 10 0 HT_ ?_
 refine done_ (done_of HT_.out (by kernel_rfl)) ?_
 obtain⟨bD,bF,bI,bJ,bM,bN,bO,bU,bX,bY,b8,b9,ca,cb,cd,cf⟩:=bf8 (w:=w15) aa
 obtain⟨aQ,aT,bh⟩:=Kd.R_slice av.out
 subst bh
 try go_wp2_with (first|((with_reducible refine gate_callee (f:=65) rfl ?_);refine gL (some 21) Try.func65 #[.slice aQ af.length aT,.agg #[.int .i64 ap,.float .f64 aq,.string ar]] ?_;(with_reducible refine (datum_Put.calls k (fun k_=>some k_=(.slice aQ af.length aT:Value).ownBlock) (.slice aQ af.length aT) af ap aq ar aw w0 _ ?side1 ?side2 A7.out).mono ?_);(case side1=>repeat (first|(with_reducible first|exact HB.out|apply below_alloc|apply pw_below_drewN|apply below_drew1|refine below_set ?_ ak.out)|exact HB.out));(case side2=>exact Kd.R_tight rfl av.out);rintro e w18 ⟨cg,rfl,ho0,hb,hkp⟩;refine⟨_,rfl,?_⟩;have ba:=aK (Kd.R_mono (ok':=fun k_=>(P0_ k_∨w.heap.size≤k_)) ho0 (fun k_ hk_=>Or.elim hk_ (fun hs_=>(av.out.1 k_ (hs_).symm)) (fun hn_=>(.inr (Nat.le_trans (by first|exact HK.out.1|exact (show Kept w _ (fun k_=>P0_ k_) from by repeat (first|(with_reducible first|exact HK.out|apply Kept.alloc|apply Kept.drewN|apply Kept.drew|refine Kept.setCell ?_ (.inr ac.out) _)|exact HK.out)).1) hn_)))));replace aa:=aK (blk_kept (bQ aa) hkp (fun hs_=>(fun e_=>(Kd.R_ne av.out aa.out (by decide)) e_) hs_));replace HK:=aK (Kept.then_ (S:=(fun k_=>P0_ k_)) (by repeat (first|(with_reducible first|exact HK.out|apply Kept.alloc|apply Kept.drewN|apply Kept.drew|refine Kept.setCell ?_ (.inr ac.out) _)|exact HK.out)) hkp (fun k_ hs_=>(fun e_=>(av.out.1 k_ e_.symm)) hs_));replace HB:=aK (hb);clear av;(try clear hb);(try clear hkp);(try clear ho0)))
 go_ret
 exact⟨_,by first|rfl|(simp [errW_none,errW_some] <;> rfl)|(simp [*,errW_none,errW_some] <;> rfl),by (with_reducible repeat (first|apply Kd.R_alloc|apply Kd.R_drewN|apply Kd.R_drew));exact ba.out,by repeat (first|(with_reducible first|exact HB.out|apply below_alloc|apply pw_below_drewN|apply below_drew1|refine below_set ?_ ak.out)|exact HB.out),by repeat (first|(with_reducible first|exact HK.out|apply Kept.alloc|apply Kept.drewN|apply Kept.drew|refine Kept.setCell ?_ (.inr ac.out) _)|exact HK.out)⟩
end Go.Proofs.Ytmmjpieafbjggaa.P
end
section
namespace Go.Proofs.Ytmmjpieafbjggaa.P
open Go.RowKit Go.Proofs.YtmmjpieafbjggaaW.PrintWords Go.Proofs.YtmmjpieafbjggaaW.PrintLast Go.Proofs.YtmmjpieafbjggaaW.PrintMore
attribute [local go_sem] max2_int min2_int max_two min_two max_three min_three max_four min_four   -- for this text's walks alone
attribute [local go_sem] x_str_gtr x_str_leq x_str_geq ext_bits ext_frombits ext_neg x_store_float Instr.field asAgg
set_option linter.unusedVariables false
set_option linter.unusedSimpArgs false
mutual
def node_bytesOf.l0:Nat→List Int→List (S62)→Int→Int→Option (List Int)
 | 0,_,_,_,_=>none
 | k+1,x3,x19,x20,x21=>if x21<x20 then (if 0≤x21 then (if x21<(x19.length:Int) then ((cell_Put.f k x3 ((rd_T62 x19 x21).f0) ((rd_T62 x19 x21).f1.f0) ((rd_T62 x19 x21).f1.f1) ((rd_T62 x19 x21).f1.f2) ((rd_T62 x19 x21).f2) ((rd_T62 x19 x21).f3.f0) ((rd_T62 x19 x21).f3.f1) ((rd_T62 x19 x21).f3.f2)).bind fun t174=>(node_bytesOf.l0 k t174 x19 x20 (wrap64 (x21+1)))) else (none)) else (none)) else (some x3)
def node_bytesOf.l1:Nat→List Int→List Int→Int→Int→Bool→List (S62)→List ByteArray→List Int→Option (List Int)
 | 0,_,_,_,_,_,_,_,_=>none
 | k+1,x6,x36,x37,x38,x166000,x166001,x166002,x166003=>if x38<x37 then (if 0≤x38 then (if x38<(x36.length:Int) then ((num_Put.f k x6 (rd x36 x38)).bind fun t184=>(node_bytesOf.l1 k t184 x36 x37 (wrap64 (x38+1)) x166000 x166001 x166002 x166003)) else (none)) else (none)) else (node_bytesOf.l2 k x6 x166002 (x166002.length:Int) 0)
def node_bytesOf.l2:Nat→List Int→List ByteArray→Int→Int→Option (List Int)
 | 0,_,_,_,_=>none
 | k+1,x6,x47,x48,x49=>if x49<x48 then (if 0≤x49 then (if x49<(x47.length:Int) then ((num_PutText.f k x6 (rdOf ByteArray.empty x47 x49)).bind fun t188=>(node_bytesOf.l2 k t188 x47 x48 (wrap64 (x49+1)))) else (none)) else (none)) else (some x6)
end
def node_bytesOf.f (k:Nat) (a0_0:Bool) (l0_1:List (S62)) (l0_2:List ByteArray) (l0_3:List Int):Option (List Int):=if a0_0=true then ((num_Put.f k (([1]:List Int)) (l0_1.length:Int)).bind fun t169=>(node_bytesOf.l0 k t169 l0_1 (l0_1.length:Int) 0)) else ((num_Put.f k (([2]:List Int)) (l0_3.length:Int)).bind fun t180=>(node_bytesOf.l1 k t180 l0_3 (l0_3.length:Int) 0 a0_0 l0_1 l0_2 l0_3))
theorem node_bytesOf.mono_l:∀ k,(∀ y0 y1 y2 y3,LeO (node_bytesOf.l0 k y0 y1 y2 y3) (node_bytesOf.l0 (k+1) y0 y1 y2 y3))∧(∀ y0 y1 y2 y3 y4 y5 y6 y7,LeO (node_bytesOf.l1 k y0 y1 y2 y3 y4 y5 y6 y7) (node_bytesOf.l1 (k+1) y0 y1 y2 y3 y4 y5 y6 y7))∧(∀ y0 y1 y2 y3,LeO (node_bytesOf.l2 k y0 y1 y2 y3) (node_bytesOf.l2 (k+1) y0 y1 y2 y3))
 | 0=>⟨fun _ _ _ _ r h=>by simp [node_bytesOf.l0] at h,fun _ _ _ _ _ _ _ _ r h=>by simp [node_bytesOf.l1] at h,fun _ _ _ _ r h=>by simp [node_bytesOf.l2] at h⟩
 | k+1=>by
  obtain⟨ih0,ih1,ih2⟩:=node_bytesOf.mono_l k
  refine⟨?_,?_,?_⟩
  ·intro y0 y1 y2 y3
   unfold node_bytesOf.l0
   repeat' first
   | (with_reducible exact ih0 _ _ _ _)
   | (with_reducible exact ih1 _ _ _ _ _ _ _ _)
   | (with_reducible exact ih2 _ _ _ _)
   | (with_reducible exact cell_Put.mono _ _ _ _ _ _ _ _ _ _)
   | (with_reducible exact num_Put.mono _ _ _)
   | (with_reducible exact num_PutText.mono _ _ _)
   | (with_reducible exact LeO.refl _)
   | (with_reducible exact LeO.none _)
   | (with_reducible refine LeO.ite ?_ ?_)
   | (with_reducible refine LeO.bind ?_ (fun _=>?_))
   | exact ih0 _ _ _ _
   | exact ih1 _ _ _ _ _ _ _ _
   | exact ih2 _ _ _ _
   | exact cell_Put.mono _ _ _ _ _ _ _ _ _ _
   | exact num_Put.mono _ _ _
   | exact num_PutText.mono _ _ _
   | exact LeO.none _
   | refine LeO.ite ?_ ?_
   | refine LeO.bind ?_ (fun _=>?_)
  ·intro y0 y1 y2 y3 y4 y5 y6 y7
   unfold node_bytesOf.l1
   repeat' first
   | (with_reducible exact ih0 _ _ _ _)
   | (with_reducible exact ih1 _ _ _ _ _ _ _ _)
   | (with_reducible exact ih2 _ _ _ _)
   | (with_reducible exact cell_Put.mono _ _ _ _ _ _ _ _ _ _)
   | (with_reducible exact num_Put.mono _ _ _)
   | (with_reducible exact num_PutText.mono _ _ _)
   | (with_reducible exact LeO.refl _)
   | (with_reducible exact LeO.none _)
   | (with_reducible refine LeO.ite ?_ ?_)
   | (with_reducible refine LeO.bind ?_ (fun _=>?_))
   | exact ih0 _ _ _ _
   | exact ih1 _ _ _ _ _ _ _ _
   | exact ih2 _ _ _ _
   | exact cell_Put.mono _ _ _ _ _ _ _ _ _ _
   | exact num_Put.mono _ _ _
   | exact num_PutText.mono _ _ _
   | exact LeO.none _
   | refine LeO.ite ?_ ?_
   | refine LeO.bind ?_ (fun _=>?_)
  ·intro y0 y1 y2 y3
   unfold node_bytesOf.l2
   repeat' first
   | (with_reducible exact ih0 _ _ _ _)
   | (with_reducible exact ih1 _ _ _ _ _ _ _ _)
   | (with_reducible exact ih2 _ _ _ _)
   | (with_reducible exact cell_Put.mono _ _ _ _ _ _ _ _ _ _)
   | (with_reducible exact num_Put.mono _ _ _)
   | (with_reducible exact num_PutText.mono _ _ _)
   | (with_reducible exact LeO.refl _)
   | (with_reducible exact LeO.none _)
   | (with_reducible refine LeO.ite ?_ ?_)
   | (with_reducible refine LeO.bind ?_ (fun _=>?_))
   | exact ih0 _ _ _ _
   | exact ih1 _ _ _ _ _ _ _ _
   | exact ih2 _ _ _ _
   | exact cell_Put.mono _ _ _ _ _ _ _ _ _ _
   | exact num_Put.mono _ _ _
   | exact num_PutText.mono _ _ _
   | exact LeO.none _
   | refine LeO.ite ?_ ?_
   | refine LeO.bind ?_ (fun _=>?_)
theorem node_bytesOf.mono:∀ a0 a1 a2 a3 k,LeO (node_bytesOf.f k a0 a1 a2 a3) (node_bytesOf.f (k+1) a0 a1 a2 a3):=by
 intro a0 a1 a2 a3 k
 obtain⟨ih0,ih1,ih2⟩:=node_bytesOf.mono_l k
 unfold node_bytesOf.f
 repeat' first
   | (with_reducible exact ih0 _ _ _ _)
   | (with_reducible exact ih1 _ _ _ _ _ _ _ _)
   | (with_reducible exact ih2 _ _ _ _)
   | (with_reducible exact cell_Put.mono _ _ _ _ _ _ _ _ _ _)
   | (with_reducible exact num_Put.mono _ _ _)
   | (with_reducible exact num_PutText.mono _ _ _)
   | (with_reducible exact LeO.refl _)
   | (with_reducible exact LeO.none _)
   | (with_reducible refine LeO.ite ?_ ?_)
   | (with_reducible refine LeO.bind ?_ (fun _=>?_))
   | exact ih0 _ _ _ _
   | exact ih1 _ _ _ _ _ _ _ _
   | exact ih2 _ _ _ _
   | exact cell_Put.mono _ _ _ _ _ _ _ _ _ _
   | exact num_Put.mono _ _ _
   | exact num_PutText.mono _ _ _
   | exact LeO.none _
   | refine LeO.ite ?_ ?_
   | refine LeO.bind ?_ (fun _=>?_)
set_option maxHeartbeats 8000000 in
set_option maxRecDepth 100000 in
theorem node_bytesOf.calls (k:Nat) (bf:Bool) (aD:Option Addr) (aE:Nat) (aa:List (S62)) (aG:Option Addr) (aH:Nat) (af:List ByteArray) (aI:Option Addr) (aJ:Nat) (ae:List Int) (r:List Int) (w:World) (dB:Kd.C k62 w aD aa.length aa) (dC:aa.length≤aE) (dD:Kd.C Kd.string w aG af.length af) (dE:af.length≤aH) (dF:Kd.C (Kd.int .i64) w aI ae.length ae) (dG:ae.length≤aJ) (h:node_bytesOf.f k bf aa af ae=some r) :
  Calls Try.prog 36 #[.agg #[.bool bf,.slice aD aa.length aE,.slice aG af.length aH,.slice aI ae.length aJ]] w fun e w'=>∃ v0_:Value,e = .returned (v0_)∧Kd.R (Kd.int .u8) 5 w' w.heap.size (fun _=>True) v0_ r∧Below w.heap.size w w':=by
 have hu36:=Try.underlying36
 have hu62:=Try.underlying62
 have dW:=aK dB
 have em:=aK dC
 clear dB dC
 have dX:=aK dD
 have ep:=aK dE
 clear dD dE
 have dY:=aK dF
 have er:=aK dG
 clear dF dG
 have HB:=aK (Below.refl w.heap.size w)
 have H:(if bf=true then ((num_Put.f k (([1]:List Int)) (aa.length:Int)).bind fun ao=>(node_bytesOf.l0 k ao aa (aa.length:Int) 0)) else ((num_Put.f k (([2]:List Int)) (ae.length:Int)).bind fun ap=>(node_bytesOf.l1 k ap ae (ae.length:Int) 0 bf aa af ae)))=some r:=h
 clear h
 by_cases c2:bf=true
 ·subst c2
  have H1:((num_Put.f k (([1]:List Int)) (aa.length:Int)).bind fun ao=>(node_bytesOf.l0 k ao aa (aa.length:Int) 0))=some r:=by rw [if_pos rfl] at H;exact H
  clear H
  have H:=H1
  clear H1
  obtain⟨bg,hy166⟩:∃ y_:List Int,y_=(([1]:List Int)):=⟨_,rfl⟩
  replace H:((num_Put.f k bg (aa.length:Int)).bind fun ao=>(node_bytesOf.l0 k ao aa (aa.length:Int) 0))=some r:=by first|(rw [hy166];with_reducible exact H)|(have H2_:=(Option.bind_some _ _).symm.trans H;rw [hy166];with_reducible exact H2_)|(have H2_:=(Option.bind_some _ _).symm.trans H;with_reducible exact H2_)|with_reducible exact H|(rw [hy166];exact H)|exact H
  have Ny166:=aK hy166
  clear hy166
  replace H:=oS H
  obtain⟨ao,A30,H⟩:=H
  replace H:(node_bytesOf.l0 k ao aa (aa.length:Int) 0)=some r:=H
  have A3:=aK A30
  clear A30
  have H':=aK H
  clear H
  go_enter Try.func36,Try.ntmps36
  go_wp2_with (first|((with_reducible refine gate_dst (N:=1) rfl ?_);refine box_event ?hg (N:=1) ?hd (cs:=#[.bool true,.slice aD aa.length aE,.slice aG af.length aH,.slice aI ae.length aJ]) (t:=36) ?hr ?_;(case hd=>rfl);(case hg=>rfl);(case hr=>first|(go_simp;done)|(go_simp;rfl));intro ba hg w4 hbox hb;have ac:=aK (hbox);have dZ:=bZ HB hg;have ak:=bZ HB hg;replace HB:=bW HB hb;clear hb hbox hg;obtain⟨bh,bi,bj,bk,bl,bm,bn,bo⟩:=bf4 (w:=w4) ac)|((with_reducible refine gate_dst (N:=13) rfl ?_);refine Kd.R_lit (Kd.int .u8) _ 5 ?hg (N:=13) ?hd (xs:=([1]:List Int)) (inner:=[.int .u8 1]) (ok:=fun _=>True) (okp:=fun _=>True) ?hr ?hp (fun _ hk=>hk) trivial (Below.refl _ _) (Nat.le_refl _) (by simp) ?_;(case hd=>rfl);(case hg=>rfl);(case hr=>first|(go_simp;done)|(go_simp;rfl));(case hp=>exact (Reps.one (show Kd.M (Kd.int .u8) _ _ _ 1 [.int .u8 1] from rfl) (Reps.none _ _)));intro ez w6 ho7 hb hg_ hnew_;clear hg_ hnew_;(first|rw [← Ny166.out] at ho7|(simp only [Int.reduceToNat] at ho7;rw [← Ny166.out] at ho7));have bb:=aK (Kd.R_lower ho7 (below_size (bC HB)));replace ac:=bB ac hb;replace HB:=bW HB hb;clear hb ho7;obtain⟨bp,bq,br,bs,bu,bv,bw,bx⟩:=bf4 (w:=w6) ac;obtain⟨Ao9,co9,eo9⟩:=Kd.R_slice bb.out;subst eo9)|((with_reducible refine gate_callee (f:=50) rfl ?_);refine gL (some 17) Try.func50 #[.slice Ao9 bg.length co9,.int .i64 (aa.length:Int)] ?_;(with_reducible refine (num_Put.calls k (fun k_=>some k_=(.slice Ao9 bg.length co9:Value).ownBlock) (.slice Ao9 bg.length co9) bg (aa.length:Int) ao w _ ?side1 ?side2 A3.out).mono ?_);(case side1=>repeat (first|(with_reducible first|exact HB.out|apply below_alloc|apply pw_below_drewN|apply below_drew1|refine below_set ?_ ak.out)|exact HB.out));(case side2=>exact Kd.R_tight rfl bb.out);rintro e w10 ⟨eA,rfl,ho0,hb,hkp⟩;refine⟨_,rfl,?_⟩;have d3:=aK (Kd.R_mono (ok':=fun k_=>True) ho0 (fun k_ hk_=>trivial));replace ac:=aK (blk_kept (bQ ac) hkp (fun hs_=>(fun e_=>(Kd.R_ne bb.out ac.out (by decide)) e_) hs_));replace HB:=aK (hb);clear bb;(try clear hb);(try clear hkp);(try clear ho0);obtain⟨aN,aQ,aT,aU,aV,aW,aX,aY⟩:=bf4 (w:=w10) ac))
  go_loopg [3,21] k (fun kq v3 v21 w'=>∃ (aq:List Int) (ab:Int),v21 = .int .i64 ab∧Aside0 (node_bytesOf.l0 kq aq aa (aa.length:Int) ab=some r)∧Aside0 (kq≤k)∧Aside0 (Kd.R (Kd.int .u8) 5 w' w.heap.size (fun _=>True) v3 aq)∧Aside0 (w'.heap[ba]? = some (.cells #[.bool true,(.slice aD aa.length aE),(.slice aG af.length aH),(.slice aI ae.length aJ)] 36 (0,0)))∧Aside0 (Below w.heap.size w w'))
  case atStart=>exact⟨(ao),(0),(by first|rfl|(simp;done)|(simp [*];done)),H',⟨Nat.le_refl _⟩,⟨by (with_reducible repeat (first|apply Kd.R_alloc|apply Kd.R_drewN|apply Kd.R_drew));exact d3.out⟩,bK ac,bV HB⟩
  case round =>
   clear H'
   try clear c2
   try clear p2
   try clear c3
   try clear c5
   try clear aN aQ aT aU
   try clear bh bi bj bk
   try clear bp bq br bs
   try clear aV aW aX aY
   try clear bl bm bn bo
   try clear bu bv bw bx
   obtain⟨aq,ab,rfl,HA,HK1,am,ac,HB⟩:=hrel
   cases gk with
   | zero=>exact absurd HA.out (by simp [node_bytesOf.l0])
   | succ k1 =>
    have H:=HA.out
    clear HA
    simp only [node_bytesOf.l0] at H
    by_cases c12:ab<(aa.length:Int)
    rotate_left
    ·rw [if_neg c12] at H
     have dg:decide (ab<(aa.length:Int))=false:=decide_eq_false c12
     clear c12
     obtain rfl:=Option.some.inj H
     go_wp2
     go_ret
     exact⟨_,by first|rfl|(simp [errW_none,errW_some] <;> rfl)|(simp [*,errW_none,errW_some] <;> rfl),by (with_reducible repeat (first|apply Kd.R_alloc|apply Kd.R_drewN|apply Kd.R_drew));exact am.out,by repeat (first|(with_reducible first|exact HB.out|apply below_alloc|apply pw_below_drewN|apply below_drew1|refine below_set ?_ ak.out)|exact HB.out)⟩
    rw [if_pos c12] at H
    have dg:decide (ab<(aa.length:Int))=true:=decide_eq_true c12
    clear c12
    by_cases c13:0≤ab
    rotate_left
    ·rw [if_neg c13] at H
     exact absurd H (by simp)
    rw [if_pos c13] at H
    have dH:decide (0≤ab)=true:=decide_eq_true c13
    clear c13
    by_cases c14:ab<(aa.length:Int)
    rotate_left
    ·rw [if_neg c14] at H
     exact absurd H (by simp)
    rw [if_pos c14] at H
    have dI:decide (ab<(aa.length:Int))=true:=decide_eq_true c14
    clear c14
    replace H:=oS H
    obtain⟨dl,dS,H⟩:=H
    replace H:(node_bytesOf.l0 k1 dl aa (aa.length:Int) (wrap64 (ab+1)))=some r:=H
    have A15:=aK dS
    clear dS
    have H':=aK H
    clear H
    have bA:0≤(ab:Int):=dA
    have bD:ab<(aa.length:Int):=dA
    obtain⟨es,e172,au,av,aw,ax,ay,az,aA,aC⟩:=at_T62 dW.out ab bA bD
    cases e172
    replace au:=cW HB au
    replace av:=cW HB av
    replace aw:=cW HB aw
    replace ax:=cW HB ax
    replace ay:=cW HB ay
    replace az:=cW HB az
    replace aA:=cW HB aA
    replace aC:=cW HB aC
    replace bA:=eq_true bA
    replace bD:=eq_true bD
    go_wp2_with (first|((with_reducible refine gate_dst (N:=5) rfl ?_);refine box_event ?hg (N:=5) ?hd (cs:=#[.string (⟨#[]⟩:ByteArray),.int .i64 0,.float .f64 0,.string (⟨#[]⟩:ByteArray),.int .i64 0,.int .i64 0,.float .f64 0,.string (⟨#[]⟩:ByteArray)]) (t:=62) ?hr ?_;(case hd=>rfl);(case hg=>rfl);(case hr=>first|(go_simp;done)|(go_simp;rfl));intro ag hg w16 hbox hb;have al:=aK (hbox);have et:=bZ HB hg;have d4:=bZ HB hg;have dj:=bL ac hg;have dk:=bG ac hg;replace am:=rB am hb;replace ac:=bB ac hb;replace HB:=bW HB hb;clear hb hbox hg;have hnb17:=dk.out;have hnc17:=dj.out;obtain⟨bJ,bM,bN,bO,bU,bX,bY,b8,b9,ca,cb,cd,cf,cg,ch,cj⟩:=bf8 (w:=w16) al)|((with_reducible refine gate_store (t:=62) (p:=5) rfl ?_);refine store_event (t:=62) (p:=5) (v:=?vo_w19) (w1:=((((((((w16.setCell ⟨ag,0,none⟩ (.string ((rd_T62 aa ab).f0))).setCell ⟨ag,1,none⟩ (.int .i64 ((rd_T62 aa ab).f1.f0))).setCell ⟨ag,2,none⟩ (.float .f64 ((rd_T62 aa ab).f1.f1))).setCell ⟨ag,3,none⟩ (.string ((rd_T62 aa ab).f1.f2))).setCell ⟨ag,4,none⟩ (.int .i64 ((rd_T62 aa ab).f2))).setCell ⟨ag,5,none⟩ (.int .i64 ((rd_T62 aa ab).f3.f0))).setCell ⟨ag,6,none⟩ (.float .f64 ((rd_T62 aa ab).f3.f1))).setCell ⟨ag,7,none⟩ (.string ((rd_T62 aa ab).f3.f2)))) ?hg ?ho ?hn ?hr ?_;(case ho=>rfl);(case hg=>rfl);(case hn=>rfl);(case hr=>first|(go_simp;done)|(go_simp;rfl));intro w19 hw;replace am:Aside0 (Kd.R (Kd.int .u8) 5 w19 w.heap.size (fun _=>True) u3 aq):=⟨(by rw [hw];exact (by (with_reducible repeat (first|apply Kd.R_alloc|apply Kd.R_drewN|apply Kd.R_drew));exact Kd.R_mono (Kd.R_far (p:=⟨ag,7,none⟩) (Kd.R_far (p:=⟨ag,6,none⟩) (Kd.R_far (p:=⟨ag,5,none⟩) (Kd.R_far (p:=⟨ag,4,none⟩) (Kd.R_far (p:=⟨ag,3,none⟩) (Kd.R_far (p:=⟨ag,2,none⟩) (Kd.R_far (p:=⟨ag,1,none⟩) (Kd.R_far (p:=⟨ag,0,none⟩) (Kd.R_types am.out al.out (by decide)) (fun _ hk=>hk.2) (.string ((rd_T62 aa ab).f0))) (fun _ hk=>hk.2) (.int .i64 ((rd_T62 aa ab).f1.f0))) (fun _ hk=>hk.2) (.float .f64 ((rd_T62 aa ab).f1.f1))) (fun _ hk=>hk.2) (.string ((rd_T62 aa ab).f1.f2))) (fun _ hk=>hk.2) (.int .i64 ((rd_T62 aa ab).f2))) (fun _ hk=>hk.2) (.int .i64 ((rd_T62 aa ab).f3.f0))) (fun _ hk=>hk.2) (.float .f64 ((rd_T62 aa ab).f3.f1))) (fun _ hk=>hk.2) (.string ((rd_T62 aa ab).f3.f2))) (fun _ hk=>trivial)))⟩;replace ac:=bE ac hw;replace al:Aside0 (w19.heap[ag]? = some (.cells #[.string ((rd_T62 aa ab).f0),.int .i64 ((rd_T62 aa ab).f1.f0),.float .f64 ((rd_T62 aa ab).f1.f1),.string ((rd_T62 aa ab).f1.f2),.int .i64 ((rd_T62 aa ab).f2),.int .i64 ((rd_T62 aa ab).f3.f0),.float .f64 ((rd_T62 aa ab).f3.f1),.string ((rd_T62 aa ab).f3.f2)] 62 (0,0))):=bP al hw;replace HB:=bH HB hw;clear hw;obtain⟨cm,cn,cp,cq,ct,cu,cv,cw,cx,cz,cA,cB,cC,cD,cE,cF⟩:=bf8 (w:=w19) al;obtain⟨dm,dn,eh⟩:=Kd.R_slice am.out;subst eh)|((with_reducible refine gate_callee (f:=51) rfl ?_);refine gL (some 27) Try.func51 #[.slice dm aq.length dn,.agg #[.string ((rd_T62 aa ab).f0),.int .i64 ((rd_T62 aa ab).f1.f0),.float .f64 ((rd_T62 aa ab).f1.f1),.string ((rd_T62 aa ab).f1.f2),.int .i64 ((rd_T62 aa ab).f2),.int .i64 ((rd_T62 aa ab).f3.f0),.float .f64 ((rd_T62 aa ab).f3.f1),.string ((rd_T62 aa ab).f3.f2)]] ?_;(with_reducible refine (cell_Put.calls k1 (fun k_=>some k_=(.slice dm aq.length dn:Value).ownBlock) (.slice dm aq.length dn) aq ((rd_T62 aa ab).f0) ((rd_T62 aa ab).f1.f0) ((rd_T62 aa ab).f1.f1) ((rd_T62 aa ab).f1.f2) ((rd_T62 aa ab).f2) ((rd_T62 aa ab).f3.f0) ((rd_T62 aa ab).f3.f1) ((rd_T62 aa ab).f3.f2) dl w _ ?side1 ?side2 A15.out).mono ?_);(case side1=>repeat (first|(with_reducible first|exact HB.out|apply below_alloc|apply pw_below_drewN|apply below_drew1|refine below_set ?_ ak.out|refine below_set ?_ d4.out)|exact HB.out));(case side2=>exact Kd.R_tight rfl am.out);rintro e w22 ⟨eB,rfl,ho0,hb,hkp⟩;refine⟨_,rfl,?_⟩;have d5:=aK (Kd.R_mono (ok':=fun k_=>True) ho0 (fun k_ hk_=>trivial));replace ac:=aK (blk_kept (bQ ac) hkp (fun hs_=>(fun e_=>(Kd.R_ne am.out ac.out (by decide)) e_) hs_));replace al:=aK (blk_kept (bQ al) hkp (fun hs_=>(fun e_=>(Kd.R_ne am.out al.out (by decide)) e_) hs_));replace HB:=aK (hb);clear am;(try clear hb);(try clear hkp);(try clear ho0)))
    go_roundg k1
    case measure=>have:=HK1.out;omega
    case rel=>exact⟨(dl),(wrap64 (ab+1)),(by first|rfl|(simp;done)|(simp [*];done)),H',⟨by have:=HK1.out;omega⟩,⟨by (with_reducible repeat (first|apply Kd.R_alloc|apply Kd.R_drewN|apply Kd.R_drew));exact d5.out⟩,bK ac,bV HB⟩
 replace c2:=Bool.eq_false_iff.mpr c2
 subst c2
 have H1:((num_Put.f k (([2]:List Int)) (ae.length:Int)).bind fun ap=>(node_bytesOf.l1 k ap ae (ae.length:Int) 0 false aa af ae))=some r:=by rw [if_neg (show ¬ (false=true) by decide)] at H;exact H
 clear H
 have H:=H1
 clear H1
 obtain⟨bF,hy177⟩:∃ y_:List Int,y_=(([2]:List Int)):=⟨_,rfl⟩
 replace H:((num_Put.f k bF (ae.length:Int)).bind fun ap=>(node_bytesOf.l1 k ap ae (ae.length:Int) 0 false aa af ae))=some r:=by first|(rw [hy177];with_reducible exact H)|(have H2_:=(Option.bind_some _ _).symm.trans H;rw [hy177];with_reducible exact H2_)|(have H2_:=(Option.bind_some _ _).symm.trans H;with_reducible exact H2_)|with_reducible exact H|(rw [hy177];exact H)|exact H
 have Ny177:=aK hy177
 clear hy177
 replace H:=oS H
 obtain⟨ap,dT,H⟩:=H
 replace H:(node_bytesOf.l1 k ap ae (ae.length:Int) 0 false aa af ae)=some r:=H
 have A23:=aK dT
 clear dT
 have H':=aK H
 clear H
 go_enter Try.func36,Try.ntmps36
 go_wp2_with (first|((with_reducible refine gate_dst (N:=1) rfl ?_);refine box_event ?hg (N:=1) ?hd (cs:=#[.bool false,.slice aD aa.length aE,.slice aG af.length aH,.slice aI ae.length aJ]) (t:=36) ?hr ?_;(case hd=>rfl);(case hg=>rfl);(case hr=>first|(go_simp;done)|(go_simp;rfl));intro ba hg w24 hbox hb;have ac:=aK (hbox);have dZ:=bZ HB hg;have ak:=bZ HB hg;replace HB:=bW HB hb;clear hb hbox hg;obtain⟨cG,cH,cI,cJ,cK,cL,cM,cN⟩:=bf4 (w:=w24) ac)|((with_reducible refine gate_dst (N:=30) rfl ?_);refine Kd.R_lit (Kd.int .u8) _ 5 ?hg (N:=30) ?hd (xs:=([2]:List Int)) (inner:=[.int .u8 2]) (ok:=fun _=>True) (okp:=fun _=>True) ?hr ?hp (fun _ hk=>hk) trivial (Below.refl _ _) (Nat.le_refl _) (by simp) ?_;(case hd=>rfl);(case hg=>rfl);(case hr=>first|(go_simp;done)|(go_simp;rfl));(case hp=>exact (Reps.one (show Kd.M (Kd.int .u8) _ _ _ 2 [.int .u8 2] from rfl) (Reps.none _ _)));intro eC w26 bI hb hg_ hnew_;clear hg_ hnew_;(first|rw [← Ny177.out] at bI|(simp only [Int.reduceToNat] at bI;rw [← Ny177.out] at bI));have bc:=aK (Kd.R_lower bI (below_size (bC HB)));replace ac:=bB ac hb;replace HB:=bW HB hb;clear hb bI;obtain⟨cO,cP,cQ,cR,cS,cT,cU,cV⟩:=bf4 (w:=w26) ac;obtain⟨dp,dq,ei⟩:=Kd.R_slice bc.out;subst ei)|((with_reducible refine gate_callee (f:=50) rfl ?_);refine gL (some 34) Try.func50 #[.slice dp bF.length dq,.int .i64 (ae.length:Int)] ?_;(with_reducible refine (num_Put.calls k (fun k_=>some k_=(.slice dp bF.length dq:Value).ownBlock) (.slice dp bF.length dq) bF (ae.length:Int) ap w _ ?side1 ?side2 A23.out).mono ?_);(case side1=>repeat (first|(with_reducible first|exact HB.out|apply below_alloc|apply pw_below_drewN|apply below_drew1|refine below_set ?_ ak.out)|exact HB.out));(case side2=>exact Kd.R_tight rfl bc.out);rintro e w30 ⟨eD,rfl,ho0,hb,hkp⟩;refine⟨_,rfl,?_⟩;have d6:=aK (Kd.R_mono (ok':=fun k_=>True) ho0 (fun k_ hk_=>trivial));replace ac:=aK (blk_kept (bQ ac) hkp (fun hs_=>(fun e_=>(Kd.R_ne bc.out ac.out (by decide)) e_) hs_));replace HB:=aK (hb);clear bc;(try clear hb);(try clear hkp);(try clear ho0);obtain⟨cX,cY,cZ,da,db,dc,dd,de⟩:=bf4 (w:=w30) ac))
 go_loopg [6,38] k (fun kq v6 v38 w'=>∃ (ar:List Int) (ah:Int),v38 = .int .i64 ah∧Aside0 (node_bytesOf.l1 kq ar ae (ae.length:Int) ah false aa af ae=some r)∧Aside0 (kq≤k)∧Aside0 (Kd.R (Kd.int .u8) 5 w' w.heap.size (fun _=>True) v6 ar)∧Aside0 (w'.heap[ba]? = some (.cells #[.bool false,(.slice aD aa.length aE),(.slice aG af.length aH),(.slice aI ae.length aJ)] 36 (0,0)))∧Aside0 (Below w.heap.size w w'))
 case atStart=>exact⟨(ap),(0),(by first|rfl|(simp;done)|(simp [*];done)),H',⟨Nat.le_refl _⟩,⟨by (with_reducible repeat (first|apply Kd.R_alloc|apply Kd.R_drewN|apply Kd.R_drew));exact d6.out⟩,bK ac,bV HB⟩
 case round =>
  clear H'
  try clear c1
  try clear p1
  try clear q1
  try clear hx1
  try clear c2
  try clear p2
  try clear c3
  try clear c5
  try clear p6
  try clear c12
  try clear dg
  try clear c13
  try clear dH
  try clear c14
  try clear dI
  try clear c17
  try clear p17
  try clear q17
  try clear ej
  try clear aN aQ aT aU
  try clear bJ bM bN bO bU bX bY b8
  try clear cm cn cp cq ct cu cv cw
  try clear cG cH cI cJ
  try clear cO cP cQ cR
  try clear cX cY cZ da
  try clear bh bi bj bk
  try clear bp bq br bs
  try clear aV aW aX aY
  try clear b9 ca cb cd cf cg ch cj
  try clear cx cz cA cB cC cD cE cF
  try clear cK cL cM cN
  try clear cS cT cU cV
  try clear db dc dd de
  try clear bl bm bn bo
  try clear bu bv bw bx
  try clear au
  try clear av
  try clear aw
  try clear ax
  try clear ay
  try clear az
  try clear aA
  try clear aC
  try clear bA
  try clear p2
  try clear bD
  obtain⟨ar,ah,rfl,HA,HK1,aj,ac,HB⟩:=hrel
  cases gk with
  | zero=>exact absurd HA.out (by simp [node_bytesOf.l1])
  | succ k1 =>
   have H:=HA.out
   clear HA
   simp only [node_bytesOf.l1] at H
   by_cases c32:ah<(ae.length:Int)
   ·rw [if_pos c32] at H
    have dJ:decide (ah<(ae.length:Int))=true:=decide_eq_true c32
    clear c32
    by_cases c33:0≤ah
    rotate_left
    ·rw [if_neg c33] at H
     exact absurd H (by simp)
    rw [if_pos c33] at H
    have d7:decide (0≤ah)=true:=decide_eq_true c33
    clear c33
    by_cases c34:ah<(ae.length:Int)
    rotate_left
    ·rw [if_neg c34] at H
     exact absurd H (by simp)
    rw [if_pos c34] at H
    have d8:decide (ah<(ae.length:Int))=true:=decide_eq_true c34
    clear c34
    replace H:=oS H
    obtain⟨dr,dU,H⟩:=H
    replace H:(node_bytesOf.l1 k1 dr ae (ae.length:Int) (wrap64 (ah+1)) false aa af ae)=some r:=H
    have A35:=aK dU
    clear dU
    have H':=aK H
    clear H
    have dh:0≤(ah:Int):=dA
    have di:ah<(ae.length:Int):=dA
    obtain⟨eu,e183,aZ⟩:=Kd.at_int dY.out ah dh di
    cases e183
    replace aZ:=cW HB aZ
    replace dh:=eq_true dh
    replace di:=eq_true di
    obtain⟨dt,du,ek⟩:=Kd.R_slice aj.out
    subst ek
    go_wp2_with (first|((with_reducible refine gate_callee (f:=50) rfl ?_);refine gL (some 44) Try.func50 #[.slice dt ar.length du,.int .i64 (rd ae ah)] ?_;(with_reducible refine (num_Put.calls k1 (fun k_=>some k_=(.slice dt ar.length du:Value).ownBlock) (.slice dt ar.length du) ar (rd ae ah) dr w _ ?side1 ?side2 A35.out).mono ?_);(case side1=>repeat (first|(with_reducible first|exact HB.out|apply below_alloc|apply pw_below_drewN|apply below_drew1|refine below_set ?_ ak.out)|exact HB.out));(case side2=>exact Kd.R_tight rfl aj.out);rintro e w37 ⟨eE,rfl,ho0,hb,hkp⟩;refine⟨_,rfl,?_⟩;have d9:=aK (Kd.R_mono (ok':=fun k_=>True) ho0 (fun k_ hk_=>trivial));replace ac:=aK (blk_kept (bQ ac) hkp (fun hs_=>(fun e_=>(Kd.R_ne aj.out ac.out (by decide)) e_) hs_));replace HB:=aK (hb);clear aj;(try clear hb);(try clear hkp);(try clear ho0)))
    go_roundg k1
    case measure=>have:=HK1.out;omega
    case rel=>exact⟨(dr),(wrap64 (ah+1)),(by first|rfl|(simp;done)|(simp [*];done)),H',⟨by have:=HK1.out;omega⟩,⟨by (with_reducible repeat (first|apply Kd.R_alloc|apply Kd.R_drewN|apply Kd.R_drew));exact d9.out⟩,bK ac,bV HB⟩
   rw [if_neg c32] at H
   have dJ:decide (ah<(ae.length:Int))=false:=decide_eq_false c32
   clear c32
   have H':=aK H
   clear H
   obtain⟨dK,dL,dM,dN,dO,dP,dQ,dR⟩:=bf4 (w:=wr) ac
   go_wp2
   go_loopg [6,49] k1 (fun kq v6 v49 w'=>∃ (aM:List Int) (ai:Int),v49 = .int .i64 ai∧Aside0 (node_bytesOf.l2 kq aM af (af.length:Int) ai=some r)∧Aside0 (kq≤k1)∧Aside0 (Kd.R (Kd.int .u8) 5 w' w.heap.size (fun _=>True) v6 aM)∧Aside0 (w'.heap[ba]? = some (.cells #[.bool false,(.slice aD aa.length aE),(.slice aG af.length aH),(.slice aI ae.length aJ)] 36 (0,0)))∧Aside0 (Below w.heap.size w w'))
   case atStart=>exact⟨(ar),(0),(by first|rfl|(simp;done)|(simp [*];done)),H',⟨Nat.le_refl _⟩,⟨by (with_reducible repeat (first|apply Kd.R_alloc|apply Kd.R_drewN|apply Kd.R_drew));exact aj.out⟩,bK ac,bV HB⟩
   case round =>
    clear H'
    try clear c1
    try clear p1
    try clear q1
    try clear hx1
    try clear c2
    try clear p2
    try clear c3
    try clear c5
    try clear p6
    try clear c12
    try clear dg
    try clear c13
    try clear dH
    try clear c14
    try clear dI
    try clear c17
    try clear p17
    try clear q17
    try clear ej
    try clear p18
    try clear q18
    try clear eF
    try clear c32
    try clear dJ
    try clear c33
    try clear d7
    try clear c34
    try clear d8
    try clear c36
    try clear aN aQ aT aU
    try clear bJ bM bN bO bU bX bY b8
    try clear cm cn cp cq ct cu cv cw
    try clear cG cH cI cJ
    try clear cO cP cQ cR
    try clear cX cY cZ da
    try clear dK dL dM dN
    try clear bh bi bj bk
    try clear bp bq br bs
    try clear aV aW aX aY
    try clear b9 ca cb cd cf cg ch cj
    try clear cx cz cA cB cC cD cE cF
    try clear cK cL cM cN
    try clear cS cT cU cV
    try clear db dc dd de
    try clear dO dP dQ dR
    try clear bl bm bn bo
    try clear bu bv bw bx
    try clear au
    try clear av
    try clear aw
    try clear ax
    try clear ay
    try clear az
    try clear aA
    try clear aC
    try clear aZ
    try clear p1
    try clear p17
    try clear bA
    try clear dh
    try clear p2
    try clear p6
    try clear q1
    try clear q17
    try clear bD
    try clear di
    obtain⟨aM,ai,rfl,HA,HK2,aj,ac,HB⟩:=hrel
    cases gk with
    | zero=>exact absurd HA.out (by simp [node_bytesOf.l2])
    | succ k2 =>
     have H:=HA.out
     clear HA
     simp only [node_bytesOf.l2] at H
     by_cases c39:ai<(af.length:Int)
     rotate_left
     ·rw [if_neg c39] at H
      have ed:decide (ai<(af.length:Int))=false:=decide_eq_false c39
      clear c39
      obtain rfl:=Option.some.inj H
      go_wp2
      go_ret
      exact⟨_,by first|rfl|(simp [errW_none,errW_some] <;> rfl)|(simp [*,errW_none,errW_some] <;> rfl),by (with_reducible repeat (first|apply Kd.R_alloc|apply Kd.R_drewN|apply Kd.R_drew));exact aj.out,by repeat (first|(with_reducible first|exact HB.out|apply below_alloc|apply pw_below_drewN|apply below_drew1|refine below_set ?_ ak.out)|exact HB.out)⟩
     rw [if_pos c39] at H
     have ed:decide (ai<(af.length:Int))=true:=decide_eq_true c39
     clear c39
     by_cases c40:0≤ai
     rotate_left
     ·rw [if_neg c40] at H
      exact absurd H (by simp)
     rw [if_pos c40] at H
     have ev:decide (0≤ai)=true:=decide_eq_true c40
     clear c40
     by_cases c41:ai<(af.length:Int)
     rotate_left
     ·rw [if_neg c41] at H
      exact absurd H (by simp)
     rw [if_pos c41] at H
     have ex:decide (ai<(af.length:Int))=true:=decide_eq_true c41
     clear c41
     replace H:=oS H
     obtain⟨dv,dV,H⟩:=H
     replace H:(node_bytesOf.l2 k2 dv af (af.length:Int) (wrap64 (ai+1)))=some r:=H
     have A42:=aK dV
     clear dV
     have H':=aK H
     clear H
     have dw:0≤(ai:Int):=dA
     have dx:ai<(af.length:Int):=dA
     obtain⟨ey,e187,df⟩:=Kd.at_string dX.out ai dw dx
     cases e187
     replace df:=cW HB df
     replace dw:=eq_true dw
     replace dx:=eq_true dx
     obtain⟨dy,dz,el⟩:=Kd.R_slice aj.out
     subst el
     go_wp2_with (first|((with_reducible refine gate_callee (f:=52) rfl ?_);refine gL (some 55) Try.func52 #[.slice dy aM.length dz,.string (rdOf ByteArray.empty af ai)] ?_;(with_reducible refine (num_PutText.calls k2 (fun k_=>some k_=(.slice dy aM.length dz:Value).ownBlock) (.slice dy aM.length dz) aM (rdOf ByteArray.empty af ai) dv w _ ?side1 ?side2 A42.out).mono ?_);(case side1=>repeat (first|(with_reducible first|exact HB.out|apply below_alloc|apply pw_below_drewN|apply below_drew1|refine below_set ?_ ak.out)|exact HB.out));(case side2=>exact Kd.R_tight rfl aj.out);rintro e w44 ⟨eG,rfl,ho0,hb,hkp⟩;refine⟨_,rfl,?_⟩;have eg:=aK (Kd.R_mono (ok':=fun k_=>True) ho0 (fun k_ hk_=>trivial));replace ac:=aK (blk_kept (bQ ac) hkp (fun hs_=>(fun e_=>(Kd.R_ne aj.out ac.out (by decide)) e_) hs_));replace HB:=aK (hb);clear aj;(try clear hb);(try clear hkp);(try clear ho0)))
     go_roundg k2
     case measure=>have:=HK1.out;have:=HK2.out;omega
     case rel=>exact⟨(dv),(wrap64 (ai+1)),(by first|rfl|(simp;done)|(simp [*];done)),H',⟨by have:=HK1.out;have:=HK2.out;omega⟩,⟨by (with_reducible repeat (first|apply Kd.R_alloc|apply Kd.R_drewN|apply Kd.R_drew));exact eg.out⟩,bK ac,bV HB⟩
def node_Size.f (k:Nat) (a0_0:Bool) (l0_1:List (S62)) (l0_2:List ByteArray) (l0_3:List Int):Option (Int):=(node_May.f k a0_0 l0_1 l0_2 l0_3).bind fun t192=>(if t192=true then ((node_bytesOf.f k a0_0 l0_1 l0_2 l0_3).bind fun t193=>(some (t193.length:Int))) else (some 0))
theorem node_Size.mono:∀ a0 a1 a2 a3 k,LeO (node_Size.f k a0 a1 a2 a3) (node_Size.f (k+1) a0 a1 a2 a3):=by
 intro a0 a1 a2 a3 k
 unfold node_Size.f
 repeat' first
   | (with_reducible exact node_May.mono _ _ _ _ _)
   | (with_reducible exact node_bytesOf.mono _ _ _ _ _)
   | (with_reducible exact LeO.refl _)
   | (with_reducible exact LeO.none _)
   | (with_reducible refine LeO.ite ?_ ?_)
   | (with_reducible refine LeO.bind ?_ (fun _=>?_))
   | exact node_May.mono _ _ _ _ _
   | exact node_bytesOf.mono _ _ _ _ _
   | exact LeO.none _
   | refine LeO.ite ?_ ?_
   | refine LeO.bind ?_ (fun _=>?_)
set_option maxHeartbeats 8000000 in
set_option maxRecDepth 100000 in
theorem node_Size.calls (k:Nat) (ae:Bool) (ah:Option Addr) (ai:Nat) (aa:List (S62)) (aj:Option Addr) (ak:Nat) (ab:List ByteArray) (al:Option Addr) (am:Nat) (ac:List Int) (r:Int) (w:World) (ax:Kd.C k62 w ah aa.length aa) (ay:aa.length≤ai) (az:Kd.C Kd.string w aj ab.length ab) (aA:ab.length≤ak) (aC:Kd.C (Kd.int .i64) w al ac.length ac) (aD:ac.length≤am) (h:node_Size.f k ae aa ab ac=some r) :
  Calls Try.prog 18 #[.agg #[.bool ae,.slice ah aa.length ai,.slice aj ab.length ak,.slice al ac.length am]] w fun e w'=>e = .returned (.int .i64 r)∧Below w.heap.size w w':=by
 have hu36:=Try.underlying36
 have ao:=aK ax
 have ap:=aK ay
 clear ax ay
 have aq:=aK az
 have ar:=aK aA
 clear az aA
 have au:=aK aC
 have av:=aK aD
 clear aC aD
 have HB:=aK (Below.refl w.heap.size w)
 have H:((node_May.f k ae aa ab ac).bind fun aw=>(if aw=true then ((node_bytesOf.f k ae aa ab ac).bind fun ag=>(some (ag.length:Int))) else (some 0)))=some r:=h
 clear h
 replace H:=oS H
 obtain⟨aw,A20,H⟩:=H
 replace H:(if aw=true then ((node_bytesOf.f k ae aa ab ac).bind fun ag=>(some (ag.length:Int))) else (some 0))=some r:=H
 have A2:=aK A20
 clear A20
 by_cases c3:aw=true
 rotate_left
 ·replace c3:=Bool.eq_false_iff.mpr c3
  subst c3
  have H1:(some 0)=some r:=by rw [if_neg (show ¬ (false=true) by decide)] at H;exact H
  clear H
  have H:=H1
  clear H1
  obtain rfl:=Option.some.inj H
  go_enter Try.func18,Try.ntmps18
  go_wp2_with (first|((with_reducible refine gate_dst (N:=1) rfl ?_);refine box_event ?hg (N:=1) ?hd (cs:=#[.bool ae,.slice ah aa.length ai,.slice aj ab.length ak,.slice al ac.length am]) (t:=36) ?hr ?_;(case hd=>rfl);(case hg=>rfl);(case hr=>first|(go_simp;done)|(go_simp;rfl));intro aE hg w11 hbox hb;have af:=aK (hbox);have aG:=bZ HB hg;have aH:=bZ HB hg;replace HB:=bW HB hb;clear hb hbox hg;obtain⟨aM,aN,aQ,aT,aU,aV,aW,aX⟩:=bf4 (w:=w11) af)|((with_reducible refine gate_callee (f:=16) rfl ?_);refine gL (some 4) Try.func16 #[.agg #[.bool ae,.slice ah aa.length ai,.slice aj ab.length ak,.slice al ac.length am]] ?_;(with_reducible refine (node_May.calls k ae _ _ aa _ _ ab _ _ ac false _ ?side1 ?side2 ?side3 ?side4 ?side5 ?side6 A2.out).mono ?_);(case side1=>repeat (first|exact (Kd.C_below ao.out HB.out)|(with_reducible refine Kd.C_alloc ?_ _)|(with_reducible refine Kd.C_drewN ?_ _)|(with_reducible refine Kd.C_drew ?_)));(case side2=>exact ap.out);(case side3=>repeat (first|exact (Kd.C_below aq.out HB.out)|(with_reducible refine Kd.C_alloc ?_ _)|(with_reducible refine Kd.C_drewN ?_ _)|(with_reducible refine Kd.C_drew ?_)));(case side4=>exact ar.out);(case side5=>repeat (first|exact (Kd.C_below au.out HB.out)|(with_reducible refine Kd.C_alloc ?_ _)|(with_reducible refine Kd.C_drewN ?_ _)|(with_reducible refine Kd.C_drew ?_)));(case side6=>exact av.out);rintro e w13 ⟨rfl,hb⟩;refine⟨_,rfl,?_⟩;replace af:=bB af hb;replace HB:=bW HB hb;(try clear hb);(try clear hb2);(try clear hk);(try clear hi)))
  go_ret
  exact xB HB
 subst c3
 have H1:((node_bytesOf.f k ae aa ab ac).bind fun ag=>(some (ag.length:Int)))=some r:=by rw [if_pos rfl] at H;exact H
 clear H
 have H:=H1
 clear H1
 replace H:=oS H
 obtain⟨ag,A40,H⟩:=H
 replace H:(some (ag.length:Int))=some r:=H
 have A4:=aK A40
 clear A40
 obtain rfl:=Option.some.inj H
 go_enter Try.func18,Try.ntmps18
 go_wp2_with (first|((with_reducible refine gate_dst (N:=1) rfl ?_);refine box_event ?hg (N:=1) ?hd (cs:=#[.bool ae,.slice ah aa.length ai,.slice aj ab.length ak,.slice al ac.length am]) (t:=36) ?hr ?_;(case hd=>rfl);(case hg=>rfl);(case hr=>first|(go_simp;done)|(go_simp;rfl));intro aE hg w5 hbox hb;have af:=aK (hbox);have aG:=bZ HB hg;have aH:=bZ HB hg;replace HB:=bW HB hb;clear hb hbox hg;obtain⟨aY,aZ,ba,bb,bc,bf,bg,bh⟩:=bf4 (w:=w5) af)|((with_reducible refine gate_callee (f:=16) rfl ?_);refine gL (some 4) Try.func16 #[.agg #[.bool ae,.slice ah aa.length ai,.slice aj ab.length ak,.slice al ac.length am]] ?_;(with_reducible refine (node_May.calls k ae _ _ aa _ _ ab _ _ ac true _ ?side1 ?side2 ?side3 ?side4 ?side5 ?side6 A2.out).mono ?_);(case side1=>repeat (first|exact (Kd.C_below ao.out HB.out)|(with_reducible refine Kd.C_alloc ?_ _)|(with_reducible refine Kd.C_drewN ?_ _)|(with_reducible refine Kd.C_drew ?_)));(case side2=>exact ap.out);(case side3=>repeat (first|exact (Kd.C_below aq.out HB.out)|(with_reducible refine Kd.C_alloc ?_ _)|(with_reducible refine Kd.C_drewN ?_ _)|(with_reducible refine Kd.C_drew ?_)));(case side4=>exact ar.out);(case side5=>repeat (first|exact (Kd.C_below au.out HB.out)|(with_reducible refine Kd.C_alloc ?_ _)|(with_reducible refine Kd.C_drewN ?_ _)|(with_reducible refine Kd.C_drew ?_)));(case side6=>exact av.out);rintro e w7 ⟨rfl,hb⟩;refine⟨_,rfl,?_⟩;replace af:=bB af hb;replace HB:=bW HB hb;(try clear hb);(try clear hb2);(try clear hk);(try clear hi);obtain⟨bi,bj,bk,bl,bm,bn,bo,bp⟩:=bf4 (w:=w7) af)|((with_reducible refine gate_callee (f:=36) rfl ?_);refine gL (some 7) Try.func36 #[.agg #[.bool ae,.slice ah aa.length ai,.slice aj ab.length ak,.slice al ac.length am]] ?_;(with_reducible refine (node_bytesOf.calls k ae _ _ aa _ _ ab _ _ ac ag _ ?side1 ?side2 ?side3 ?side4 ?side5 ?side6 A4.out).mono ?_);(case side1=>repeat (first|exact (Kd.C_below ao.out HB.out)|(with_reducible refine Kd.C_alloc ?_ _)|(with_reducible refine Kd.C_drewN ?_ _)|(with_reducible refine Kd.C_drew ?_)));(case side2=>exact ap.out);(case side3=>repeat (first|exact (Kd.C_below aq.out HB.out)|(with_reducible refine Kd.C_alloc ?_ _)|(with_reducible refine Kd.C_drewN ?_ _)|(with_reducible refine Kd.C_drew ?_)));(case side4=>exact ar.out);(case side5=>repeat (first|exact (Kd.C_below au.out HB.out)|(with_reducible refine Kd.C_alloc ?_ _)|(with_reducible refine Kd.C_drewN ?_ _)|(with_reducible refine Kd.C_drew ?_)));(case side6=>exact av.out);rintro e w9 ⟨bq,rfl,ho0,hb⟩;refine⟨_,rfl,?_⟩;have aI:=aK (Kd.R_lower ho0 (below_size (bC HB)));replace af:=bB af hb;replace HB:=bW HB hb;(try clear hb);(try clear hb2);(try clear hk);(try clear hi);(try clear ho0);obtain⟨br,bs,aJ⟩:=Kd.R_slice aI.out;subst aJ))
 go_ret
 exact xB HB
def node_Encode.f (k:Nat) (a0_0:Bool) (l0_1:List (S62)) (l0_2:List ByteArray) (l0_3:List Int):Option (List Int × Int):=(node_May.f k a0_0 l0_1 l0_2 l0_3).bind fun t197=>(if t197=true then ((node_bytesOf.f k a0_0 l0_1 l0_2 l0_3).bind fun t198=>(if (t198.length:Int)>256 then (some (([]:List Int),4)) else (if 0≤(wrap64 (256 - (t198.length:Int))) then (if t198.length+(wrap64 (256 - (t198.length:Int)):Int).toNat<140737488355328 then (some ((t198++List.replicate (wrap64 (256 - (t198.length:Int)):Int).toNat 0),0)) else (none)) else (none)))) else (some (([]:List Int),1)))
theorem node_Encode.mono:∀ a0 a1 a2 a3 k,LeO (node_Encode.f k a0 a1 a2 a3) (node_Encode.f (k+1) a0 a1 a2 a3):=by
 intro a0 a1 a2 a3 k
 unfold node_Encode.f
 repeat' first
   | (with_reducible exact node_May.mono _ _ _ _ _)
   | (with_reducible exact node_bytesOf.mono _ _ _ _ _)
   | (with_reducible exact LeO.refl _)
   | (with_reducible exact LeO.none _)
   | (with_reducible refine LeO.ite ?_ ?_)
   | (with_reducible refine LeO.bind ?_ (fun _=>?_))
   | exact node_May.mono _ _ _ _ _
   | exact node_bytesOf.mono _ _ _ _ _
   | exact LeO.none _
   | refine LeO.ite ?_ ?_
   | refine LeO.bind ?_ (fun _=>?_)
set_option maxHeartbeats 8000000 in
set_option maxRecDepth 100000 in
theorem node_Encode.calls (k:Nat) (ag:Bool) (ah:Option Addr) (ai:Nat) (ac:List (S62)) (aj:Option Addr) (ak:Nat) (ae:List ByteArray) (al:Option Addr) (am:Nat) (af:List Int) (r1:List Int) (r2:Int) (w:World) (az:Kd.C k62 w ah ac.length ac) (aA:ac.length≤ai) (aC:Kd.C Kd.string w aj ae.length ae) (aD:ae.length≤ak) (aE:Kd.C (Kd.int .i64) w al af.length af) (aG:af.length≤am) (h:node_Encode.f k ag ac ae af=some (r1,r2)) :
  Calls Try.prog 19 #[.agg #[.bool ag,.slice ah ac.length ai,.slice aj ae.length ak,.slice al af.length am]] w fun e w'=>∃ v0_:Value,e = .returned (.tuple #[v0_,.int .i64 r2])∧Kd.R (Kd.int .u8) 5 w' w.heap.size (fun _=>True) v0_ r1∧Below w.heap.size w w':=by
 have hu36:=Try.underlying36
 have ap:=aK az
 have aq:=aK aA
 clear az aA
 have ar:=aK aC
 have au:=aK aD
 clear aC aD
 have av:=aK aE
 have aw:=aK aG
 clear aE aG
 have HB:=aK (Below.refl w.heap.size w)
 have H:((node_May.f k ag ac ae af).bind fun ay=>(if ay=true then ((node_bytesOf.f k ag ac ae af).bind fun aa=>(if (aa.length:Int)>256 then (some (([]:List Int),4)) else (if 0≤(wrap64 (256 - (aa.length:Int))) then (if aa.length+(wrap64 (256 - (aa.length:Int)):Int).toNat<140737488355328 then (some ((aa++List.replicate (wrap64 (256 - (aa.length:Int)):Int).toNat 0),0)) else (none)) else (none)))) else (some (([]:List Int),1))))=some (r1,r2):=h
 clear h
 replace H:=oS H
 obtain⟨ay,A20,H⟩:=H
 replace H:(if ay=true then ((node_bytesOf.f k ag ac ae af).bind fun aa=>(if (aa.length:Int)>256 then (some (([]:List Int),4)) else (if 0≤(wrap64 (256 - (aa.length:Int))) then (if aa.length+(wrap64 (256 - (aa.length:Int)):Int).toNat<140737488355328 then (some ((aa++List.replicate (wrap64 (256 - (aa.length:Int)):Int).toNat 0),0)) else (none)) else (none)))) else (some (([]:List Int),1)))=some (r1,r2):=H
 have A2:=aK A20
 clear A20
 by_cases c3:ay=true
 rotate_left
 ·replace c3:=Bool.eq_false_iff.mpr c3
  subst c3
  have H1:(some (([]:List Int),1))=some (r1,r2):=by rw [if_neg (show ¬ (false=true) by decide)] at H;exact H
  clear H
  have H:=H1
  clear H1
  simp only [Option.some.injEq,Prod.mk.injEq] at H
  obtain⟨rfl,rfl⟩:=H
  go_enter Try.func19,Try.ntmps19
  go_wp2_with (first|((with_reducible refine gate_dst (N:=1) rfl ?_);refine box_event ?hg (N:=1) ?hd (cs:=#[.bool ag,.slice ah ac.length ai,.slice aj ae.length ak,.slice al af.length am]) (t:=36) ?hr ?_;(case hd=>rfl);(case hg=>rfl);(case hr=>first|(go_simp;done)|(go_simp;rfl));intro aH hg w22 hbox hb;have ab:=aK (hbox);have aI:=bZ HB hg;have ax:=bZ HB hg;replace HB:=bW HB hb;clear hb hbox hg;obtain⟨aY,aZ,ba,bb,bc,bf,bg,bh⟩:=bf4 (w:=w22) ab)|((with_reducible refine gate_callee (f:=16) rfl ?_);refine gL (some 6) Try.func16 #[.agg #[.bool ag,.slice ah ac.length ai,.slice aj ae.length ak,.slice al af.length am]] ?_;(with_reducible refine (node_May.calls k ag _ _ ac _ _ ae _ _ af false _ ?side1 ?side2 ?side3 ?side4 ?side5 ?side6 A2.out).mono ?_);(case side1=>repeat (first|exact (Kd.C_below ap.out HB.out)|(with_reducible refine Kd.C_alloc ?_ _)|(with_reducible refine Kd.C_drewN ?_ _)|(with_reducible refine Kd.C_drew ?_)));(case side2=>exact aq.out);(case side3=>repeat (first|exact (Kd.C_below ar.out HB.out)|(with_reducible refine Kd.C_alloc ?_ _)|(with_reducible refine Kd.C_drewN ?_ _)|(with_reducible refine Kd.C_drew ?_)));(case side4=>exact au.out);(case side5=>repeat (first|exact (Kd.C_below av.out HB.out)|(with_reducible refine Kd.C_alloc ?_ _)|(with_reducible refine Kd.C_drewN ?_ _)|(with_reducible refine Kd.C_drew ?_)));(case side6=>exact aw.out);rintro e w24 ⟨rfl,hb⟩;refine⟨_,rfl,?_⟩;replace ab:=bB ab hb;replace HB:=bW HB hb;(try clear hb);(try clear hb2);(try clear hk);(try clear hi)))
  go_ret2
  exact⟨_,by first|rfl|(simp [errW_none,errW_some] <;> rfl)|(simp [*,errW_none,errW_some] <;> rfl),by first|exact Kd.R_nil _ _ _ _ _|exact Kd.N_nil _ _ _ _ _|exact Kd.V_nil _ _ _ _ _|exact Kd.Q_nil _ _ _ _ _|exact Kd.S_nil _ _ _ _ _,by repeat (first|(with_reducible first|exact HB.out|apply below_alloc|apply pw_below_drewN|apply below_drew1|refine below_set ?_ ax.out)|exact HB.out)⟩
 subst c3
 have H1:((node_bytesOf.f k ag ac ae af).bind fun aa=>(if (aa.length:Int)>256 then (some (([]:List Int),4)) else (if 0≤(wrap64 (256 - (aa.length:Int))) then (if aa.length+(wrap64 (256 - (aa.length:Int)):Int).toNat<140737488355328 then (some ((aa++List.replicate (wrap64 (256 - (aa.length:Int)):Int).toNat 0),0)) else (none)) else (none))))=some (r1,r2):=by rw [if_pos rfl] at H;exact H
 clear H
 have H:=H1
 clear H1
 replace H:=oS H
 obtain⟨aa,A40,H⟩:=H
 replace H:(if (aa.length:Int)>256 then (some (([]:List Int),4)) else (if 0≤(wrap64 (256 - (aa.length:Int))) then (if aa.length+(wrap64 (256 - (aa.length:Int)):Int).toNat<140737488355328 then (some ((aa++List.replicate (wrap64 (256 - (aa.length:Int)):Int).toNat 0),0)) else (none)) else (none)))=some (r1,r2):=H
 have A4:=aK A40
 clear A40
 by_cases c5:(aa.length:Int)>256
 ·rw [if_pos c5] at H
  have aM:decide (256<(aa.length:Int))=true:=decide_eq_true c5
  have aN:decide (256<aa.length)=true:=decide_eq_true (by omega)
  clear c5
  simp only [Option.some.injEq,Prod.mk.injEq] at H
  obtain⟨rfl,rfl⟩:=H
  go_enter Try.func19,Try.ntmps19
  go_wp2_with (first|((with_reducible refine gate_dst (N:=1) rfl ?_);refine box_event ?hg (N:=1) ?hd (cs:=#[.bool ag,.slice ah ac.length ai,.slice aj ae.length ak,.slice al af.length am]) (t:=36) ?hr ?_;(case hd=>rfl);(case hg=>rfl);(case hr=>first|(go_simp;done)|(go_simp;rfl));intro aH hg w6 hbox hb;have ab:=aK (hbox);have aI:=bZ HB hg;have ax:=bZ HB hg;replace HB:=bW HB hb;clear hb hbox hg;obtain⟨bD,bF,bI,bJ,bM,bN,bO,bU⟩:=bf4 (w:=w6) ab)|((with_reducible refine gate_callee (f:=16) rfl ?_);refine gL (some 6) Try.func16 #[.agg #[.bool ag,.slice ah ac.length ai,.slice aj ae.length ak,.slice al af.length am]] ?_;(with_reducible refine (node_May.calls k ag _ _ ac _ _ ae _ _ af true _ ?side1 ?side2 ?side3 ?side4 ?side5 ?side6 A2.out).mono ?_);(case side1=>repeat (first|exact (Kd.C_below ap.out HB.out)|(with_reducible refine Kd.C_alloc ?_ _)|(with_reducible refine Kd.C_drewN ?_ _)|(with_reducible refine Kd.C_drew ?_)));(case side2=>exact aq.out);(case side3=>repeat (first|exact (Kd.C_below ar.out HB.out)|(with_reducible refine Kd.C_alloc ?_ _)|(with_reducible refine Kd.C_drewN ?_ _)|(with_reducible refine Kd.C_drew ?_)));(case side4=>exact au.out);(case side5=>repeat (first|exact (Kd.C_below av.out HB.out)|(with_reducible refine Kd.C_alloc ?_ _)|(with_reducible refine Kd.C_drewN ?_ _)|(with_reducible refine Kd.C_drew ?_)));(case side6=>exact aw.out);rintro e w8 ⟨rfl,hb⟩;refine⟨_,rfl,?_⟩;replace ab:=bB ab hb;replace HB:=bW HB hb;(try clear hb);(try clear hb2);(try clear hk);(try clear hi);obtain⟨bX,bY,b8,b9,ca,cb,cd,cf⟩:=bf4 (w:=w8) ab)|((with_reducible refine gate_callee (f:=36) rfl ?_);refine gL (some 9) Try.func36 #[.agg #[.bool ag,.slice ah ac.length ai,.slice aj ae.length ak,.slice al af.length am]] ?_;(with_reducible refine (node_bytesOf.calls k ag _ _ ac _ _ ae _ _ af aa _ ?side1 ?side2 ?side3 ?side4 ?side5 ?side6 A4.out).mono ?_);(case side1=>repeat (first|exact (Kd.C_below ap.out HB.out)|(with_reducible refine Kd.C_alloc ?_ _)|(with_reducible refine Kd.C_drewN ?_ _)|(with_reducible refine Kd.C_drew ?_)));(case side2=>exact aq.out);(case side3=>repeat (first|exact (Kd.C_below ar.out HB.out)|(with_reducible refine Kd.C_alloc ?_ _)|(with_reducible refine Kd.C_drewN ?_ _)|(with_reducible refine Kd.C_drew ?_)));(case side4=>exact au.out);(case side5=>repeat (first|exact (Kd.C_below av.out HB.out)|(with_reducible refine Kd.C_alloc ?_ _)|(with_reducible refine Kd.C_drewN ?_ _)|(with_reducible refine Kd.C_drew ?_)));(case side6=>exact aw.out);rintro e w10 ⟨aQ,rfl,ho0,hb⟩;refine⟨_,rfl,?_⟩;have ao:=aK (Kd.R_lower ho0 (below_size (bC HB)));replace ab:=bB ab hb;replace HB:=bW HB hb;(try clear hb);(try clear hb2);(try clear hk);(try clear hi);(try clear ho0);obtain⟨cj,cm,aT⟩:=Kd.R_slice ao.out;subst aT))
  go_ret2
  exact⟨_,by first|rfl|(simp [errW_none,errW_some] <;> rfl)|(simp [*,errW_none,errW_some] <;> rfl),by first|exact Kd.R_nil _ _ _ _ _|exact Kd.N_nil _ _ _ _ _|exact Kd.V_nil _ _ _ _ _|exact Kd.Q_nil _ _ _ _ _|exact Kd.S_nil _ _ _ _ _,by repeat (first|(with_reducible first|exact HB.out|apply below_alloc|apply pw_below_drewN|apply below_drew1|refine below_set ?_ ax.out)|exact HB.out)⟩
 rw [if_neg c5] at H
 have aM:decide (256<(aa.length:Int))=false:=decide_eq_false c5
 have aN:decide (256<aa.length)=false:=decide_eq_false (by omega)
 clear c5
 obtain⟨ji12,hji12⟩:∃ j_:Int,(wrap64 (256 - (aa.length:Int)))=j_:=⟨_,rfl⟩
 replace H:(if 0≤(ji12) then (if aa.length+(ji12:Int).toNat<140737488355328 then (some ((aa++List.replicate (ji12:Int).toNat 0),0)) else (none)) else (none))=some (r1,r2):=by first|(rw [hji12] at H;exact H)|(simp only [hji12] at H ⊢;exact H)
 (try rw [hji12] at A2)
 (try rw [hji12] at A4)
 have hji12w:(IntKind.i64.wrap (256 - (aa.length:Int)))=ji12:=(i64_w _).trans hji12
 by_cases c13:0≤(ji12)
 rotate_left
 ·rw [if_neg c13] at H
  exact absurd H (by simp)
 rw [if_pos c13] at H
 have cg:=eq_true c13
 have ch:decide (0≤(ji12))=true:=decide_eq_true c13
 clear c13
 by_cases c14:aa.length+(ji12:Int).toNat<140737488355328
 rotate_left
 ·rw [if_neg c14] at H
  exact absurd H (by simp)
 rw [if_pos c14] at H
 have LMc14:=aK c14
 clear c14
 obtain⟨aU,hy201⟩:∃ y_:List Int,y_=(aa++List.replicate (ji12:Int).toNat 0):=⟨_,rfl⟩
 replace H:(some (aU,0))=some (r1,r2):=by first|(rw [hy201];with_reducible exact H)|(have H2_:=(Option.bind_some _ _).symm.trans H;rw [hy201];with_reducible exact H2_)|(have H2_:=(Option.bind_some _ _).symm.trans H;with_reducible exact H2_)|with_reducible exact H|(rw [hy201];exact H)|exact H
 have Ny201:=aK hy201
 clear hy201
 simp only [Option.some.injEq,Prod.mk.injEq] at H
 obtain⟨rfl,rfl⟩:=H
 go_enter Try.func19,Try.ntmps19
 go_wp2_with (first|((with_reducible refine gate_dst (N:=1) rfl ?_);refine box_event ?hg (N:=1) ?hd (cs:=#[.bool ag,.slice ah ac.length ai,.slice aj ae.length ak,.slice al af.length am]) (t:=36) ?hr ?_;(case hd=>rfl);(case hg=>rfl);(case hr=>first|(go_simp;done)|(go_simp;rfl));intro aH hg w15 hbox hb;have ab:=aK (hbox);have aI:=bZ HB hg;have ax:=bZ HB hg;replace HB:=bW HB hb;clear hb hbox hg;obtain⟨bi,bj,bk,bl,bm,bn,bo,bp⟩:=bf4 (w:=w15) ab)|((with_reducible refine gate_callee (f:=16) rfl ?_);refine gL (some 6) Try.func16 #[.agg #[.bool ag,.slice ah ac.length ai,.slice aj ae.length ak,.slice al af.length am]] ?_;(with_reducible refine (node_May.calls k ag _ _ ac _ _ ae _ _ af true _ ?side1 ?side2 ?side3 ?side4 ?side5 ?side6 A2.out).mono ?_);(case side1=>repeat (first|exact (Kd.C_below ap.out HB.out)|(with_reducible refine Kd.C_alloc ?_ _)|(with_reducible refine Kd.C_drewN ?_ _)|(with_reducible refine Kd.C_drew ?_)));(case side2=>exact aq.out);(case side3=>repeat (first|exact (Kd.C_below ar.out HB.out)|(with_reducible refine Kd.C_alloc ?_ _)|(with_reducible refine Kd.C_drewN ?_ _)|(with_reducible refine Kd.C_drew ?_)));(case side4=>exact au.out);(case side5=>repeat (first|exact (Kd.C_below av.out HB.out)|(with_reducible refine Kd.C_alloc ?_ _)|(with_reducible refine Kd.C_drewN ?_ _)|(with_reducible refine Kd.C_drew ?_)));(case side6=>exact aw.out);rintro e w17 ⟨rfl,hb⟩;refine⟨_,rfl,?_⟩;replace ab:=bB ab hb;replace HB:=bW HB hb;(try clear hb);(try clear hb2);(try clear hk);(try clear hi);obtain⟨bq,br,bs,bu,bv,bw,bx,bA⟩:=bf4 (w:=w17) ab)|((with_reducible refine gate_callee (f:=36) rfl ?_);refine gL (some 9) Try.func36 #[.agg #[.bool ag,.slice ah ac.length ai,.slice aj ae.length ak,.slice al af.length am]] ?_;(with_reducible refine (node_bytesOf.calls k ag _ _ ac _ _ ae _ _ af aa _ ?side1 ?side2 ?side3 ?side4 ?side5 ?side6 A4.out).mono ?_);(case side1=>repeat (first|exact (Kd.C_below ap.out HB.out)|(with_reducible refine Kd.C_alloc ?_ _)|(with_reducible refine Kd.C_drewN ?_ _)|(with_reducible refine Kd.C_drew ?_)));(case side2=>exact aq.out);(case side3=>repeat (first|exact (Kd.C_below ar.out HB.out)|(with_reducible refine Kd.C_alloc ?_ _)|(with_reducible refine Kd.C_drewN ?_ _)|(with_reducible refine Kd.C_drew ?_)));(case side4=>exact au.out);(case side5=>repeat (first|exact (Kd.C_below av.out HB.out)|(with_reducible refine Kd.C_alloc ?_ _)|(with_reducible refine Kd.C_drewN ?_ _)|(with_reducible refine Kd.C_drew ?_)));(case side6=>exact aw.out);rintro e w19 ⟨aQ,rfl,ho0,hb⟩;refine⟨_,rfl,?_⟩;have ao:=aK (Kd.R_lower ho0 (below_size (bC HB)));replace ab:=bB ab hb;replace HB:=bW HB hb;(try clear hb);(try clear hb2);(try clear hk);(try clear hi);(try clear ho0);obtain⟨aV,aW,aX⟩:=Kd.R_slice ao.out;subst aX)|(at_builtin;refine Kd.R_append_zeros (Kd.int .u8) (w0:=w) w.heap.size rfl (.tmp 13) (.tmp 16) 30 3 5 (.int .u8 0) 1 rfl Try.underlying30 Try.underlying3 info5 rfl (by decide) (by omega) (.slice aV aa.length aW) aa 0 (ji12:Int) (fun _=>True) rfl rfl rfl ?aF ?aO (dA) ?aB ?aS ?aL ?_;(case aB=>exact (bC HB));(case aF=>exact (fun _ _=>trivial));(case aO=>exact (by (with_reducible repeat (first|apply Kd.R_alloc|apply Kd.R_drewN|apply Kd.R_drew));exact ao.out));(case aS=>exact (below_size (bC HB)));(case aL=>have:=LMc14.out;omega);intro cn w21 ho hb hg hat;rw [← Ny201.out] at ho;have aJ:=aK (ho);replace ab:=aK (blk_grown (bQ ab) hg (Kd.R_ne ao.out ab.out (by decide)));replace HB:=aK (hb);clear ao;clear ho hb hg hat))
 go_ret2
 exact⟨_,by first|rfl|(simp [errW_none,errW_some] <;> rfl)|(simp only [← hji12];first|rfl|(simp [errW_none,errW_some] <;> rfl))|(simp [*,errW_none,errW_some] <;> rfl),by (with_reducible repeat (first|apply Kd.R_alloc|apply Kd.R_drewN|apply Kd.R_drew));exact aJ.out,by repeat (first|(with_reducible first|exact HB.out|apply below_alloc|apply pw_below_drewN|apply below_drew1|refine below_set ?_ ax.out)|exact HB.out)⟩
def cmp_isNaN_string.f (a0:ByteArray):Option (Bool):=some (a0.toList != a0.toList)
set_option maxHeartbeats 8000000 in
set_option maxRecDepth 100000 in
theorem cmp_isNaN_string.calls (a0:ByteArray) (r:Bool) (w:World) (h:cmp_isNaN_string.f a0=some r) :
  Calls Try.prog 66 #[.string a0] w fun e w'=>e = .returned (.bool r)∧Drawn0 w w':=by
 have H:(some (a0.toList != a0.toList))=some r:=h
 clear h
 obtain rfl:=Option.some.inj H
 go_enter Try.func66,Try.ntmps66
 go_wp2
 go_ret
 exact⟨by first|rfl|(simp;done)|(simp [*];done),by repeat (first|exact Drawn0.refl _|apply Drawn0.step)⟩
def cmp_Less_string.f (a0:ByteArray) (a1:ByteArray):Option (Bool):=(cmp_isNaN_string.f a0).bind fun t204=>(if t204=true then ((cmp_isNaN_string.f a1).bind fun t205=>(if t205=true then (some (Op.bytesLess a0.toList a1.toList)) else (some true))) else (some (Op.bytesLess a0.toList a1.toList)))
set_option maxHeartbeats 8000000 in
set_option maxRecDepth 100000 in
theorem cmp_Less_string.calls (a0:ByteArray) (a1:ByteArray) (r:Bool) (w:World) (h:cmp_Less_string.f a0 a1=some r) :
  Calls Try.prog 53 #[.string a0,.string a1] w fun e w'=>e = .returned (.bool r)∧Drawn0 w w':=by
 have H:((cmp_isNaN_string.f a0).bind fun ab=>(if ab=true then ((cmp_isNaN_string.f a1).bind fun aa=>(if aa=true then (some (Op.bytesLess a0.toList a1.toList)) else (some true))) else (some (Op.bytesLess a0.toList a1.toList))))=some r:=h
 clear h
 replace H:=oS H
 obtain⟨ab,A30,H⟩:=H
 replace H:(if ab=true then ((cmp_isNaN_string.f a1).bind fun aa=>(if aa=true then (some (Op.bytesLess a0.toList a1.toList)) else (some true))) else (some (Op.bytesLess a0.toList a1.toList)))=some r:=H
 have A3:=aK A30
 clear A30
 by_cases c4:ab=true
 rotate_left
 ·replace c4:=Bool.eq_false_iff.mpr c4
  subst c4
  have H1:(some (Op.bytesLess a0.toList a1.toList))=some r:=by rw [if_neg (show ¬ (false=true) by decide)] at H;exact H
  clear H
  have H:=H1
  clear H1
  obtain rfl:=Option.some.inj H
  go_enter Try.func53,Try.ntmps53
  go_wp2_with (first|((with_reducible refine gate_callee (f:=66) rfl ?_);refine gL (some 6) Try.func66 #[.string a0] ?_;(with_reducible refine (cmp_isNaN_string.calls a0 false _ A3.out).mono ?_);rintro e w' ⟨rfl,⟨nd,rfl⟩⟩;refine⟨_,rfl,?_⟩))
  go_ret
  exact⟨by first|rfl|(simp;done)|(simp [*];done),by repeat (first|exact Drawn0.refl _|apply Drawn0.step)⟩
 subst c4
 have H1:((cmp_isNaN_string.f a1).bind fun aa=>(if aa=true then (some (Op.bytesLess a0.toList a1.toList)) else (some true)))=some r:=by rw [if_pos rfl] at H;exact H
 clear H
 have H:=H1
 clear H1
 replace H:=oS H
 obtain⟨aa,A50,H⟩:=H
 replace H:(if aa=true then (some (Op.bytesLess a0.toList a1.toList)) else (some true))=some r:=H
 have A5:=aK A50
 clear A50
 by_cases c6:aa=true
 ·subst c6
  have H1:(some (Op.bytesLess a0.toList a1.toList))=some r:=by rw [if_pos rfl] at H;exact H
  clear H
  have H:=H1
  clear H1
  obtain rfl:=Option.some.inj H
  go_enter Try.func53,Try.ntmps53
  go_wp2_with (first|((with_reducible refine gate_callee (f:=66) rfl ?_);refine gL (some 6) Try.func66 #[.string a0] ?_;(with_reducible refine (cmp_isNaN_string.calls a0 true _ A3.out).mono ?_);rintro e w' ⟨rfl,⟨nd,rfl⟩⟩;refine⟨_,rfl,?_⟩)|(go_at_call 66;(with_reducible refine (cmp_isNaN_string.calls a1 true _ A5.out).mono ?_);rintro e w' ⟨rfl,⟨nd,rfl⟩⟩))
  go_ret
  exact⟨by first|rfl|(simp;done)|(simp [*];done),by repeat (first|exact Drawn0.refl _|apply Drawn0.step)⟩
 replace c6:=Bool.eq_false_iff.mpr c6
 subst c6
 have H1:(some true)=some r:=by rw [if_neg (show ¬ (false=true) by decide)] at H;exact H
 clear H
 have H:=H1
 clear H1
 obtain rfl:=Option.some.inj H
 go_enter Try.func53,Try.ntmps53
 go_wp2_with (first|((with_reducible refine gate_callee (f:=66) rfl ?_);refine gL (some 6) Try.func66 #[.string a0] ?_;(with_reducible refine (cmp_isNaN_string.calls a0 true _ A3.out).mono ?_);rintro e w' ⟨rfl,⟨nd,rfl⟩⟩;refine⟨_,rfl,?_⟩)|(go_at_call 66;(with_reducible refine (cmp_isNaN_string.calls a1 false _ A5.out).mono ?_);rintro e w' ⟨rfl,⟨nd,rfl⟩⟩))
 go_ret
 exact⟨by first|rfl|(simp;done)|(simp [*];done),by repeat (first|exact Drawn0.refl _|apply Drawn0.step)⟩
def slices_isNaN_string.f (a0:ByteArray):Option (Bool):=some (a0.toList != a0.toList)
set_option maxHeartbeats 8000000 in
set_option maxRecDepth 100000 in
theorem slices_isNaN_string.calls (a0:ByteArray) (r:Bool) (w:World) (h:slices_isNaN_string.f a0=some r) :
  Calls Try.prog 54 #[.string a0] w fun e w'=>e = .returned (.bool r)∧Drawn0 w w':=by
 have H:(some (a0.toList != a0.toList))=some r:=h
 clear h
 obtain rfl:=Option.some.inj H
 go_enter Try.func54,Try.ntmps54
 go_wp2
 go_ret
 exact⟨by first|rfl|(simp;done)|(simp [*];done),by repeat (first|exact Drawn0.refl _|apply Drawn0.step)⟩
end Go.Proofs.Ytmmjpieafbjggaa.P
end
