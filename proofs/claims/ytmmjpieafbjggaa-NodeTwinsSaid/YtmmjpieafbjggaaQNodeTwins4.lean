/- The law NodeTwins returns true for every input: the words, the walks and the plain statement that its row needs. No condition. (Merged by a program of this session out of its own texts.) -/
import Derived.Test.YtmmjpieafbjggaaProg
import Derived.Below
import Derived.Deep.Draws
import Derived.Deep.AppendLies
import Derived.Maps.AppendAt
import Derived.OwnWalk
import Derived.Laws.BytesArg
import Derived.Laws.MakeOwn
import Derived.Laws.OwnMore
import Derived.Deep.OwnRows
import Derived.Tactics
import Derived.Lib.ConvBytes
import Derived.Laws.Slices
import Derived.WalkKit
import Derived.KernelRfl
import Derived.RowKit3
import Derived.Deep.LoopGhost
import Derived.Deep.QuietTactic
import Derived.BigQuiet
import Derived.WideLaws
import Derived.Deep.DeepCutAuto
import Derived.Deep.CutBlock
import Derived.Deep.RegionHeld3
import Derived.Laws.Rows
import Derived.Lib.AppendStr
import Derived.ArgAppend
import Derived.Laws.IdiomCopy
import Derived.OrdersHeld
import Derived.Laws.BitsLemmas
import Derived.RowKit
import Derived.Laws.Cover2
import Derived.Laws.Externs
import Derived.Laws.FloatArith
import Derived.Laws.StructEq
import Derived.Test.YtmmjpieafbjggaaQNodeTwins0
import Derived.Test.YtmmjpieafbjggaaQNodeTwins1
import Derived.Test.YtmmjpieafbjggaaQNodeTwins2
import Derived.Test.YtmmjpieafbjggaaQNodeTwins3
section
namespace Go.Proofs.Ytmmjpieafbjggaa.P
open Go.RowKit Go.Proofs.YtmmjpieafbjggaaW.PrintWords Go.Proofs.YtmmjpieafbjggaaW.PrintLast Go.Proofs.YtmmjpieafbjggaaW.PrintMore
attribute [local go_sem] max2_int min2_int max_two min_two max_three min_three max_four min_four   -- for this text's walks alone
attribute [local go_sem] x_str_gtr x_str_leq x_str_geq ext_bits ext_frombits ext_neg x_store_float Instr.field asAgg
set_option linter.unusedVariables false
set_option linter.unusedSimpArgs false
def errW : Option Int → Value
  | none => .nilIface
  | some c => .iface 0 (.int .i64 c)
theorem errW_none : errW none = .nilIface := rfl
theorem errW_some (c : Int) : errW (some c) = .iface 0 (.int .i64 c) := rfl
theorem info3 : (Try.prog.info? 3).map (fun i => (i.zero, i.size, i.bytes)) = some (some (.int .i64 0), 1, 8) := by kernel_rfl
theorem info5 : (Try.prog.info? 5).map (fun i => (i.zero, i.size, i.bytes)) = some (some (.int .u8 0), 1, 1) := by kernel_rfl
theorem info9 : (Try.prog.info? 9).map (fun i => (i.zero, i.size, i.bytes)) = some (some (.string ⟨#[]⟩), 1, 16) := by kernel_rfl
theorem info56 : (Try.prog.info? 56).map (fun i => (i.zero, i.size, i.bytes)) = some (some (.agg #[(.string ⟨#[]⟩), (.int .i64 0), (.float .f64 0), (.string ⟨#[]⟩), (.int .i64 0), (.int .i64 0), (.float .f64 0), (.string ⟨#[]⟩)]), 8, 88) := by kernel_rfl
theorem info62 : (Try.prog.info? 62).map (fun i => (i.zero, i.size, i.bytes)) = some (some (.agg #[(.string ⟨#[]⟩), (.int .i64 0), (.float .f64 0), (.string ⟨#[]⟩), (.int .i64 0), (.int .i64 0), (.float .f64 0), (.string ⟨#[]⟩)]), 8, 88) := by kernel_rfl
structure S54 where
  f0 : Int
  f1 : Nat
  f2 : ByteArray
def z54 : S54 := ⟨(0 : Int), (0 : Nat), (⟨#[]⟩ : ByteArray)⟩
def wf54 (x : S54) : Prop := (Lit.int .i64 x.f0).wf = true ∧ x.f1 < 18446744073709551616 ∧ x.f2.size ≤ 9223372036854775807
def k54 : Kd S54 := Kd.iso (Kd.pair (Kd.int .i64) (Kd.pair Kd.float Kd.string)) (fun x : S54 => (x.f0, x.f1, x.f2))
theorem k54_open {w : World} {x : S54} {cs : List Value} (h : k54.K w x cs) : cs = [.int .i64 x.f0, .float .f64 x.f1, .string x.f2] := by
  obtain ⟨_, _, rfl, rfl, ⟨_, _, rfl, rfl, rfl⟩⟩ := h
  exact rfl
theorem k54_mkM (w : World) (base : Nat) (ok : Nat → Prop) (x : S54)  : k54.M w base ok x [.int .i64 x.f0, .float .f64 x.f1, .string x.f2] := ⟨[.int .i64 x.f0], [.float .f64 x.f1, .string x.f2], rfl, rfl, ⟨[.float .f64 x.f1], [.string x.f2], rfl, rfl, rfl⟩⟩
structure S62 where
  f0 : ByteArray
  f1 : S54
  f2 : Int
  f3 : S54
def z62 : S62 := ⟨(⟨#[]⟩ : ByteArray), z54, (0 : Int), z54⟩
def k62 : Kd S62 := Kd.iso (Kd.pair Kd.string (Kd.pair k54 (Kd.pair (Kd.int .i64) k54))) (fun x : S62 => (x.f0, x.f1, x.f2, x.f3))
theorem k62_open {w : World} {x : S62} {cs : List Value} (h : k62.K w x cs) : cs = [.string x.f0, .int .i64 x.f1.f0, .float .f64 x.f1.f1, .string x.f1.f2, .int .i64 x.f2, .int .i64 x.f3.f0, .float .f64 x.f3.f1, .string x.f3.f2] := by
  obtain ⟨_, _, rfl, rfl, ⟨_, _, rfl, s1, ⟨_, _, rfl, rfl, s5⟩⟩⟩ := h
  obtain rfl := k54_open s1
  obtain rfl := k54_open s5
  exact rfl
theorem k62_mkM (w : World) (base : Nat) (ok : Nat → Prop) (x : S62)  : k62.M w base ok x [.string x.f0, .int .i64 x.f1.f0, .float .f64 x.f1.f1, .string x.f1.f2, .int .i64 x.f2, .int .i64 x.f3.f0, .float .f64 x.f3.f1, .string x.f3.f2] := ⟨[.string x.f0], [.int .i64 x.f1.f0, .float .f64 x.f1.f1, .string x.f1.f2, .int .i64 x.f2, .int .i64 x.f3.f0, .float .f64 x.f3.f1, .string x.f3.f2], rfl, rfl, ⟨[.int .i64 x.f1.f0, .float .f64 x.f1.f1, .string x.f1.f2], [.int .i64 x.f2, .int .i64 x.f3.f0, .float .f64 x.f3.f1, .string x.f3.f2], rfl, (k54_mkM w base ok x.f1 ), ⟨[.int .i64 x.f2], [.int .i64 x.f3.f0, .float .f64 x.f3.f1, .string x.f3.f2], rfl, rfl, (k54_mkM w base ok x.f3 )⟩⟩⟩
def rd_T62 (xs : List S62) (i : Int) : S62 := xs.getD i.toNat z62
theorem at_T62 {w : World} {A : Option Addr} {n : Nat} {xs : List S62} (h : Kd.C k62 w A n xs) (i : Int) (h0 : 0 ≤ i) (h1 : i < n) : ∃ ad , A = some ad ∧ w.cell? (ad.add (i.toNat * 8)) = some (.string (rd_T62 xs i).f0) ∧ w.cell? ⟨(ad.add (i.toNat * 8)).block, (ad.add (i.toNat * 8)).off + 1, none⟩ = some (.int .i64 (rd_T62 xs i).f1.f0) ∧ w.cell? ⟨(ad.add (i.toNat * 8)).block, (ad.add (i.toNat * 8)).off + 2, none⟩ = some (.float .f64 (rd_T62 xs i).f1.f1) ∧ w.cell? ⟨(ad.add (i.toNat * 8)).block, (ad.add (i.toNat * 8)).off + 3, none⟩ = some (.string (rd_T62 xs i).f1.f2) ∧ w.cell? ⟨(ad.add (i.toNat * 8)).block, (ad.add (i.toNat * 8)).off + 4, none⟩ = some (.int .i64 (rd_T62 xs i).f2) ∧ w.cell? ⟨(ad.add (i.toNat * 8)).block, (ad.add (i.toNat * 8)).off + 5, none⟩ = some (.int .i64 (rd_T62 xs i).f3.f0) ∧ w.cell? ⟨(ad.add (i.toNat * 8)).block, (ad.add (i.toNat * 8)).off + 6, none⟩ = some (.float .f64 (rd_T62 xs i).f3.f1) ∧ w.cell? ⟨(ad.add (i.toNat * 8)).block, (ad.add (i.toNat * 8)).off + 7, none⟩ = some (.string (rd_T62 xs i).f3.f2) := by
  obtain ⟨ad, c, e, _, hK, hc0⟩ := Kd.C_get h z62 i h0 h1
  have hc : ∀ j u, c[j]? = some u → w.cell? (ad.add (i.toNat * 8 + j)) = some u := hc0
  obtain rfl := k62_open hK
  exact ⟨ad, e, hc 0 _ rfl, by rw [← add_field _ _ 1 (by omega)]; exact hc 1 _ rfl, by rw [← add_field _ _ 2 (by omega)]; exact hc 2 _ rfl, by rw [← add_field _ _ 3 (by omega)]; exact hc 3 _ rfl, by rw [← add_field _ _ 4 (by omega)]; exact hc 4 _ rfl, by rw [← add_field _ _ 5 (by omega)]; exact hc 5 _ rfl, by rw [← add_field _ _ 6 (by omega)]; exact hc 6 _ rfl, by rw [← add_field _ _ 7 (by omega)]; exact hc 7 _ rfl⟩
structure S56 where
  f0 : ByteArray
  f1 : S54
  f2 : Int
  f3 : S54
def z56 : S56 := ⟨(⟨#[]⟩ : ByteArray), z54, (0 : Int), z54⟩
def wf56 (x : S56) : Prop := x.f0.size ≤ 9223372036854775807 ∧ wf54 (x.f1) ∧ (Lit.int .i64 x.f2).wf = true ∧ wf54 (x.f3)
def k56 : Kd S56 := Kd.iso (Kd.pair Kd.string (Kd.pair k54 (Kd.pair (Kd.int .i64) k54))) (fun x : S56 => (x.f0, x.f1, x.f2, x.f3))
theorem k56_open {w : World} {x : S56} {cs : List Value} (h : k56.K w x cs) : cs = [.string x.f0, .int .i64 x.f1.f0, .float .f64 x.f1.f1, .string x.f1.f2, .int .i64 x.f2, .int .i64 x.f3.f0, .float .f64 x.f3.f1, .string x.f3.f2] := by
  obtain ⟨_, _, rfl, rfl, ⟨_, _, rfl, s1, ⟨_, _, rfl, rfl, s5⟩⟩⟩ := h
  obtain rfl := k54_open s1
  obtain rfl := k54_open s5
  exact rfl
theorem k56_mkM (w : World) (base : Nat) (ok : Nat → Prop) (x : S56)  : k56.M w base ok x [.string x.f0, .int .i64 x.f1.f0, .float .f64 x.f1.f1, .string x.f1.f2, .int .i64 x.f2, .int .i64 x.f3.f0, .float .f64 x.f3.f1, .string x.f3.f2] := ⟨[.string x.f0], [.int .i64 x.f1.f0, .float .f64 x.f1.f1, .string x.f1.f2, .int .i64 x.f2, .int .i64 x.f3.f0, .float .f64 x.f3.f1, .string x.f3.f2], rfl, rfl, ⟨[.int .i64 x.f1.f0, .float .f64 x.f1.f1, .string x.f1.f2], [.int .i64 x.f2, .int .i64 x.f3.f0, .float .f64 x.f3.f1, .string x.f3.f2], rfl, (k54_mkM w base ok x.f1 ), ⟨[.int .i64 x.f2], [.int .i64 x.f3.f0, .float .f64 x.f3.f1, .string x.f3.f2], rfl, rfl, (k54_mkM w base ok x.f3 )⟩⟩⟩
def rd_T56 (xs : List S56) (i : Int) : S56 := xs.getD i.toNat z56
theorem at_T56 {w : World} {A : Option Addr} {n : Nat} {xs : List S56} (h : Kd.C k56 w A n xs) (i : Int) (h0 : 0 ≤ i) (h1 : i < n) : ∃ ad , A = some ad ∧ w.cell? (ad.add (i.toNat * 8)) = some (.string (rd_T56 xs i).f0) ∧ w.cell? ⟨(ad.add (i.toNat * 8)).block, (ad.add (i.toNat * 8)).off + 1, none⟩ = some (.int .i64 (rd_T56 xs i).f1.f0) ∧ w.cell? ⟨(ad.add (i.toNat * 8)).block, (ad.add (i.toNat * 8)).off + 2, none⟩ = some (.float .f64 (rd_T56 xs i).f1.f1) ∧ w.cell? ⟨(ad.add (i.toNat * 8)).block, (ad.add (i.toNat * 8)).off + 3, none⟩ = some (.string (rd_T56 xs i).f1.f2) ∧ w.cell? ⟨(ad.add (i.toNat * 8)).block, (ad.add (i.toNat * 8)).off + 4, none⟩ = some (.int .i64 (rd_T56 xs i).f2) ∧ w.cell? ⟨(ad.add (i.toNat * 8)).block, (ad.add (i.toNat * 8)).off + 5, none⟩ = some (.int .i64 (rd_T56 xs i).f3.f0) ∧ w.cell? ⟨(ad.add (i.toNat * 8)).block, (ad.add (i.toNat * 8)).off + 6, none⟩ = some (.float .f64 (rd_T56 xs i).f3.f1) ∧ w.cell? ⟨(ad.add (i.toNat * 8)).block, (ad.add (i.toNat * 8)).off + 7, none⟩ = some (.string (rd_T56 xs i).f3.f2) := by
  obtain ⟨ad, c, e, _, hK, hc0⟩ := Kd.C_get h z56 i h0 h1
  have hc : ∀ j u, c[j]? = some u → w.cell? (ad.add (i.toNat * 8 + j)) = some u := hc0
  obtain rfl := k56_open hK
  exact ⟨ad, e, hc 0 _ rfl, by rw [← add_field _ _ 1 (by omega)]; exact hc 1 _ rfl, by rw [← add_field _ _ 2 (by omega)]; exact hc 2 _ rfl, by rw [← add_field _ _ 3 (by omega)]; exact hc 3 _ rfl, by rw [← add_field _ _ 4 (by omega)]; exact hc 4 _ rfl, by rw [← add_field _ _ 5 (by omega)]; exact hc 5 _ rfl, by rw [← add_field _ _ 6 (by omega)]; exact hc 6 _ rfl, by rw [← add_field _ _ 7 (by omega)]; exact hc 7 _ rfl⟩
structure S26 where
  f0 : Bool
  f1 : (List S56)
  f2 : (List ByteArray)
  f3 : (List Int)
def wf26 (x : S26) : Prop := True ∧ (x.f1.length ≤ 9223372036854775807 ∧ ∀ y ∈ x.f1, wf56 y) ∧ (x.f2.length ≤ 9223372036854775807 ∧ ∀ y ∈ x.f2, y.size ≤ 9223372036854775807) ∧ (x.f3.length ≤ 9223372036854775807 ∧ ∀ y ∈ x.f3, (Lit.int .i64 y).wf = true)
def k26 : Kd S26 := Kd.iso (Kd.pair Kd.bool (Kd.pair (Kd.slice 56 k56) (Kd.pair (Kd.slice 9 Kd.string) (Kd.slice 3 (Kd.int .i64))))) (fun x : S26 => (x.f0, x.f1, x.f2, x.f3))
theorem k26_open {w : World} {x : S26} {cs : List Value} (h : k26.K w x cs) : ∃ A1 c1 A2 c2 A3 c3, cs = [.bool x.f0, .slice A1 x.f1.length c1, .slice A2 x.f2.length c2, .slice A3 x.f3.length c3] ∧ x.f1.length ≤ c1 ∧ k56.C w A1 x.f1.length x.f1 ∧ x.f2.length ≤ c2 ∧ Kd.string.C w A2 x.f2.length x.f2 ∧ x.f3.length ≤ c3 ∧ (Kd.int .i64).C w A3 x.f3.length x.f3 := by
  obtain ⟨_, _, rfl, rfl, ⟨_, _, rfl, ⟨A1, c1, rfl, l1, g1⟩, ⟨_, _, rfl, ⟨A2, c2, rfl, l2, g2⟩, ⟨A3, c3, rfl, l3, g3⟩⟩⟩⟩ := h
  exact ⟨A1, c1, A2, c2, A3, c3, rfl, l1, g1, l2, g2, l3, g3⟩
end Go.Proofs.Ytmmjpieafbjggaa.P
end
section
set_option linter.unusedVariables false
namespace Go.Proofs.YtmmjpieafbjggaaW.PrintLast
open Go.RowKit Go.Proofs.YtmmjpieafbjggaaW.PrintWords Go.Proofs.YtmmjpieafbjggaaW.PrintMore
section
variable {P : Program} {ops : Array Oper} {Q : Exit → Act → World → Prop} {md : Region.Mode} {S : World → Prop} {ds : List Nat} {T : Bool × List (List Nat × List Nat)} {B : List Nat}
  {oi : Oper} {v : Value} {fuel : Nat} {l l' : Array Bool} {a a' : Act} {w : World}
theorem pA (i : Nat) (N : Tmp) (hT : Aside0 (rtab md ops = T)) (h : wpAnyLast P md ops Q S ds fuel l' a' w)
    (hi : ops[i]? = some oi := by exact rfl) (hN : oi.dst = some N := by exact rfl)
    (hl : l.setIfInBounds i true = l' := by simp only [List.setIfInBounds_toArray, List.set_cons_zero, List.set_cons_succ]; rfl)
    (hc : anyT T l.toList l'.toList i = true := by kernel_rfl)
    (hw : Region.wanted oi (yielded ops a.tmps) = true := by rfl)
    (hy : ∀ w' : World, (execOp a.eval oi).run P w' = .ok (.value v) w' := by intro w'; go_simp; with_reducible rfl)
    (hQ : ∀ c a w, Q (.panic c) (a.put oi.dst v) w → Q (.panic c) a w := by exact fun _ _ _ h => h)
    (ha : a.put (some N) v = a' := by simp only [Act.put, List.setIfInBounds_toArray, List.set_cons_zero, List.set_cons_succ, i64_w, i32_w]; rfl) : wpAnyLast P md ops Q S ds (fuel + 1) l a w :=
  pure_ l' hi hN (any_of hT.out hc) hQ (Or.inl ⟨hw, hy⟩) ha h
theorem pU (i : Nat) (N : Tmp) (hT : Aside0 (rtab md ops = T)) (h : wpAnyLast P md ops Q S ds fuel l' a' w)
    (hi : ops[i]? = some oi := by exact rfl) (hN : oi.dst = some N := by exact rfl)
    (hl : l.setIfInBounds i true = l' := by simp only [List.setIfInBounds_toArray, List.set_cons_zero, List.set_cons_succ]; rfl)
    (hc : anyT T l.toList l'.toList i = true := by kernel_rfl)
    (hw : Region.wanted oi (yielded ops a.tmps) = false := by rfl)
    (hQ : ∀ c a w, Q (.panic c) (a.put oi.dst undef) w → Q (.panic c) a w := by exact fun _ _ _ h => h)
    (ha : a.put (some N) undef = a' := by simp only [Act.put, List.setIfInBounds_toArray, List.set_cons_zero, List.set_cons_succ, i64_w, i32_w]; rfl) : wpAnyLast P md ops Q S ds (fuel + 1) l a w :=
  pure_ l' hi hN (any_of hT.out hc) hQ (Or.inr ⟨hw, rfl⟩) ha h
theorem tA (i : Nat) (N : Tmp) (hT : Aside0 (rtab md ops = T)) (hB : Aside0 (waitsOk T.2 B = true)) (hS : S w) (h : wpAnyLast P md ops Q S ds fuel l' a' w)
    (hi : ops[i]? = some oi := by exact rfl) (hN : oi.dst = some N := by exact rfl)
    (hl : l.setIfInBounds i true = l' := by simp only [List.setIfInBounds_toArray, List.set_cons_zero, List.set_cons_succ]; rfl)
    (hc : takeW T B ds l.toList l'.toList i = true := by kernel_rfl)
    (hw : Region.wanted oi (yielded ops a.tmps) = true := by rfl)
    (hy : ∀ w' : World, S w' → (execOp a.eval oi).run P w' = .ok (.value v) w')
    (hQ : ∀ c a w, Q (.panic c) (a.put oi.dst v) w → Q (.panic c) a w := by exact fun _ _ _ h => h)
    (ha : a.put (some N) v = a' := by simp only [Act.put, List.setIfInBounds_toArray, List.set_cons_zero, List.set_cons_succ, i64_w, i32_w]; rfl) : wpAnyLast P md ops Q S ds (fuel + 1) l a w :=
  take_ l' hi hN (take_ofW hT.out hB.out hc) hQ (Or.inl ⟨hw, hy⟩) hS ha h
theorem oA (i : Nat) (N : Option Tmp) (hT : Aside0 (rtab md ops = T))
    (h : ∀ K : Act → World → Prop, Shut (∀ a' w', S w' → (S w' → wpAnyLast P md ops Q S ds fuel l' a' w') → K a' w') → if Region.wanted oi (yielded ops a.tmps) = true then Oper.wp P oi a w K Q else K (a.put N undef) w)
    (hi : ops[i]? = some oi := by exact rfl) (hN : oi.dst = N := by exact rfl)
    (hl : l.setIfInBounds i true = l' := by simp only [List.setIfInBounds_toArray, List.set_cons_zero, List.set_cons_succ]; rfl)
    (hc : (readyT T.2 l.toList == [i] && l.toList.set i true == l'.toList) = true := by kernel_rfl) (hd : i ∉ ds := by decide) : wpAnyLast P md ops Q S ds (fuel + 1) l a w :=
  one_ l' hi hN (one_of hT.out hc) hd h
theorem gL {rest : List Oper} (N : Option Tmp) {f : FuncId} {fn : Func} {as_ : Array Operand} {ts : Array TypeId} (hf : P.funcs[f]? = some fn) (args : Array Value)
    (h : Calls P f args w fun e w' => ∃ v, e = .returned v ∧ wpList P ops Q rest (a.put N v) w')
    (hd : oi.dst = N := by exact rfl) (hg : oi.guard = none := by exact rfl) (hname : (fn.name == "runtime.NumGoroutine") = false := by kernel_rfl) (hb : fn.body.isSome = true := by exact rfl)
    (hop : oi.op = .call { callee := .value (.func f), args := as_, argTypes := ts } := by exact rfl)
    (hargs : as_.map a.eval = args := by (try simp only [List.map_toArray, List.map_cons, List.map_nil]); first | done | rfl | (simp only [List.length_drop, List.length_take]; rfl)) : wpList P ops Q (oi :: rest) a w :=
  goesL_ N hd hg hf hname hb args hop hargs h
end
end Go.Proofs.YtmmjpieafbjggaaW.PrintLast
namespace Go.Proofs.YtmmjpieafbjggaaW.PrintWords
open Go.RowKit
section
variable {α : Type} {d : Kd α} {e base n : Nat} {ok : Nat → Prop} {u v : Value} {xs : List α} {w0 W w1 : World}
theorem rB (X : Aside0 (Kd.R d e w0 base ok u xs)) (hb : Below W.heap.size W w1) (h : Kd.R d e w0 base ok u xs → Kd.R d e W base ok u xs := by intro h_; (with_reducible repeat (first | apply Kd.R_alloc | apply Kd.R_drewN | apply Kd.R_drew)); exact h_) : Aside0 (Kd.R d e w1 base ok u xs) := ⟨Kd.R_below (h X.out) hb⟩
theorem rE (X : Aside0 (Kd.R d e w0 base ok u xs)) (hv : ∀ k, v.ownBlock = some k → W.heap.size ≤ k) (hb : Below W.heap.size W w1) (h : Kd.R d e w0 base ok u xs → Kd.R d e W base ok u xs := by intro h_; (with_reducible repeat (first | apply Kd.R_alloc | apply Kd.R_drewN | apply Kd.R_drew)); exact h_) : Aside0 (Kd.R d e w1 base (fun k => ok k ∧ some k ≠ v.ownBlock) u xs) := ⟨Kd.R_elder' (h X.out) hv hb⟩
theorem vB (X : Aside0 (Kd.V d e w0 base ok u xs)) (hb : Below W.heap.size W w1) (h : Kd.V d e w0 base ok u xs → Kd.V d e W base ok u xs := by intro h_; (with_reducible repeat (first | apply Kd.V_alloc | apply Kd.V_drewN | apply Kd.V_drew)); exact h_) : Aside0 (Kd.V d e w1 base ok u xs) := ⟨Kd.V_below (h X.out) hb⟩
theorem vE (X : Aside0 (Kd.V d e w0 base ok u xs)) (hv : ∀ k, v.ownBlock = some k → W.heap.size ≤ k) (hb : Below W.heap.size W w1) (h : Kd.V d e w0 base ok u xs → Kd.V d e W base ok u xs := by intro h_; (with_reducible repeat (first | apply Kd.V_alloc | apply Kd.V_drewN | apply Kd.V_drew)); exact h_) : Aside0 (Kd.V d e w1 base (fun k => ok k ∧ some k ≠ v.ownBlock) u xs) := ⟨Kd.V_elder' (h X.out) hv hb⟩
theorem rF (X : Aside0 (Kd.R d e w0 base ok u xs)) (k : Nat) (hn : W.heap.size ≤ k) (h : Kd.R d e w0 base ok u xs → Kd.R d e W base ok u xs := by intro h_; (with_reducible repeat (first | apply Kd.R_alloc | apply Kd.R_drewN | apply Kd.R_drew)); exact h_) : some k ≠ u.ownBlock := Kd.fresh' (Kd.R_lt (h X.out)) k hn
end
end Go.Proofs.YtmmjpieafbjggaaW.PrintWords
namespace Go.Proofs.Ytmmjpieafbjggaa.P
open Go.RowKit Go.Proofs.YtmmjpieafbjggaaW.PrintWords Go.Proofs.YtmmjpieafbjggaaW.PrintLast Go.Proofs.YtmmjpieafbjggaaW.PrintMore
theorem xB {A : Prop} {w w0 w1 : World} (HB : Aside0 (Below w.heap.size w w0)) (hA : A := by first | rfl | (simp [errW_none, errW_some] <;> rfl) | (simp [*, errW_none, errW_some] <;> rfl))
    (h : Below w.heap.size w w0 → Below w.heap.size w w1 := by intro h_; repeat (first | (with_reducible first | exact h_ | apply below_alloc | apply pw_below_drewN | apply below_drew1 | refine below_set ?_ (Aside0.out (by assumption))) | exact h_)) : A ∧ Below w.heap.size w w1 := ⟨hA, h HB.out⟩
end Go.Proofs.Ytmmjpieafbjggaa.P
end
section
namespace Go.Proofs.Ytmmjpieafbjggaa.P
open Go.RowKit Go.Proofs.YtmmjpieafbjggaaW.PrintWords Go.Proofs.YtmmjpieafbjggaaW.PrintLast Go.Proofs.YtmmjpieafbjggaaW.PrintMore
attribute [local go_sem] max2_int min2_int max_two min_two max_three min_three max_four min_four   -- for this text's walks alone
attribute [local go_sem] x_str_gtr x_str_leq x_str_geq ext_bits ext_frombits ext_neg x_store_float Instr.field asAgg
set_option linter.unusedVariables false
set_option linter.unusedSimpArgs false
def key_May.f (a0 : ByteArray) : Option (Bool) := if a0.toList = ([] : List UInt8) then (some false) else (some (decide ((a0.size : Int) ≤ 16)))
set_option maxHeartbeats 8000000 in
set_option maxRecDepth 100000 in
theorem key_May.calls (a0 : ByteArray) (r : Bool) (w : World) (h : key_May.f a0 = some r) :
  Calls Try.prog 34 #[.string a0] w fun e w' => e = .returned (.bool r) ∧ Drawn0 w w' := by
 have H : (if a0.toList = ([] : List UInt8) then (some false) else (some (decide ((a0.size : Int) ≤ 16)))) = some r := h
 clear h
 by_cases c2 : a0.toList = ([] : List UInt8)
 rotate_left
 ·rw [if_neg c2] at H
  have c2b0 : (a0.toList == ([] : List UInt8)) = false := beq_eq_false_iff_ne.mpr c2
  have c2b1 : (a0.toList != ([] : List UInt8)) = true := bne_iff_ne.mpr c2
  obtain rfl := Option.some.inj H
  go_enter Try.func34, Try.ntmps34
  go_wp2
  go_ret
  exact ⟨by first | rfl | (simp; done) | (simp [*]; done), by repeat (first | exact Drawn0.refl _ | apply Drawn0.step)⟩
 rw [if_pos c2] at H
 have c2b0 : (a0.toList == ([] : List UInt8)) = true := beq_iff_eq.mpr c2
 have c2b1 : (a0.toList != ([] : List UInt8)) = false := bne_eq_false_iff_eq.mpr c2
 clear c2
 obtain rfl := Option.some.inj H
 go_enter Try.func34, Try.ntmps34
 go_wp2
 go_ret
 exact ⟨by first | rfl | (simp; done) | (simp [*]; done), by repeat (first | exact Drawn0.refl _ | apply Drawn0.step)⟩
def datum_zero.f (a0 : Nat) : Option (Bool) := some (((a0 : Nat) : Int) == 0)
set_option maxHeartbeats 8000000 in
set_option maxRecDepth 100000 in
theorem datum_zero.calls (a0 : Nat) (r : Bool) (w : World) (h : datum_zero.f a0 = some r) :
  Calls Try.prog 62 #[.float .f64 a0] w fun e w' => e = .returned (.bool r) ∧ Drawn0 w w' := by
 have H : (some (((a0 : Nat) : Int) == 0)) = some r := h
 clear h
 obtain rfl := Option.some.inj H
 go_enter Try.func62, Try.ntmps62
 go_wp2
 go_ret
 exact ⟨by first | rfl | (simp; done) | (simp [*]; done), by repeat (first | exact Drawn0.refl _ | apply Drawn0.step)⟩
def math_IsNaN.f (a0 : Nat) : Option (Bool) := some (FloatKind.f64.format.order a0 a0 != some .eq)
set_option maxHeartbeats 8000000 in
set_option maxRecDepth 100000 in
theorem math_IsNaN.calls (a0 : Nat) (r : Bool) (w : World) (h : math_IsNaN.f a0 = some r) :
  Calls Try.prog 71 #[.float .f64 a0] w fun e w' => e = .returned (.bool r) ∧ Drawn0 w w' := by
 have H : (some (FloatKind.f64.format.order a0 a0 != some .eq)) = some r := h
 clear h
 obtain rfl := Option.some.inj H
 go_enter Try.func71, Try.ntmps71
 go_wp2
 go_ret
 exact ⟨by first | rfl | (simp; done) | (simp [*]; done), by repeat (first | exact Drawn0.refl _ | apply Drawn0.step)⟩
def float_Clean.f (a0 : Nat) : Option (Nat) := (math_IsNaN.f a0).bind fun t101 => (if t101 = true then (some 9221120237041090560) else (some a0))
set_option maxHeartbeats 8000000 in
set_option maxRecDepth 100000 in
theorem float_Clean.calls (a0 : Nat) (r : Nat) (w : World) (h : float_Clean.f a0 = some r) :
  Calls Try.prog 64 #[.float .f64 a0] w fun e w' => e = .returned (.float .f64 r) ∧ Drawn0 w w' := by
 have H : ((math_IsNaN.f a0).bind fun t101 => (if t101 = true then (some 9221120237041090560) else (some a0))) = some r := h
 clear h
 replace H := Option.bind_eq_some_iff.mp H
 obtain ⟨t101, A20, H⟩ := H
 replace H : (if t101 = true then (some 9221120237041090560) else (some a0)) = some r := H
 have A2 := Aside0.mk A20
 clear A20
 by_cases c3 : t101 = true
 ·subst c3
  have H1 : (some 9221120237041090560) = some r := by rw [if_pos rfl] at H; exact H
  clear H
  have H := H1
  clear H1
  obtain rfl := Option.some.inj H
  go_enter Try.func64, Try.ntmps64
  go_wp2_with (first | ((with_reducible refine gate_callee (f := 71) rfl ?_); refine gL (some 4) Try.func71 #[.float .f64 a0] ?_; (with_reducible refine (math_IsNaN.calls a0 true _ A2.out).mono ?_); rintro e w' ⟨rfl, ⟨nd, rfl⟩⟩; refine ⟨_, rfl, ?_⟩))
  go_ret
  exact ⟨by first | rfl | (simp; done) | (simp [*]; done), by repeat (first | exact Drawn0.refl _ | apply Drawn0.step)⟩
 replace c3 := Bool.eq_false_iff.mpr c3
 subst c3
 have H1 : (some a0) = some r := by rw [if_neg (show ¬ (false = true) by decide)] at H; exact H
 clear H
 have H := H1
 clear H1
 obtain rfl := Option.some.inj H
 go_enter Try.func64, Try.ntmps64
 go_wp2_with (first | ((with_reducible refine gate_callee (f := 71) rfl ?_); refine gL (some 4) Try.func71 #[.float .f64 a0] ?_; (with_reducible refine (math_IsNaN.calls a0 false _ A2.out).mono ?_); rintro e w' ⟨rfl, ⟨nd, rfl⟩⟩; refine ⟨_, rfl, ?_⟩))
 go_ret
 exact ⟨by first | rfl | (simp; done) | (simp [*]; done), by repeat (first | exact Drawn0.refl _ | apply Drawn0.step)⟩
def datum_May.f (a0_0 : Int) (a0_1 : Nat) (a0_2 : ByteArray) : Option (Bool) := if a0_0 = 0 then ((datum_zero.f a0_1).bind fun t103 => (if t103 = true then (some (a0_2.toList == ([] : List UInt8))) else (some false))) else (if a0_0 = 1 then (if a0_2.toList = ([] : List UInt8) then ((float_Clean.f a0_1).bind fun t104 => (some (((a0_1 : Nat) : Int) == ((t104 : Nat) : Int)))) else (some false)) else (if a0_0 = 2 then ((datum_zero.f a0_1).bind fun t105 => (if t105 = true then (some (decide ((a0_2.size : Int) ≤ 20))) else (some false))) else (some false)))
def datum_May.T5 : Bool × List (List Nat × List Nat) := (true, [([], []), ([0], [0]), ([1], [1]), ([2], [2]), ([3], [3]), ([4, 3], [3, 4]), ([5, 3, 3], [3, 5]), ([3], [3]), ([7, 3], [3, 7]), ([8, 6, 3], [3, 8]), ([9, 9, 3], [3, 9]), ([6, 10, 3], [3, 6, 10]), ([3, 11], [3, 11]), ([12, 10, 0, 1, 2, 3, 4, 5, 6, 7, 8, 9, 10, 11, 12], [12])])
def datum_May.B5 : List Nat := [0, 1, 3, 7, 15, 31, 63, 15, 143, 511, 1023, 2047, 4095, 8191]
theorem datum_May.tab5 : rtab .any (opsOf Try.f48 5) = datum_May.T5 := by kernel_rfl
theorem datum_May.bits5 : waitsOk datum_May.T5.2 datum_May.B5 = true := by kernel_rfl
set_option maxHeartbeats 8000000 in
set_option maxRecDepth 100000 in
theorem datum_May.calls (a0_0 : Int) (a0_1 : Nat) (a0_2 : ByteArray) (r : Bool) (w : World) (h : datum_May.f a0_0 a0_1 a0_2 = some r) :
  Calls Try.prog 48 #[.agg #[.int .i64 a0_0, .float .f64 a0_1, .string a0_2]] w fun e w' => e = .returned (.bool r) ∧ Below w.heap.size w w' := by
 have hu54 := Try.underlying54
 have HB := Aside0.mk (Below.refl w.heap.size w)
 have H : (if a0_0 = 0 then ((datum_zero.f a0_1).bind fun t103 => (if t103 = true then (some (a0_2.toList == ([] : List UInt8))) else (some false))) else (if a0_0 = 1 then (if a0_2.toList = ([] : List UInt8) then ((float_Clean.f a0_1).bind fun t104 => (some (((a0_1 : Nat) : Int) == ((t104 : Nat) : Int)))) else (some false)) else (if a0_0 = 2 then ((datum_zero.f a0_1).bind fun t105 => (if t105 = true then (some (decide ((a0_2.size : Int) ≤ 20))) else (some false))) else (some false)))) = some r := h
 clear h
 by_cases c2 : a0_0 = 0
 ·rw [if_pos c2] at H
  have c2b0 : (a0_0 == 0) = true := beq_iff_eq.mpr c2
  have c2b1 : (a0_0 != 0) = false := bne_eq_false_iff_eq.mpr c2
  clear c2
  replace H := Option.bind_eq_some_iff.mp H
  obtain ⟨t103, A30, H⟩ := H
  replace H : (if t103 = true then (some (a0_2.toList == ([] : List UInt8))) else (some false)) = some r := H
  have A3 := Aside0.mk A30
  clear A30
  by_cases c4 : t103 = true
  ·subst c4
   have H1 : (some (a0_2.toList == ([] : List UInt8))) = some r := by rw [if_pos rfl] at H; exact H
   clear H
   have H := H1
   clear H1
   obtain rfl := Option.some.inj H
   go_enter Try.func48, Try.ntmps48
   go_wp2_with (first | ((with_reducible refine gate_dst (N := 1) rfl ?_); (try (refine gate_guard (by rfl) ?_; dsimp only)); refine box_event ?hg (N := 1) ?hd (cs := #[.int .i64 a0_0, .float .f64 a0_1, .string a0_2]) (t := 54) ?hr ?_; (case hd => rfl); (case hg => rfl); (case hr => first | (go_simp; done) | (go_simp; rfl)); intro gb102 hg w5 hbox hb; have BK102 := Aside0.mk (hbox); have GW102 := bZ HB hg; have GE102 := bZ HB hg; replace HB := bW HB hb; clear hb hbox hg; obtain ⟨hcz6_0, hcz6_1, hcz6_2, hfz6_0, hfz6_1, hfz6_2⟩ := bf3 (w := w5) BK102) | ((with_reducible refine gate_callee (f := 62) rfl ?_); refine gL (some 9) Try.func62 #[.float .f64 a0_1] ?_; (with_reducible refine (datum_zero.calls a0_1 true _ A3.out).mono ?_); rintro e w' ⟨rfl, ⟨nd, rfl⟩⟩; refine ⟨_, rfl, ?_⟩))
   go_ret
   exact xB HB
  replace c4 := Bool.eq_false_iff.mpr c4
  subst c4
  have H1 : (some false) = some r := by rw [if_neg (show ¬ (false = true) by decide)] at H; exact H
  clear H
  have H := H1
  clear H1
  obtain rfl := Option.some.inj H
  go_enter Try.func48, Try.ntmps48
  go_wp2_with (first | ((with_reducible refine gate_dst (N := 1) rfl ?_); (try (refine gate_guard (by rfl) ?_; dsimp only)); refine box_event ?hg (N := 1) ?hd (cs := #[.int .i64 a0_0, .float .f64 a0_1, .string a0_2]) (t := 54) ?hr ?_; (case hd => rfl); (case hg => rfl); (case hr => first | (go_simp; done) | (go_simp; rfl)); intro gb102 hg w7 hbox hb; have BK102 := Aside0.mk (hbox); have GW102 := bZ HB hg; have GE102 := bZ HB hg; replace HB := bW HB hb; clear hb hbox hg; obtain ⟨hcz8_0, hcz8_1, hcz8_2, hfz8_0, hfz8_1, hfz8_2⟩ := bf3 (w := w7) BK102) | ((with_reducible refine gate_callee (f := 62) rfl ?_); refine gL (some 9) Try.func62 #[.float .f64 a0_1] ?_; (with_reducible refine (datum_zero.calls a0_1 false _ A3.out).mono ?_); rintro e w' ⟨rfl, ⟨nd, rfl⟩⟩; refine ⟨_, rfl, ?_⟩))
  go_ret
  exact xB HB
 rw [if_neg c2] at H
 have c2b0 : (a0_0 == 0) = false := beq_eq_false_iff_ne.mpr c2
 have c2b1 : (a0_0 != 0) = true := bne_iff_ne.mpr c2
 by_cases c9 : a0_0 = 1
 rotate_left
 ·rw [if_neg c9] at H
  have c9b0 : (a0_0 == 1) = false := beq_eq_false_iff_ne.mpr c9
  have c9b1 : (a0_0 != 1) = true := bne_iff_ne.mpr c9
  by_cases c18 : a0_0 = 2
  rotate_left
  ·rw [if_neg c18] at H
   have c18b0 : (a0_0 == 2) = false := beq_eq_false_iff_ne.mpr c18
   have c18b1 : (a0_0 != 2) = true := bne_iff_ne.mpr c18
   obtain rfl := Option.some.inj H
   go_enter Try.func48, Try.ntmps48
   go_wp2_with (first | ((with_reducible refine gate_dst (N := 1) rfl ?_); (try (refine gate_guard (by rfl) ?_; dsimp only)); refine box_event ?hg (N := 1) ?hd (cs := #[.int .i64 a0_0, .float .f64 a0_1, .string a0_2]) (t := 54) ?hr ?_; (case hd => rfl); (case hg => rfl); (case hr => first | (go_simp; done) | (go_simp; rfl)); intro gb102 hg w25 hbox hb; have BK102 := Aside0.mk (hbox); have GW102 := bZ HB hg; have GE102 := bZ HB hg; replace HB := bW HB hb; clear hb hbox hg; obtain ⟨hcz26_0, hcz26_1, hcz26_2, hfz26_0, hfz26_1, hfz26_2⟩ := bf3 (w := w25) BK102))
   go_ret
   exact xB HB
  rw [if_pos c18] at H
  have c18b0 : (a0_0 == 2) = true := beq_iff_eq.mpr c18
  have c18b1 : (a0_0 != 2) = false := bne_eq_false_iff_eq.mpr c18
  clear c18
  replace H := Option.bind_eq_some_iff.mp H
  obtain ⟨t105, A190, H⟩ := H
  replace H : (if t105 = true then (some (decide ((a0_2.size : Int) ≤ 20))) else (some false)) = some r := H
  have A19 := Aside0.mk A190
  clear A190
  by_cases c20 : t105 = true
  ·subst c20
   have H1 : (some (decide ((a0_2.size : Int) ≤ 20))) = some r := by rw [if_pos rfl] at H; exact H
   clear H
   have H := H1
   clear H1
   obtain rfl := Option.some.inj H
   go_enter Try.func48, Try.ntmps48
   go_wp2_with (first | ((with_reducible refine gate_dst (N := 1) rfl ?_); (try (refine gate_guard (by rfl) ?_; dsimp only)); refine box_event ?hg (N := 1) ?hd (cs := #[.int .i64 a0_0, .float .f64 a0_1, .string a0_2]) (t := 54) ?hr ?_; (case hd => rfl); (case hg => rfl); (case hr => first | (go_simp; done) | (go_simp; rfl)); intro gb102 hg w21 hbox hb; have BK102 := Aside0.mk (hbox); have GW102 := bZ HB hg; have GE102 := bZ HB hg; replace HB := bW HB hb; clear hb hbox hg; obtain ⟨hcz22_0, hcz22_1, hcz22_2, hfz22_0, hfz22_1, hfz22_2⟩ := bf3 (w := w21) BK102) | ((with_reducible refine gate_callee (f := 62) rfl ?_); refine gL (some 34) Try.func62 #[.float .f64 a0_1] ?_; (with_reducible refine (datum_zero.calls a0_1 true _ A19.out).mono ?_); rintro e w' ⟨rfl, ⟨nd, rfl⟩⟩; refine ⟨_, rfl, ?_⟩))
   go_ret
   exact xB HB
  replace c20 := Bool.eq_false_iff.mpr c20
  subst c20
  have H1 : (some false) = some r := by rw [if_neg (show ¬ (false = true) by decide)] at H; exact H
  clear H
  have H := H1
  clear H1
  obtain rfl := Option.some.inj H
  go_enter Try.func48, Try.ntmps48
  go_wp2_with (first | ((with_reducible refine gate_dst (N := 1) rfl ?_); (try (refine gate_guard (by rfl) ?_; dsimp only)); refine box_event ?hg (N := 1) ?hd (cs := #[.int .i64 a0_0, .float .f64 a0_1, .string a0_2]) (t := 54) ?hr ?_; (case hd => rfl); (case hg => rfl); (case hr => first | (go_simp; done) | (go_simp; rfl)); intro gb102 hg w23 hbox hb; have BK102 := Aside0.mk (hbox); have GW102 := bZ HB hg; have GE102 := bZ HB hg; replace HB := bW HB hb; clear hb hbox hg; obtain ⟨hcz24_0, hcz24_1, hcz24_2, hfz24_0, hfz24_1, hfz24_2⟩ := bf3 (w := w23) BK102) | ((with_reducible refine gate_callee (f := 62) rfl ?_); refine gL (some 34) Try.func62 #[.float .f64 a0_1] ?_; (with_reducible refine (datum_zero.calls a0_1 false _ A19.out).mono ?_); rintro e w' ⟨rfl, ⟨nd, rfl⟩⟩; refine ⟨_, rfl, ?_⟩))
  go_ret
  exact xB HB
 rw [if_pos c9] at H
 have c9b0 : (a0_0 == 1) = true := beq_iff_eq.mpr c9
 have c9b1 : (a0_0 != 1) = false := bne_eq_false_iff_eq.mpr c9
 clear c9
 by_cases c10 : a0_2.toList = ([] : List UInt8)
 rotate_left
 ·rw [if_neg c10] at H
  have c10b0 : (a0_2.toList == ([] : List UInt8)) = false := beq_eq_false_iff_ne.mpr c10
  have c10b1 : (a0_2.toList != ([] : List UInt8)) = true := bne_iff_ne.mpr c10
  obtain rfl := Option.some.inj H
  go_enter Try.func48, Try.ntmps48
  try go_wp2_with (first | ((with_reducible refine gate_dst (N := 1) rfl ?_); (try (refine gate_guard (by rfl) ?_; dsimp only)); refine box_event ?hg (N := 1) ?hd (cs := #[.int .i64 a0_0, .float .f64 a0_1, .string a0_2]) (t := 54) ?hr ?_; (case hd => rfl); (case hg => rfl); (case hr => first | (go_simp; done) | (go_simp; rfl)); intro gb102 hg w15 hbox hb; have BK102 := Aside0.mk (hbox); have GW102 := bZ HB hg; have GE102 := bZ HB hg; replace HB := bW HB hb; clear hb hbox hg; obtain ⟨hcz16_0, hcz16_1, hcz16_2, hfz16_0, hfz16_1, hfz16_2⟩ := bf3 (w := w15) BK102))
  replace BK102 := Aside0.mk (blk_drew BK102.out)
  replace HB := Aside0.mk (below_drew1 HB.out)
  refine start_ (n := 14) (S := fun w' => w'.cell? ⟨gb102, 0, none⟩ = some (.int .i64 a0_0) ∧ w'.cell? ⟨gb102, 1, none⟩ = some (.float .f64 a0_1) ∧ w'.cell? ⟨gb102, 2, none⟩ = some (.string a0_2)) (ds := []) #[false,false,false,false,false,false,false,false,false,false,false,false,false,false] (by kernel_rfl) rfl rfl (be3 BK102) (fun hHeld => ?_); refine with_tabW datum_May.tab5 datum_May.bits5 (fun HT_ HW_ => ?_)
  generalize w15.drew = w17 at BK102 HB hHeld ⊢
  refine pA 0 17 HT_ ?_
  refine tA 1 18 HT_ HW_ hHeld ?_ (hy := by rintro w' ⟨s0, s1, s2⟩; go_simp; with_reducible rfl)
  refine pA 2 19 HT_ ?_
  refine pA 3 20 HT_ ?_
  refine pU 4 21 HT_ ?_
  refine pU 5 22 HT_ ?_
  refine pU 6 23 HT_ ?_
  refine pU 7 24 HT_ ?_
  refine pU 8 25 HT_ ?_
  refine pU 9 26 HT_ ?_
  refine pU 10 27 HT_ ?_
  refine pU 11 28 HT_ ?_
  refine pA 12 29 HT_ ?_
  refine pA 13 2 HT_ ?_
  refine done_ (done_of HT_.out (by kernel_rfl)) ?_
  try go_wp2
  go_ret
  exact xB HB
 rw [if_pos c10] at H
 have c10b0 : (a0_2.toList == ([] : List UInt8)) = true := beq_iff_eq.mpr c10
 have c10b1 : (a0_2.toList != ([] : List UInt8)) = false := bne_eq_false_iff_eq.mpr c10
 clear c10
 replace H := Option.bind_eq_some_iff.mp H
 obtain ⟨t104, A110, H⟩ := H
 replace H : (some (((a0_1 : Nat) : Int) == ((t104 : Nat) : Int))) = some r := H
 have A11 := Aside0.mk A110
 clear A110
 obtain rfl := Option.some.inj H
 go_enter Try.func48, Try.ntmps48
 try go_wp2_with (first | ((with_reducible refine gate_dst (N := 1) rfl ?_); (try (refine gate_guard (by rfl) ?_; dsimp only)); refine box_event ?hg (N := 1) ?hd (cs := #[.int .i64 a0_0, .float .f64 a0_1, .string a0_2]) (t := 54) ?hr ?_; (case hd => rfl); (case hg => rfl); (case hr => first | (go_simp; done) | (go_simp; rfl)); intro gb102 hg w12 hbox hb; have BK102 := Aside0.mk (hbox); have GW102 := bZ HB hg; have GE102 := bZ HB hg; replace HB := bW HB hb; clear hb hbox hg; obtain ⟨hcz13_0, hcz13_1, hcz13_2, hfz13_0, hfz13_1, hfz13_2⟩ := bf3 (w := w12) BK102))
 replace BK102 := Aside0.mk (blk_drew BK102.out)
 replace HB := Aside0.mk (below_drew1 HB.out)
 refine start_ (n := 14) (S := fun w' => w'.cell? ⟨gb102, 0, none⟩ = some (.int .i64 a0_0) ∧ w'.cell? ⟨gb102, 1, none⟩ = some (.float .f64 a0_1) ∧ w'.cell? ⟨gb102, 2, none⟩ = some (.string a0_2)) (ds := []) #[false,false,false,false,false,false,false,false,false,false,false,false,false,false] (by kernel_rfl) rfl rfl (be3 BK102) (fun hHeld => ?_); refine with_tabW datum_May.tab5 datum_May.bits5 (fun HT_ HW_ => ?_)
 generalize w12.drew = w14 at BK102 HB hHeld ⊢
 refine pA 0 17 HT_ ?_
 refine tA 1 18 HT_ HW_ hHeld ?_ (hy := by rintro w' ⟨s0, s1, s2⟩; go_simp; with_reducible rfl)
 refine pA 2 19 HT_ ?_
 refine pA 3 20 HT_ ?_
 refine pA 4 21 HT_ ?_
 refine pA 7 24 HT_ ?_
 refine tA 5 22 HT_ HW_ hHeld ?_ (hy := by rintro w' ⟨s0, s1, s2⟩; go_simp; with_reducible rfl)
 refine pA 6 23 HT_ ?_
 refine tA 8 25 HT_ HW_ hHeld ?_ (hy := by rintro w' ⟨s0, s1, s2⟩; go_simp; with_reducible rfl)
 refine oA 9 (some 26) HT_ (fun K hK => ?_)
 refine goes_ Try.func64 (by kernel_rfl) rfl #[.float .f64 a0_1] (by rfl) rfl rfl (by (try simp only [List.map_toArray, List.map_cons, List.map_nil]); first | done | rfl | (simp only [List.length_drop, List.length_take]; rfl)) ?_
 with_reducible refine (float_Clean.calls a0_1 t104 _ A11.out).mono ?_
 rintro e w' ⟨rfl, ⟨nd, rfl⟩⟩
 refine ⟨_, rfl, ?_⟩
 refine hK.out _ _ (be3 BK102) (fun hHeld => ?_)
 clear hK K
 refine norm_ (a' := ?_) ?_ ?_
 rotate_left
 ·show Act.put _ (some 26) _ = _
  simp only [Act.put, List.setIfInBounds_toArray, List.set_cons_zero, List.set_cons_succ, i64_w, i32_w]
  rfl
 refine pA 10 27 HT_ ?_
 refine pA 11 28 HT_ ?_
 refine pA 12 29 HT_ ?_
 refine pA 13 2 HT_ ?_
 refine done_ (done_of HT_.out (by kernel_rfl)) ?_
 try go_wp2
 go_ret
 exact xB HB
def cell_none.f (a0_0 : Int) (a0_1 : Nat) (a0_2 : ByteArray) : Option (Bool) := some (a0_0 == 0)
set_option maxHeartbeats 8000000 in
set_option maxRecDepth 100000 in
theorem cell_none.calls (a0_0 : Int) (a0_1 : Nat) (a0_2 : ByteArray) (r : Bool) (w : World) (h : cell_none.f a0_0 a0_1 a0_2 = some r) :
  Calls Try.prog 49 #[.agg #[.int .i64 a0_0, .float .f64 a0_1, .string a0_2]] w fun e w' => e = .returned (.bool r) ∧ Below w.heap.size w w' := by
 have hu54 := Try.underlying54
 have HB := Aside0.mk (Below.refl w.heap.size w)
 have H : (some (a0_0 == 0)) = some r := h
 clear h
 obtain rfl := Option.some.inj H
 go_enter Try.func49, Try.ntmps49
 go_wp2_with (first | ((with_reducible refine gate_dst (N := 1) rfl ?_); refine box_event ?hg (N := 1) ?hd (cs := #[.int .i64 a0_0, .float .f64 a0_1, .string a0_2]) (t := 54) ?hr ?_; (case hd => rfl); (case hg => rfl); (case hr => first | (go_simp; done) | (go_simp; rfl)); intro gb106 hg w2 hbox hb; have BK106 := Aside0.mk (hbox); have GW106 := bZ HB hg; have GE106 := bZ HB hg; replace HB := bW HB hb; clear hb hbox hg; obtain ⟨hcz3_0, hcz3_1, hcz3_2, hfz3_0, hfz3_1, hfz3_2⟩ := bf3 (w := w2) BK106))
 go_ret
 exact xB HB
def cell_May.j0 : Nat → Bool → ByteArray → Int → Nat → ByteArray → Int → Int → Nat → ByteArray → Option (Bool)
 | 0, _, _, _, _, _, _, _, _, _ => none
 | k + 1, x28, x108000, x108001, x108002, x108003, x108004, x108005, x108006, x108007 => if x28 = true then (some false) else (if x108004 > 0 then (some true) else ((cell_none.f x108005 x108006 x108007).bind fun t111 => (if t111 = true then ((cell_none.f x108001 x108002 x108003).bind fun t112 => (some (!t112))) else (some false))))
def cell_May.f (k : Nat) (a0_0 : ByteArray) (a0_1 : Int) (a0_2 : Nat) (a0_3 : ByteArray) (a0_4 : Int) (a0_5 : Int) (a0_6 : Nat) (a0_7 : ByteArray) : Option (Bool) := (key_May.f a0_0).bind fun t108 => (if t108 = true then ((datum_May.f a0_1 a0_2 a0_3).bind fun t109 => (if t109 = true then ((datum_May.f a0_5 a0_6 a0_7).bind fun t110 => (if t110 = true then (if a0_4 < 0 then (cell_May.j0 k true a0_0 a0_1 a0_2 a0_3 a0_4 a0_5 a0_6 a0_7) else (cell_May.j0 k (decide (a0_4 > 1099511627776)) a0_0 a0_1 a0_2 a0_3 a0_4 a0_5 a0_6 a0_7)) else (cell_May.j0 k true a0_0 a0_1 a0_2 a0_3 a0_4 a0_5 a0_6 a0_7))) else (cell_May.j0 k true a0_0 a0_1 a0_2 a0_3 a0_4 a0_5 a0_6 a0_7))) else (cell_May.j0 k true a0_0 a0_1 a0_2 a0_3 a0_4 a0_5 a0_6 a0_7))
theorem cell_May.mono_l : ∀ k, (∀ y0 y1 y2 y3 y4 y5 y6 y7 y8, LeO (cell_May.j0 k y0 y1 y2 y3 y4 y5 y6 y7 y8) (cell_May.j0 (k + 1) y0 y1 y2 y3 y4 y5 y6 y7 y8))
 | 0 => fun _ _ _ _ _ _ _ _ _ r h => by simp [cell_May.j0] at h
 | k + 1 => by
  have ih0 := cell_May.mono_l k
  ·intro y0 y1 y2 y3 y4 y5 y6 y7 y8
   unfold cell_May.j0
   repeat' first
   | (with_reducible exact ih0 _ _ _ _ _ _ _ _ _)
   | (with_reducible exact LeO.refl _)
   | (with_reducible exact LeO.none _)
   | (with_reducible refine LeO.ite ?_ ?_)
   | (with_reducible refine LeO.bind ?_ (fun _ => ?_))
   | exact ih0 _ _ _ _ _ _ _ _ _
   | exact LeO.none _
   | refine LeO.ite ?_ ?_
   | refine LeO.bind ?_ (fun _ => ?_)
theorem cell_May.mono : ∀ a0 a1 a2 a3 a4 a5 a6 a7 k, LeO (cell_May.f k a0 a1 a2 a3 a4 a5 a6 a7) (cell_May.f (k + 1) a0 a1 a2 a3 a4 a5 a6 a7) := by
 intro a0 a1 a2 a3 a4 a5 a6 a7 k
 have ih0 := cell_May.mono_l k
 unfold cell_May.f
 repeat' first
   | (with_reducible exact ih0 _ _ _ _ _ _ _ _ _)
   | (with_reducible exact LeO.refl _)
   | (with_reducible exact LeO.none _)
   | (with_reducible refine LeO.ite ?_ ?_)
   | (with_reducible refine LeO.bind ?_ (fun _ => ?_))
   | exact ih0 _ _ _ _ _ _ _ _ _
   | exact LeO.none _
   | refine LeO.ite ?_ ?_
   | refine LeO.bind ?_ (fun _ => ?_)
set_option maxHeartbeats 8000000 in
set_option maxRecDepth 100000 in
theorem cell_May.calls (k : Nat) (a0_0 : ByteArray) (a0_1 : Int) (a0_2 : Nat) (a0_3 : ByteArray) (a0_4 : Int) (a0_5 : Int) (a0_6 : Nat) (a0_7 : ByteArray) (r : Bool) (w : World) (h : cell_May.f k a0_0 a0_1 a0_2 a0_3 a0_4 a0_5 a0_6 a0_7 = some r) :
  Calls Try.prog 33 #[.agg #[.string a0_0, .int .i64 a0_1, .float .f64 a0_2, .string a0_3, .int .i64 a0_4, .int .i64 a0_5, .float .f64 a0_6, .string a0_7]] w fun e w' => e = .returned (.bool r) ∧ Below w.heap.size w w' := by
 have hu62 := Try.underlying62
 have hu54 := Try.underlying54
 have HB := Aside0.mk (Below.refl w.heap.size w)
 have H : ((key_May.f a0_0).bind fun t108 => (if t108 = true then ((datum_May.f a0_1 a0_2 a0_3).bind fun t109 => (if t109 = true then ((datum_May.f a0_5 a0_6 a0_7).bind fun t110 => (if t110 = true then (if a0_4 < 0 then (cell_May.j0 k true a0_0 a0_1 a0_2 a0_3 a0_4 a0_5 a0_6 a0_7) else (cell_May.j0 k (decide (a0_4 > 1099511627776)) a0_0 a0_1 a0_2 a0_3 a0_4 a0_5 a0_6 a0_7)) else (cell_May.j0 k true a0_0 a0_1 a0_2 a0_3 a0_4 a0_5 a0_6 a0_7))) else (cell_May.j0 k true a0_0 a0_1 a0_2 a0_3 a0_4 a0_5 a0_6 a0_7))) else (cell_May.j0 k true a0_0 a0_1 a0_2 a0_3 a0_4 a0_5 a0_6 a0_7))) = some r := h
 clear h
 have HC2 := Aside0.mk H
 clear H
 go_enter Try.func33, Try.ntmps33
 go_upto_region 1 with (first | ((with_reducible refine gate_dst (N := 1) rfl ?_); refine box_event ?hg (N := 1) ?hd (cs := #[.string a0_0, .int .i64 a0_1, .float .f64 a0_2, .string a0_3, .int .i64 a0_4, .int .i64 a0_5, .float .f64 a0_6, .string a0_7]) (t := 62) ?hr ?_; (case hd => rfl); (case hg => rfl); (case hr => first | (go_simp; done) | (go_simp; rfl)); intro gb107 hg w3 hbox hb; have BK107 := Aside0.mk (hbox); have GW107 := bZ HB hg; have GE107 := bZ HB hg; replace HB := bW HB hb; clear hb hbox hg))
 (try simp only [Act.put, List.setIfInBounds_toArray, List.set_cons_zero, List.set_cons_succ])
 go_cut [28] (fun v28 wc => ∃ (kq : Nat) (x28_1 : Bool), v28 = .bool x28_1 ∧ Aside0 (cell_May.j0 kq x28_1 a0_0 a0_1 a0_2 a0_3 a0_4 a0_5 a0_6 a0_7 = some r) ∧ Aside0 (kq ≤ k) ∧ Aside0 (wc.heap[gb107]? = some (.cells #[.string a0_0, .int .i64 a0_1, .float .f64 a0_2, .string a0_3, .int .i64 a0_4, .int .i64 a0_5, .float .f64 a0_6, .string a0_7] 62 (0, 0))) ∧ Aside0 (Below w.heap.size w wc))
 case first =>
  have H := HC2.out
  clear HC2
  replace H := Option.bind_eq_some_iff.mp H
  obtain ⟨t108, A40, H⟩ := H
  replace H : (if t108 = true then ((datum_May.f a0_1 a0_2 a0_3).bind fun t109 => (if t109 = true then ((datum_May.f a0_5 a0_6 a0_7).bind fun t110 => (if t110 = true then (if a0_4 < 0 then (cell_May.j0 k true a0_0 a0_1 a0_2 a0_3 a0_4 a0_5 a0_6 a0_7) else (cell_May.j0 k (decide (a0_4 > 1099511627776)) a0_0 a0_1 a0_2 a0_3 a0_4 a0_5 a0_6 a0_7)) else (cell_May.j0 k true a0_0 a0_1 a0_2 a0_3 a0_4 a0_5 a0_6 a0_7))) else (cell_May.j0 k true a0_0 a0_1 a0_2 a0_3 a0_4 a0_5 a0_6 a0_7))) else (cell_May.j0 k true a0_0 a0_1 a0_2 a0_3 a0_4 a0_5 a0_6 a0_7)) = some r := H
  have A4 := Aside0.mk A40
  clear A40
  by_cases c5 : t108 = true
  rotate_left
  ·replace c5 := Bool.eq_false_iff.mpr c5
   subst c5
   have H1 : (cell_May.j0 k true a0_0 a0_1 a0_2 a0_3 a0_4 a0_5 a0_6 a0_7) = some r := by rw [if_neg (show ¬ (false = true) by decide)] at H; exact H
   clear H
   have H := H1
   clear H1
   have H' := Aside0.mk H
   clear H
   obtain ⟨hcz27_0, hcz27_1, hcz27_2, hcz27_3, hcz27_4, hcz27_5, hcz27_6, hcz27_7, hfz27_0, hfz27_1, hfz27_2, hfz27_3, hfz27_4, hfz27_5, hfz27_6, hfz27_7⟩ := bf8 (w := w3) BK107
   go_wp2_with (first | ((with_reducible refine gate_callee (f := 34) rfl ?_); refine gL (some 5) Try.func34 #[.string a0_0] ?_; (with_reducible refine (key_May.calls a0_0 false _ A4.out).mono ?_); rintro e w' ⟨rfl, ⟨nd, rfl⟩⟩; refine ⟨_, rfl, ?_⟩))
   go_meet
   case rel => exact ⟨_, (true), (by first | rfl | (simp; done) | (simp [*]; done)), H', ⟨by first | omega | exact Nat.le_refl _⟩, ⟨by (with_reducible repeat (first | refine blk_drewN ?_ _ | refine blk_drew ?_ | refine blk_alloc ?_ _)); exact BK107.out⟩, ⟨by repeat (first | (with_reducible first | exact HB.out | apply below_alloc | apply pw_below_drewN | apply below_drew1 | refine below_set ?_ GE107.out) | exact HB.out)⟩⟩
  subst c5
  have H1 : ((datum_May.f a0_1 a0_2 a0_3).bind fun t109 => (if t109 = true then ((datum_May.f a0_5 a0_6 a0_7).bind fun t110 => (if t110 = true then (if a0_4 < 0 then (cell_May.j0 k true a0_0 a0_1 a0_2 a0_3 a0_4 a0_5 a0_6 a0_7) else (cell_May.j0 k (decide (a0_4 > 1099511627776)) a0_0 a0_1 a0_2 a0_3 a0_4 a0_5 a0_6 a0_7)) else (cell_May.j0 k true a0_0 a0_1 a0_2 a0_3 a0_4 a0_5 a0_6 a0_7))) else (cell_May.j0 k true a0_0 a0_1 a0_2 a0_3 a0_4 a0_5 a0_6 a0_7))) = some r := by rw [if_pos rfl] at H; exact H
  clear H
  have H := H1
  clear H1
  replace H := Option.bind_eq_some_iff.mp H
  obtain ⟨t109, A60, H⟩ := H
  replace H : (if t109 = true then ((datum_May.f a0_5 a0_6 a0_7).bind fun t110 => (if t110 = true then (if a0_4 < 0 then (cell_May.j0 k true a0_0 a0_1 a0_2 a0_3 a0_4 a0_5 a0_6 a0_7) else (cell_May.j0 k (decide (a0_4 > 1099511627776)) a0_0 a0_1 a0_2 a0_3 a0_4 a0_5 a0_6 a0_7)) else (cell_May.j0 k true a0_0 a0_1 a0_2 a0_3 a0_4 a0_5 a0_6 a0_7))) else (cell_May.j0 k true a0_0 a0_1 a0_2 a0_3 a0_4 a0_5 a0_6 a0_7)) = some r := H
  have A6 := Aside0.mk A60
  clear A60
  by_cases c7 : t109 = true
  rotate_left
  ·replace c7 := Bool.eq_false_iff.mpr c7
   subst c7
   have H1 : (cell_May.j0 k true a0_0 a0_1 a0_2 a0_3 a0_4 a0_5 a0_6 a0_7) = some r := by rw [if_neg (show ¬ (false = true) by decide)] at H; exact H
   clear H
   have H := H1
   clear H1
   have H' := Aside0.mk H
   clear H
   obtain ⟨hcz25_0, hcz25_1, hcz25_2, hcz25_3, hcz25_4, hcz25_5, hcz25_6, hcz25_7, hfz25_0, hfz25_1, hfz25_2, hfz25_3, hfz25_4, hfz25_5, hfz25_6, hfz25_7⟩ := bf8 (w := w3) BK107
   go_wp2_with (first | ((with_reducible refine gate_callee (f := 34) rfl ?_); refine gL (some 5) Try.func34 #[.string a0_0] ?_; (with_reducible refine (key_May.calls a0_0 true _ A4.out).mono ?_); rintro e w' ⟨rfl, ⟨nd, rfl⟩⟩; refine ⟨_, rfl, ?_⟩) | (go_at_call 48; (with_reducible refine (datum_May.calls a0_1 a0_2 a0_3 false _ A6.out).mono ?_); rintro e w26 ⟨rfl, hb⟩; replace BK107 := bB BK107 hb; replace HB := bW HB hb; (try clear hb); (try clear hb2); (try clear hk); (try clear hi)))
   go_meet
   case rel => exact ⟨_, (true), (by first | rfl | (simp; done) | (simp [*]; done)), H', ⟨by first | omega | exact Nat.le_refl _⟩, ⟨by (with_reducible repeat (first | refine blk_drewN ?_ _ | refine blk_drew ?_ | refine blk_alloc ?_ _)); exact BK107.out⟩, ⟨by repeat (first | (with_reducible first | exact HB.out | apply below_alloc | apply pw_below_drewN | apply below_drew1 | refine below_set ?_ GE107.out) | exact HB.out)⟩⟩
  subst c7
  have H1 : ((datum_May.f a0_5 a0_6 a0_7).bind fun t110 => (if t110 = true then (if a0_4 < 0 then (cell_May.j0 k true a0_0 a0_1 a0_2 a0_3 a0_4 a0_5 a0_6 a0_7) else (cell_May.j0 k (decide (a0_4 > 1099511627776)) a0_0 a0_1 a0_2 a0_3 a0_4 a0_5 a0_6 a0_7)) else (cell_May.j0 k true a0_0 a0_1 a0_2 a0_3 a0_4 a0_5 a0_6 a0_7))) = some r := by rw [if_pos rfl] at H; exact H
  clear H
  have H := H1
  clear H1
  replace H := Option.bind_eq_some_iff.mp H
  obtain ⟨t110, A80, H⟩ := H
  replace H : (if t110 = true then (if a0_4 < 0 then (cell_May.j0 k true a0_0 a0_1 a0_2 a0_3 a0_4 a0_5 a0_6 a0_7) else (cell_May.j0 k (decide (a0_4 > 1099511627776)) a0_0 a0_1 a0_2 a0_3 a0_4 a0_5 a0_6 a0_7)) else (cell_May.j0 k true a0_0 a0_1 a0_2 a0_3 a0_4 a0_5 a0_6 a0_7)) = some r := H
  have A8 := Aside0.mk A80
  clear A80
  by_cases c9 : t110 = true
  rotate_left
  ·replace c9 := Bool.eq_false_iff.mpr c9
   subst c9
   have H1 : (cell_May.j0 k true a0_0 a0_1 a0_2 a0_3 a0_4 a0_5 a0_6 a0_7) = some r := by rw [if_neg (show ¬ (false = true) by decide)] at H; exact H
   clear H
   have H := H1
   clear H1
   have H' := Aside0.mk H
   clear H
   obtain ⟨hcz21_0, hcz21_1, hcz21_2, hcz21_3, hcz21_4, hcz21_5, hcz21_6, hcz21_7, hfz21_0, hfz21_1, hfz21_2, hfz21_3, hfz21_4, hfz21_5, hfz21_6, hfz21_7⟩ := bf8 (w := w3) BK107
   go_wp2_with (first | ((with_reducible refine gate_callee (f := 34) rfl ?_); refine gL (some 5) Try.func34 #[.string a0_0] ?_; (with_reducible refine (key_May.calls a0_0 true _ A4.out).mono ?_); rintro e w' ⟨rfl, ⟨nd, rfl⟩⟩; refine ⟨_, rfl, ?_⟩) | (go_at_call 48; (with_reducible refine (datum_May.calls a0_1 a0_2 a0_3 true _ A6.out).mono ?_); rintro e w22 ⟨rfl, hb⟩; replace BK107 := bB BK107 hb; replace HB := bW HB hb; (try clear hb); (try clear hb2); (try clear hk); (try clear hi); obtain ⟨hcz23_0, hcz23_1, hcz23_2, hcz23_3, hcz23_4, hcz23_5, hcz23_6, hcz23_7, hfz23_0, hfz23_1, hfz23_2, hfz23_3, hfz23_4, hfz23_5, hfz23_6, hfz23_7⟩ := bf8 (w := w22) BK107) | (go_at_call 48; (with_reducible refine (datum_May.calls a0_5 a0_6 a0_7 false _ A8.out).mono ?_); rintro e w24 ⟨rfl, hb⟩; replace BK107 := bB BK107 hb; replace HB := bW HB hb; (try clear hb); (try clear hb2); (try clear hk); (try clear hi)))
   go_meet
   case rel => exact ⟨_, (true), (by first | rfl | (simp; done) | (simp [*]; done)), H', ⟨by first | omega | exact Nat.le_refl _⟩, ⟨by (with_reducible repeat (first | refine blk_drewN ?_ _ | refine blk_drew ?_ | refine blk_alloc ?_ _)); exact BK107.out⟩, ⟨by repeat (first | (with_reducible first | exact HB.out | apply below_alloc | apply pw_below_drewN | apply below_drew1 | refine below_set ?_ GE107.out) | exact HB.out)⟩⟩
  subst c9
  have H1 : (if a0_4 < 0 then (cell_May.j0 k true a0_0 a0_1 a0_2 a0_3 a0_4 a0_5 a0_6 a0_7) else (cell_May.j0 k (decide (a0_4 > 1099511627776)) a0_0 a0_1 a0_2 a0_3 a0_4 a0_5 a0_6 a0_7)) = some r := by rw [if_pos rfl] at H; exact H
  clear H
  have H := H1
  clear H1
  by_cases c10 : a0_4 < 0
  ·rw [if_pos c10] at H
   have c10b0 : decide (a0_4 < 0) = true := decide_eq_true c10
   clear c10
   (first | rw [c10b0] | (simp only [i64_w, i32_w]; rw [c10b0]) | skip)
   have H' := Aside0.mk H
   clear H
   obtain ⟨hcz11_0, hcz11_1, hcz11_2, hcz11_3, hcz11_4, hcz11_5, hcz11_6, hcz11_7, hfz11_0, hfz11_1, hfz11_2, hfz11_3, hfz11_4, hfz11_5, hfz11_6, hfz11_7⟩ := bf8 (w := w3) BK107
   go_wp2_with (first | ((with_reducible refine gate_callee (f := 34) rfl ?_); refine gL (some 5) Try.func34 #[.string a0_0] ?_; (with_reducible refine (key_May.calls a0_0 true _ A4.out).mono ?_); rintro e w' ⟨rfl, ⟨nd, rfl⟩⟩; refine ⟨_, rfl, ?_⟩) | (go_at_call 48; (with_reducible refine (datum_May.calls a0_1 a0_2 a0_3 true _ A6.out).mono ?_); rintro e w12 ⟨rfl, hb⟩; replace BK107 := bB BK107 hb; replace HB := bW HB hb; (try clear hb); (try clear hb2); (try clear hk); (try clear hi); obtain ⟨hcz13_0, hcz13_1, hcz13_2, hcz13_3, hcz13_4, hcz13_5, hcz13_6, hcz13_7, hfz13_0, hfz13_1, hfz13_2, hfz13_3, hfz13_4, hfz13_5, hfz13_6, hfz13_7⟩ := bf8 (w := w12) BK107) | (go_at_call 48; (with_reducible refine (datum_May.calls a0_5 a0_6 a0_7 true _ A8.out).mono ?_); rintro e w14 ⟨rfl, hb⟩; replace BK107 := bB BK107 hb; replace HB := bW HB hb; (try clear hb); (try clear hb2); (try clear hk); (try clear hi); obtain ⟨hcz15_0, hcz15_1, hcz15_2, hcz15_3, hcz15_4, hcz15_5, hcz15_6, hcz15_7, hfz15_0, hfz15_1, hfz15_2, hfz15_3, hfz15_4, hfz15_5, hfz15_6, hfz15_7⟩ := bf8 (w := w14) BK107))
   go_meet
   case rel => exact ⟨_, (true), (by first | rfl | (simp; done) | (simp [*]; done)), H', ⟨by first | omega | exact Nat.le_refl _⟩, ⟨by (with_reducible repeat (first | refine blk_drewN ?_ _ | refine blk_drew ?_ | refine blk_alloc ?_ _)); exact BK107.out⟩, ⟨by repeat (first | (with_reducible first | exact HB.out | apply below_alloc | apply pw_below_drewN | apply below_drew1 | refine below_set ?_ GE107.out) | exact HB.out)⟩⟩
  rw [if_neg c10] at H
  have c10b0 : decide (a0_4 < 0) = false := decide_eq_false c10
  clear c10
  (first | rw [c10b0] | (simp only [i64_w, i32_w]; rw [c10b0]) | skip)
  have H' := Aside0.mk H
  clear H
  obtain ⟨hcz16_0, hcz16_1, hcz16_2, hcz16_3, hcz16_4, hcz16_5, hcz16_6, hcz16_7, hfz16_0, hfz16_1, hfz16_2, hfz16_3, hfz16_4, hfz16_5, hfz16_6, hfz16_7⟩ := bf8 (w := w3) BK107
  go_wp2_with (first | ((with_reducible refine gate_callee (f := 34) rfl ?_); refine gL (some 5) Try.func34 #[.string a0_0] ?_; (with_reducible refine (key_May.calls a0_0 true _ A4.out).mono ?_); rintro e w' ⟨rfl, ⟨nd, rfl⟩⟩; refine ⟨_, rfl, ?_⟩) | (go_at_call 48; (with_reducible refine (datum_May.calls a0_1 a0_2 a0_3 true _ A6.out).mono ?_); rintro e w17 ⟨rfl, hb⟩; replace BK107 := bB BK107 hb; replace HB := bW HB hb; (try clear hb); (try clear hb2); (try clear hk); (try clear hi); obtain ⟨hcz18_0, hcz18_1, hcz18_2, hcz18_3, hcz18_4, hcz18_5, hcz18_6, hcz18_7, hfz18_0, hfz18_1, hfz18_2, hfz18_3, hfz18_4, hfz18_5, hfz18_6, hfz18_7⟩ := bf8 (w := w17) BK107) | (go_at_call 48; (with_reducible refine (datum_May.calls a0_5 a0_6 a0_7 true _ A8.out).mono ?_); rintro e w19 ⟨rfl, hb⟩; replace BK107 := bB BK107 hb; replace HB := bW HB hb; (try clear hb); (try clear hb2); (try clear hk); (try clear hi); obtain ⟨hcz20_0, hcz20_1, hcz20_2, hcz20_3, hcz20_4, hcz20_5, hcz20_6, hcz20_7, hfz20_0, hfz20_1, hfz20_2, hfz20_3, hfz20_4, hfz20_5, hfz20_6, hfz20_7⟩ := bf8 (w := w19) BK107))
  go_meet
  case rel => exact ⟨_, (decide (a0_4 > 1099511627776)), (by first | rfl | (simp; done) | (simp [*]; done)), H', ⟨by first | omega | exact Nat.le_refl _⟩, ⟨by (with_reducible repeat (first | refine blk_drewN ?_ _ | refine blk_drew ?_ | refine blk_alloc ?_ _)); exact BK107.out⟩, ⟨by repeat (first | (with_reducible first | exact HB.out | apply below_alloc | apply pw_below_drewN | apply below_drew1 | refine below_set ?_ GE107.out) | exact HB.out)⟩⟩
 case rest =>
  clear HC2
  try clear c1
  try clear p2
  try clear c3
  try clear c5
  try clear c7
  try clear c9
  try clear c10
  try clear c10b0
  try clear hcz11_0
  try clear hcz11_1
  try clear hcz11_2
  try clear hcz11_3
  try clear hcz11_4
  try clear hcz11_5
  try clear hcz11_6
  try clear hcz11_7
  try clear hcz13_0
  try clear hcz13_1
  try clear hcz13_2
  try clear hcz13_3
  try clear hcz13_4
  try clear hcz13_5
  try clear hcz13_6
  try clear hcz13_7
  try clear hcz15_0
  try clear hcz15_1
  try clear hcz15_2
  try clear hcz15_3
  try clear hcz15_4
  try clear hcz15_5
  try clear hcz15_6
  try clear hcz15_7
  try clear hcz16_0
  try clear hcz16_1
  try clear hcz16_2
  try clear hcz16_3
  try clear hcz16_4
  try clear hcz16_5
  try clear hcz16_6
  try clear hcz16_7
  try clear hcz18_0
  try clear hcz18_1
  try clear hcz18_2
  try clear hcz18_3
  try clear hcz18_4
  try clear hcz18_5
  try clear hcz18_6
  try clear hcz18_7
  try clear hcz20_0
  try clear hcz20_1
  try clear hcz20_2
  try clear hcz20_3
  try clear hcz20_4
  try clear hcz20_5
  try clear hcz20_6
  try clear hcz20_7
  try clear hcz21_0
  try clear hcz21_1
  try clear hcz21_2
  try clear hcz21_3
  try clear hcz21_4
  try clear hcz21_5
  try clear hcz21_6
  try clear hcz21_7
  try clear hcz23_0
  try clear hcz23_1
  try clear hcz23_2
  try clear hcz23_3
  try clear hcz23_4
  try clear hcz23_5
  try clear hcz23_6
  try clear hcz23_7
  try clear hcz25_0
  try clear hcz25_1
  try clear hcz25_2
  try clear hcz25_3
  try clear hcz25_4
  try clear hcz25_5
  try clear hcz25_6
  try clear hcz25_7
  try clear hcz27_0
  try clear hcz27_1
  try clear hcz27_2
  try clear hcz27_3
  try clear hcz27_4
  try clear hcz27_5
  try clear hcz27_6
  try clear hcz27_7
  try clear hfz11_0
  try clear hfz11_1
  try clear hfz11_2
  try clear hfz11_3
  try clear hfz11_4
  try clear hfz11_5
  try clear hfz11_6
  try clear hfz11_7
  try clear hfz13_0
  try clear hfz13_1
  try clear hfz13_2
  try clear hfz13_3
  try clear hfz13_4
  try clear hfz13_5
  try clear hfz13_6
  try clear hfz13_7
  try clear hfz15_0
  try clear hfz15_1
  try clear hfz15_2
  try clear hfz15_3
  try clear hfz15_4
  try clear hfz15_5
  try clear hfz15_6
  try clear hfz15_7
  try clear hfz16_0
  try clear hfz16_1
  try clear hfz16_2
  try clear hfz16_3
  try clear hfz16_4
  try clear hfz16_5
  try clear hfz16_6
  try clear hfz16_7
  try clear hfz18_0
  try clear hfz18_1
  try clear hfz18_2
  try clear hfz18_3
  try clear hfz18_4
  try clear hfz18_5
  try clear hfz18_6
  try clear hfz18_7
  try clear hfz20_0
  try clear hfz20_1
  try clear hfz20_2
  try clear hfz20_3
  try clear hfz20_4
  try clear hfz20_5
  try clear hfz20_6
  try clear hfz20_7
  try clear hfz21_0
  try clear hfz21_1
  try clear hfz21_2
  try clear hfz21_3
  try clear hfz21_4
  try clear hfz21_5
  try clear hfz21_6
  try clear hfz21_7
  try clear hfz23_0
  try clear hfz23_1
  try clear hfz23_2
  try clear hfz23_3
  try clear hfz23_4
  try clear hfz23_5
  try clear hfz23_6
  try clear hfz23_7
  try clear hfz25_0
  try clear hfz25_1
  try clear hfz25_2
  try clear hfz25_3
  try clear hfz25_4
  try clear hfz25_5
  try clear hfz25_6
  try clear hfz25_7
  try clear hfz27_0
  try clear hfz27_1
  try clear hfz27_2
  try clear hfz27_3
  try clear hfz27_4
  try clear hfz27_5
  try clear hfz27_6
  try clear hfz27_7
  obtain ⟨kq, x28_1, rfl, HA, HJ1, BK107, HB⟩ := hcut
  cases kq with
  | zero => exact absurd HA.out (by simp [cell_May.j0])
  | succ kj1 =>
   have H := HA.out
   clear HA
   simp only [cell_May.j0] at H
   by_cases c28 : x28_1 = true
   ·subst c28
    have H1 : (some false) = some r := by rw [if_pos rfl] at H; exact H
    clear H
    have H := H1
    clear H1
    obtain rfl := Option.some.inj H
    go_wp2
    go_ret
    exact xB HB
   replace c28 := Bool.eq_false_iff.mpr c28
   subst c28
   have H1 : (if a0_4 > 0 then (some true) else ((cell_none.f a0_5 a0_6 a0_7).bind fun t111 => (if t111 = true then ((cell_none.f a0_1 a0_2 a0_3).bind fun t112 => (some (!t112))) else (some false)))) = some r := by rw [if_neg (show ¬ (false = true) by decide)] at H; exact H
   clear H
   have H := H1
   clear H1
   by_cases c29 : a0_4 > 0
   ·rw [if_pos c29] at H
    have c29b0 : decide (0 < a0_4) = true := decide_eq_true c29
    clear c29
    obtain rfl := Option.some.inj H
    obtain ⟨hcz30_0, hcz30_1, hcz30_2, hcz30_3, hcz30_4, hcz30_5, hcz30_6, hcz30_7, hfz30_0, hfz30_1, hfz30_2, hfz30_3, hfz30_4, hfz30_5, hfz30_6, hfz30_7⟩ := bf8 (w := wc) BK107
    go_wp2
    go_ret
    exact xB HB
   rw [if_neg c29] at H
   have c29b0 : decide (0 < a0_4) = false := decide_eq_false c29
   clear c29
   replace H := Option.bind_eq_some_iff.mp H
   obtain ⟨t111, A310, H⟩ := H
   replace H : (if t111 = true then ((cell_none.f a0_1 a0_2 a0_3).bind fun t112 => (some (!t112))) else (some false)) = some r := H
   have A31 := Aside0.mk A310
   clear A310
   by_cases c32 : t111 = true
   rotate_left
   ·replace c32 := Bool.eq_false_iff.mpr c32
    subst c32
    have H1 : (some false) = some r := by rw [if_neg (show ¬ (false = true) by decide)] at H; exact H
    clear H
    have H := H1
    clear H1
    obtain rfl := Option.some.inj H
    obtain ⟨hcz38_0, hcz38_1, hcz38_2, hcz38_3, hcz38_4, hcz38_5, hcz38_6, hcz38_7, hfz38_0, hfz38_1, hfz38_2, hfz38_3, hfz38_4, hfz38_5, hfz38_6, hfz38_7⟩ := bf8 (w := wc) BK107
    go_wp2_with (first | (go_at_call 49; (with_reducible refine (cell_none.calls a0_5 a0_6 a0_7 false _ A31.out).mono ?_); rintro e w39 ⟨rfl, hb⟩; replace BK107 := bB BK107 hb; replace HB := bW HB hb; (try clear hb); (try clear hb2); (try clear hk); (try clear hi)))
    go_ret
    exact xB HB
   subst c32
   have H1 : ((cell_none.f a0_1 a0_2 a0_3).bind fun t112 => (some (!t112))) = some r := by rw [if_pos rfl] at H; exact H
   clear H
   have H := H1
   clear H1
   replace H := Option.bind_eq_some_iff.mp H
   obtain ⟨t112, A330, H⟩ := H
   replace H : (some (!t112)) = some r := H
   have A33 := Aside0.mk A330
   clear A330
   obtain rfl := Option.some.inj H
   obtain ⟨hcz34_0, hcz34_1, hcz34_2, hcz34_3, hcz34_4, hcz34_5, hcz34_6, hcz34_7, hfz34_0, hfz34_1, hfz34_2, hfz34_3, hfz34_4, hfz34_5, hfz34_6, hfz34_7⟩ := bf8 (w := wc) BK107
   go_wp2_with (first | (go_at_call 49; (with_reducible refine (cell_none.calls a0_5 a0_6 a0_7 true _ A31.out).mono ?_); rintro e w35 ⟨rfl, hb⟩; replace BK107 := bB BK107 hb; replace HB := bW HB hb; (try clear hb); (try clear hb2); (try clear hk); (try clear hi); obtain ⟨hcz36_0, hcz36_1, hcz36_2, hcz36_3, hcz36_4, hcz36_5, hcz36_6, hcz36_7, hfz36_0, hfz36_1, hfz36_2, hfz36_3, hfz36_4, hfz36_5, hfz36_6, hfz36_7⟩ := bf8 (w := w35) BK107) | (go_at_call 49; (with_reducible refine (cell_none.calls a0_1 a0_2 a0_3 t112 _ A33.out).mono ?_); rintro e w37 ⟨rfl, hb⟩; replace BK107 := bB BK107 hb; replace HB := bW HB hb; (try clear hb); (try clear hb2); (try clear hk); (try clear hi)))
   go_ret
   exact xB HB
end Go.Proofs.Ytmmjpieafbjggaa.P
end
section
namespace Go.Proofs.Ytmmjpieafbjggaa.P
open Go.RowKit Go.Proofs.YtmmjpieafbjggaaW.PrintWords Go.Proofs.YtmmjpieafbjggaaW.PrintLast Go.Proofs.YtmmjpieafbjggaaW.PrintMore
attribute [local go_sem] max2_int min2_int max_two min_two max_three min_three max_four min_four   -- for this text's walks alone
attribute [local go_sem] x_str_gtr x_str_leq x_str_geq ext_bits ext_frombits ext_neg x_store_float Instr.field asAgg
set_option linter.unusedVariables false
set_option linter.unusedSimpArgs false
mutual
def node_May.l0 : Nat → List (S62) → Int → Int → Bool → List (S62) → List ByteArray → List Int → Option (Bool)
 | 0, _, _, _, _, _, _, _ => none
 | k + 1, x10, x11, x12, x114000, x114001, x114002, x114003 => if x12 < x11 then (if 0 ≤ x12 then (if x12 < (x10.length : Int) then (if x114000 = true then ((cell_May.f k ((rd_T62 x10 x12).f0) ((rd_T62 x10 x12).f1.f0) ((rd_T62 x10 x12).f1.f1) ((rd_T62 x10 x12).f1.f2) ((rd_T62 x10 x12).f2) ((rd_T62 x10 x12).f3.f0) ((rd_T62 x10 x12).f3.f1) ((rd_T62 x10 x12).f3.f2)).bind fun t116 => (if t116 = true then (if x12 > 0 then (if 0 ≤ (wrap64 (x12 - 1)) then (if (wrap64 (x12 - 1)) < (x114001.length : Int) then (if ((Op.bytesLess (((rd_T62 x114001 (wrap64 (x12 - 1))).f0).toList) (((rd_T62 x10 x12).f0).toList)) = true) then (node_May.l0 k x10 x11 (wrap64 (x12 + 1)) x114000 x114001 x114002 x114003) else (some false)) else (none)) else (none)) else (node_May.l0 k x10 x11 (wrap64 (x12 + 1)) x114000 x114001 x114002 x114003)) else (some false))) else (some false)) else (none)) else (none)) else (if x114000 = true then (if (x114002.length : Int) = 0 then (some ((x114003.length : Int) == 0)) else (some false)) else (node_May.l1 k x114002 (x114002.length : Int) 0 x114000 x114001 x114002 x114003))
def node_May.l1 : Nat → List ByteArray → Int → Int → Bool → List (S62) → List ByteArray → List Int → Option (Bool)
 | 0, _, _, _, _, _, _, _ => none
 | k + 1, x55, x56, x57, x114000, x114001, x114002, x114003 => if x57 < x56 then (if 0 ≤ x57 then (if x57 < (x55.length : Int) then ((key_May.f (rdOf ByteArray.empty x55 x57)).bind fun t119 => (if t119 = true then (if x57 > 0 then (if 0 ≤ (wrap64 (x57 - 1)) then (if (wrap64 (x57 - 1)) < (x114002.length : Int) then (if ((Op.bytesLess ((rdOf ByteArray.empty x114002 (wrap64 (x57 - 1))).toList) ((rdOf ByteArray.empty x55 x57).toList)) = true) then (node_May.l1 k x55 x56 (wrap64 (x57 + 1)) x114000 x114001 x114002 x114003) else (some false)) else (none)) else (none)) else (node_May.l1 k x55 x56 (wrap64 (x57 + 1)) x114000 x114001 x114002 x114003)) else (some false))) else (none)) else (none)) else (node_May.l2 k x114003 (x114003.length : Int) 0 x114000 x114001 x114002 x114003)
def node_May.l2 : Nat → List Int → Int → Int → Bool → List (S62) → List ByteArray → List Int → Option (Bool)
 | 0, _, _, _, _, _, _, _ => none
 | k + 1, x81, x82, x83, x114000, x114001, x114002, x114003 => if x83 < x82 then (if 0 ≤ x83 then (if x83 < (x81.length : Int) then (if (rd x81 x83) < 2 then (some false) else (if (rd x81 x83) ≥ 32 then (some false) else (node_May.l2 k x81 x82 (wrap64 (x83 + 1)) x114000 x114001 x114002 x114003))) else (none)) else (none)) else (if (x114003.length : Int) ≥ 1 then (if (x114003.length : Int) ≤ 32 then (some ((x114002.length : Int) == (wrap64 ((x114003.length : Int) - 1)))) else (some false)) else (some false))
end
def node_May.f (k : Nat) (a0_0 : Bool) (l0_1 : List (S62)) (l0_2 : List ByteArray) (l0_3 : List Int) : Option (Bool) := node_May.l0 k l0_1 (l0_1.length : Int) 0 a0_0 l0_1 l0_2 l0_3
theorem node_May.mono_l : ∀ k, (∀ y0 y1 y2 y3 y4 y5 y6, LeO (node_May.l0 k y0 y1 y2 y3 y4 y5 y6) (node_May.l0 (k + 1) y0 y1 y2 y3 y4 y5 y6)) ∧ (∀ y0 y1 y2 y3 y4 y5 y6, LeO (node_May.l1 k y0 y1 y2 y3 y4 y5 y6) (node_May.l1 (k + 1) y0 y1 y2 y3 y4 y5 y6)) ∧ (∀ y0 y1 y2 y3 y4 y5 y6, LeO (node_May.l2 k y0 y1 y2 y3 y4 y5 y6) (node_May.l2 (k + 1) y0 y1 y2 y3 y4 y5 y6))
 | 0 => ⟨fun _ _ _ _ _ _ _ r h => by simp [node_May.l0] at h, fun _ _ _ _ _ _ _ r h => by simp [node_May.l1] at h, fun _ _ _ _ _ _ _ r h => by simp [node_May.l2] at h⟩
 | k + 1 => by
  obtain ⟨ih0, ih1, ih2⟩ := node_May.mono_l k
  refine ⟨?_, ?_, ?_⟩
  ·intro y0 y1 y2 y3 y4 y5 y6
   unfold node_May.l0
   repeat' first
   | (with_reducible exact ih0 _ _ _ _ _ _ _)
   | (with_reducible exact ih1 _ _ _ _ _ _ _)
   | (with_reducible exact ih2 _ _ _ _ _ _ _)
   | (with_reducible exact cell_May.mono _ _ _ _ _ _ _ _ _)
   | (with_reducible exact LeO.refl _)
   | (with_reducible exact LeO.none _)
   | (with_reducible refine LeO.ite ?_ ?_)
   | (with_reducible refine LeO.bind ?_ (fun _ => ?_))
   | exact ih0 _ _ _ _ _ _ _
   | exact ih1 _ _ _ _ _ _ _
   | exact ih2 _ _ _ _ _ _ _
   | exact cell_May.mono _ _ _ _ _ _ _ _ _
   | exact LeO.none _
   | refine LeO.ite ?_ ?_
   | refine LeO.bind ?_ (fun _ => ?_)
  ·intro y0 y1 y2 y3 y4 y5 y6
   unfold node_May.l1
   repeat' first
   | (with_reducible exact ih0 _ _ _ _ _ _ _)
   | (with_reducible exact ih1 _ _ _ _ _ _ _)
   | (with_reducible exact ih2 _ _ _ _ _ _ _)
   | (with_reducible exact cell_May.mono _ _ _ _ _ _ _ _ _)
   | (with_reducible exact LeO.refl _)
   | (with_reducible exact LeO.none _)
   | (with_reducible refine LeO.ite ?_ ?_)
   | (with_reducible refine LeO.bind ?_ (fun _ => ?_))
   | exact ih0 _ _ _ _ _ _ _
   | exact ih1 _ _ _ _ _ _ _
   | exact ih2 _ _ _ _ _ _ _
   | exact cell_May.mono _ _ _ _ _ _ _ _ _
   | exact LeO.none _
   | refine LeO.ite ?_ ?_
   | refine LeO.bind ?_ (fun _ => ?_)
  ·intro y0 y1 y2 y3 y4 y5 y6
   unfold node_May.l2
   repeat' first
   | (with_reducible exact ih0 _ _ _ _ _ _ _)
   | (with_reducible exact ih1 _ _ _ _ _ _ _)
   | (with_reducible exact ih2 _ _ _ _ _ _ _)
   | (with_reducible exact cell_May.mono _ _ _ _ _ _ _ _ _)
   | (with_reducible exact LeO.refl _)
   | (with_reducible exact LeO.none _)
   | (with_reducible refine LeO.ite ?_ ?_)
   | (with_reducible refine LeO.bind ?_ (fun _ => ?_))
   | exact ih0 _ _ _ _ _ _ _
   | exact ih1 _ _ _ _ _ _ _
   | exact ih2 _ _ _ _ _ _ _
   | exact cell_May.mono _ _ _ _ _ _ _ _ _
   | exact LeO.none _
   | refine LeO.ite ?_ ?_
   | refine LeO.bind ?_ (fun _ => ?_)
theorem node_May.mono : ∀ a0 a1 a2 a3 k, LeO (node_May.f k a0 a1 a2 a3) (node_May.f (k + 1) a0 a1 a2 a3) := by
 intro a0 a1 a2 a3 k
 obtain ⟨ih0, ih1, ih2⟩ := node_May.mono_l k
 unfold node_May.f
 repeat' first
   | (with_reducible exact ih0 _ _ _ _ _ _ _)
   | (with_reducible exact ih1 _ _ _ _ _ _ _)
   | (with_reducible exact ih2 _ _ _ _ _ _ _)
   | (with_reducible exact cell_May.mono _ _ _ _ _ _ _ _ _)
   | (with_reducible exact LeO.refl _)
   | (with_reducible exact LeO.none _)
   | (with_reducible refine LeO.ite ?_ ?_)
   | (with_reducible refine LeO.bind ?_ (fun _ => ?_))
   | exact ih0 _ _ _ _ _ _ _
   | exact ih1 _ _ _ _ _ _ _
   | exact ih2 _ _ _ _ _ _ _
   | exact cell_May.mono _ _ _ _ _ _ _ _ _
   | exact LeO.none _
   | refine LeO.ite ?_ ?_
   | refine LeO.bind ?_ (fun _ => ?_)
def node_May.T4 : Bool × List (List Nat × List Nat) := (true, [([], []), ([0], [0]), ([1], [1]), ([2], [2]), ([3], [3]), ([4, 3, 3], [3, 4]), ([5, 3], [3, 5]), ([3, 6], [3, 6]), ([7, 5], [7]), ([8], [8]), ([9, 8], [8, 9]), ([10, 8, 8], [8, 10]), ([11], [11]), ([12, 11], [11, 12]), ([11], [11]), ([14, 11], [11, 14]), ([13, 15, 11], [11, 13, 15]), ([16, 11], [11, 16]), ([17, 11], [11, 17]), ([11], [11]), ([19, 11], [11, 19]), ([18, 20, 11], [11, 18, 20]), ([11, 21, 8], [8, 11, 21]), ([8, 22], [8, 22])])
def node_May.B4 : List Nat := [0, 1, 3, 7, 15, 31, 63, 127, 255, 511, 1023, 2047, 4095, 8191, 4095, 20479, 65535, 131071, 262143, 4095, 528383, 2097151, 4194303, 8388607]
theorem node_May.tab4 : rtab .any (opsOf Try.f16 4) = node_May.T4 := by kernel_rfl
theorem node_May.bits4 : waitsOk node_May.T4.2 node_May.B4 = true := by kernel_rfl
set_option maxHeartbeats 8000000 in
set_option maxRecDepth 100000 in
theorem node_May.calls (k : Nat) (a0_0 : Bool) (A0_1 : Option Addr) (c0_1 : Nat) (l0_1 : List (S62)) (A0_2 : Option Addr) (c0_2 : Nat) (l0_2 : List ByteArray) (A0_3 : Option Addr) (c0_3 : Nat) (l0_3 : List Int) (r : Bool) (w : World) (hr0_1 : Kd.C k62 w A0_1 l0_1.length l0_1) (hc0_1 : l0_1.length ≤ c0_1) (hr0_2 : Kd.C Kd.string w A0_2 l0_2.length l0_2) (hc0_2 : l0_2.length ≤ c0_2) (hr0_3 : Kd.C (Kd.int .i64) w A0_3 l0_3.length l0_3) (hc0_3 : l0_3.length ≤ c0_3) (h : node_May.f k a0_0 l0_1 l0_2 l0_3 = some r) :
  Calls Try.prog 16 #[.agg #[.bool a0_0, .slice A0_1 l0_1.length c0_1, .slice A0_2 l0_2.length c0_2, .slice A0_3 l0_3.length c0_3]] w fun e w' => e = .returned (.bool r) ∧ Below w.heap.size w w' := by
 have hu36 := Try.underlying36
 have hu62 := Try.underlying62
 have HR0_1 := Aside0.mk hr0_1
 have HC0_1 := Aside0.mk hc0_1
 clear hr0_1 hc0_1
 have HR0_2 := Aside0.mk hr0_2
 have HC0_2 := Aside0.mk hc0_2
 clear hr0_2 hc0_2
 have HR0_3 := Aside0.mk hr0_3
 have HC0_3 := Aside0.mk hc0_3
 clear hr0_3 hc0_3
 have HB := Aside0.mk (Below.refl w.heap.size w)
 have H : (node_May.l0 k l0_1 (l0_1.length : Int) 0 a0_0 l0_1 l0_2 l0_3) = some r := h
 clear h
 have H' := Aside0.mk H
 clear H
 go_enter Try.func16, Try.ntmps16
 go_wp2_with (first | ((with_reducible refine gate_dst (N := 1) rfl ?_); (try (refine gate_guard (by rfl) ?_; dsimp only)); refine box_event ?hg (N := 1) ?hd (cs := #[.bool a0_0, .slice A0_1 l0_1.length c0_1, .slice A0_2 l0_2.length c0_2, .slice A0_3 l0_3.length c0_3]) (t := 36) ?hr ?_; (case hd => rfl); (case hg => rfl); (case hr => first | (go_simp; done) | (go_simp; rfl)); intro gb113 hg w2 hbox hb; have BK113 := Aside0.mk (hbox); have GW113 := bZ HB hg; have GE113 := bZ HB hg; replace HB := bW HB hb; clear hb hbox hg; obtain ⟨hcz3_0, hcz3_1, hcz3_2, hcz3_3, hfz3_0, hfz3_1, hfz3_2, hfz3_3⟩ := bf4 (w := w2) BK113))
 go_loopg [12] k (fun kq v12 w' => ∃ (x12_1 : Int), v12 = .int .i64 x12_1 ∧ Aside0 (node_May.l0 kq l0_1 (l0_1.length : Int) x12_1 a0_0 l0_1 l0_2 l0_3 = some r) ∧ Aside0 (kq ≤ k) ∧ Aside0 (w'.heap[gb113]? = some (.cells #[.bool a0_0, (.slice A0_1 l0_1.length c0_1), (.slice A0_2 l0_2.length c0_2), (.slice A0_3 l0_3.length c0_3)] 36 (0, 0))) ∧ Aside0 (Below w.heap.size w w'))
 case atStart => exact ⟨(0), (by first | rfl | (simp; done) | (simp [*]; done)), H', ⟨Nat.le_refl _⟩, ⟨by (with_reducible repeat (first | refine blk_drewN ?_ _ | refine blk_drew ?_ | refine blk_alloc ?_ _)); exact BK113.out⟩, ⟨by repeat (first | (with_reducible first | exact HB.out | apply below_alloc | apply pw_below_drewN | apply below_drew1 | refine below_set ?_ GE113.out) | exact HB.out)⟩⟩
 case round =>
  clear H'
  try clear c1
  try clear p2
  try clear hcz3_0
  try clear hcz3_1
  try clear hcz3_2
  try clear hcz3_3
  try clear hfz3_0
  try clear hfz3_1
  try clear hfz3_2
  try clear hfz3_3
  obtain ⟨x12_1, rfl, HA, HK1, BK113, HB⟩ := hrel
  cases gk with
  | zero => exact absurd HA.out (by simp [node_May.l0])
  | succ k1 =>
   have H := HA.out
   clear HA
   simp only [node_May.l0] at H
   by_cases c4 : x12_1 < (l0_1.length : Int)
   rotate_left
   ·rw [if_neg c4] at H
    have c4b0 : decide (x12_1 < (l0_1.length : Int)) = false := decide_eq_false c4
    clear c4
    by_cases c44 : a0_0 = true
    ·subst c44
     have H1 : (if (l0_2.length : Int) = 0 then (some ((l0_3.length : Int) == 0)) else (some false)) = some r := by rw [if_pos rfl] at H; exact H
     clear H
     have H := H1
     clear H1
     by_cases c45 : (l0_2.length : Int) = 0
     ·rw [if_pos c45] at H
      have c45b0 : ((l0_2.length : Int) == 0) = true := beq_iff_eq.mpr c45
      have c45b1 : ((l0_2.length : Int) != 0) = false := bne_eq_false_iff_eq.mpr c45
      clear c45
      obtain rfl := Option.some.inj H
      obtain ⟨hcz46_0, hcz46_1, hcz46_2, hcz46_3, hfz46_0, hfz46_1, hfz46_2, hfz46_3⟩ := bf4 (w := wr) BK113
      go_wp2
      go_ret
      exact xB HB
     rw [if_neg c45] at H
     have c45b0 : ((l0_2.length : Int) == 0) = false := beq_eq_false_iff_ne.mpr c45
     have c45b1 : ((l0_2.length : Int) != 0) = true := bne_iff_ne.mpr c45
     have c45b2 : ¬ (l0_2 = []) := fun h_ => c45 (by rw [h_]; rfl)
     obtain rfl := Option.some.inj H
     obtain ⟨hcz47_0, hcz47_1, hcz47_2, hcz47_3, hfz47_0, hfz47_1, hfz47_2, hfz47_3⟩ := bf4 (w := wr) BK113
     go_wp2
     go_ret
     exact xB HB
    replace c44 := Bool.eq_false_iff.mpr c44
    subst c44
    have H1 : (node_May.l1 k1 l0_2 (l0_2.length : Int) 0 false l0_1 l0_2 l0_3) = some r := by rw [if_neg (show ¬ (false = true) by decide)] at H; exact H
    clear H
    have H := H1
    clear H1
    have H' := Aside0.mk H
    clear H
    obtain ⟨hcz48_0, hcz48_1, hcz48_2, hcz48_3, hfz48_0, hfz48_1, hfz48_2, hfz48_3⟩ := bf4 (w := wr) BK113
    go_wp2
    go_loopg [57] k1 (fun kq v57 w' => ∃ (x57_2 : Int), v57 = .int .i64 x57_2 ∧ Aside0 (node_May.l1 kq l0_2 (l0_2.length : Int) x57_2 false l0_1 l0_2 l0_3 = some r) ∧ Aside0 (kq ≤ k1) ∧ Aside0 (w'.heap[gb113]? = some (.cells #[.bool false, (.slice A0_1 l0_1.length c0_1), (.slice A0_2 l0_2.length c0_2), (.slice A0_3 l0_3.length c0_3)] 36 (0, 0))) ∧ Aside0 (Below w.heap.size w w'))
    case atStart => exact ⟨(0), (by first | rfl | (simp; done) | (simp [*]; done)), H', ⟨Nat.le_refl _⟩, ⟨by (with_reducible repeat (first | refine blk_drewN ?_ _ | refine blk_drew ?_ | refine blk_alloc ?_ _)); exact BK113.out⟩, ⟨by repeat (first | (with_reducible first | exact HB.out | apply below_alloc | apply pw_below_drewN | apply below_drew1 | refine below_set ?_ GE113.out) | exact HB.out)⟩⟩
    case round =>
     clear H'
     try clear p1
     try clear q1
     try clear hx1
     try clear p2
     try clear c3
     try clear c4
     try clear c4b0
     try clear c5
     try clear c6
     try clear p6
     try clear c7
     try clear c9
     try clear p11
     try clear q11
     try clear hx11
     try clear c33
     try clear c34
     try clear c40
     try clear c44
     try clear c45
     try clear c45b0
     try clear c45b1
     try clear c45b2
     try clear hcz35_0
     try clear hcz35_1
     try clear hcz35_2
     try clear hcz35_3
     try clear hcz35_4
     try clear hcz35_5
     try clear hcz35_6
     try clear hcz35_7
     try clear hcz41_0
     try clear hcz41_1
     try clear hcz41_2
     try clear hcz41_3
     try clear hcz41_4
     try clear hcz41_5
     try clear hcz41_6
     try clear hcz41_7
     try clear hcz46_0
     try clear hcz46_1
     try clear hcz46_2
     try clear hcz46_3
     try clear hcz47_0
     try clear hcz47_1
     try clear hcz47_2
     try clear hcz47_3
     try clear hcz48_0
     try clear hcz48_1
     try clear hcz48_2
     try clear hcz48_3
     try clear hfz35_0
     try clear hfz35_1
     try clear hfz35_2
     try clear hfz35_3
     try clear hfz35_4
     try clear hfz35_5
     try clear hfz35_6
     try clear hfz35_7
     try clear hfz41_0
     try clear hfz41_1
     try clear hfz41_2
     try clear hfz41_3
     try clear hfz41_4
     try clear hfz41_5
     try clear hfz41_6
     try clear hfz41_7
     try clear hfz46_0
     try clear hfz46_1
     try clear hfz46_2
     try clear hfz46_3
     try clear hfz47_0
     try clear hfz47_1
     try clear hfz47_2
     try clear hfz47_3
     try clear hfz48_0
     try clear hfz48_1
     try clear hfz48_2
     try clear hfz48_3
     try clear hx114_0
     try clear hx114_1
     try clear hx114_2
     try clear hx114_3
     try clear hx114_4
     try clear hx114_5
     try clear hx114_6
     try clear hx114_7
     try clear p114
     try clear q114
     obtain ⟨x57_2, rfl, HA, HK2, BK113, HB⟩ := hrel
     cases gk with
     | zero => exact absurd HA.out (by simp [node_May.l1])
     | succ k2 =>
      have H := HA.out
      clear HA
      simp only [node_May.l1] at H
      by_cases c49 : x57_2 < (l0_2.length : Int)
      rotate_left
      ·rw [if_neg c49] at H
       have c49b0 : decide (x57_2 < (l0_2.length : Int)) = false := decide_eq_false c49
       clear c49
       have H' := Aside0.mk H
       clear H
       obtain ⟨hcz61_0, hcz61_1, hcz61_2, hcz61_3, hfz61_0, hfz61_1, hfz61_2, hfz61_3⟩ := bf4 (w := wr) BK113
       go_wp2
       go_loopg [83] k2 (fun kq v83 w' => ∃ (x83_3 : Int), v83 = .int .i64 x83_3 ∧ Aside0 (node_May.l2 kq l0_3 (l0_3.length : Int) x83_3 false l0_1 l0_2 l0_3 = some r) ∧ Aside0 (kq ≤ k2) ∧ Aside0 (w'.heap[gb113]? = some (.cells #[.bool false, (.slice A0_1 l0_1.length c0_1), (.slice A0_2 l0_2.length c0_2), (.slice A0_3 l0_3.length c0_3)] 36 (0, 0))) ∧ Aside0 (Below w.heap.size w w'))
       case atStart => exact ⟨(0), (by first | rfl | (simp; done) | (simp [*]; done)), H', ⟨Nat.le_refl _⟩, ⟨by (with_reducible repeat (first | refine blk_drewN ?_ _ | refine blk_drew ?_ | refine blk_alloc ?_ _)); exact BK113.out⟩, ⟨by repeat (first | (with_reducible first | exact HB.out | apply below_alloc | apply pw_below_drewN | apply below_drew1 | refine below_set ?_ GE113.out) | exact HB.out)⟩⟩
       case round =>
        clear H'
        try clear p1
        try clear q1
        try clear hx1
        try clear p2
        try clear c3
        try clear c4
        try clear c4b0
        try clear c5
        try clear c6
        try clear p6
        try clear c7
        try clear c9
        try clear p11
        try clear q11
        try clear hx11
        try clear p12
        try clear q12
        try clear hx12
        try clear c33
        try clear c34
        try clear c40
        try clear c44
        try clear c45
        try clear c45b0
        try clear c45b1
        try clear c45b2
        try clear c49
        try clear c49b0
        try clear c50
        try clear c50b0
        try clear c51
        try clear c51b0
        try clear c53
        try clear c54
        try clear c54b0
        try clear c56
        try clear c56b0
        try clear c57
        try clear c57b0
        try clear c58
        try clear c58b0
        try clear hcz35_0
        try clear hcz35_1
        try clear hcz35_2
        try clear hcz35_3
        try clear hcz35_4
        try clear hcz35_5
        try clear hcz35_6
        try clear hcz35_7
        try clear hcz41_0
        try clear hcz41_1
        try clear hcz41_2
        try clear hcz41_3
        try clear hcz41_4
        try clear hcz41_5
        try clear hcz41_6
        try clear hcz41_7
        try clear hcz46_0
        try clear hcz46_1
        try clear hcz46_2
        try clear hcz46_3
        try clear hcz47_0
        try clear hcz47_1
        try clear hcz47_2
        try clear hcz47_3
        try clear hcz48_0
        try clear hcz48_1
        try clear hcz48_2
        try clear hcz48_3
        try clear hcz59_0
        try clear hcz59_1
        try clear hcz59_2
        try clear hcz59_3
        try clear hcz60_0
        try clear hcz60_1
        try clear hcz60_2
        try clear hcz60_3
        try clear hcz61_0
        try clear hcz61_1
        try clear hcz61_2
        try clear hcz61_3
        try clear hfz35_0
        try clear hfz35_1
        try clear hfz35_2
        try clear hfz35_3
        try clear hfz35_4
        try clear hfz35_5
        try clear hfz35_6
        try clear hfz35_7
        try clear hfz41_0
        try clear hfz41_1
        try clear hfz41_2
        try clear hfz41_3
        try clear hfz41_4
        try clear hfz41_5
        try clear hfz41_6
        try clear hfz41_7
        try clear hfz46_0
        try clear hfz46_1
        try clear hfz46_2
        try clear hfz46_3
        try clear hfz47_0
        try clear hfz47_1
        try clear hfz47_2
        try clear hfz47_3
        try clear hfz48_0
        try clear hfz48_1
        try clear hfz48_2
        try clear hfz48_3
        try clear hfz59_0
        try clear hfz59_1
        try clear hfz59_2
        try clear hfz59_3
        try clear hfz60_0
        try clear hfz60_1
        try clear hfz60_2
        try clear hfz60_3
        try clear hfz61_0
        try clear hfz61_1
        try clear hfz61_2
        try clear hfz61_3
        try clear hx114_0
        try clear hx114_1
        try clear hx114_2
        try clear hx114_3
        try clear hx114_4
        try clear hx114_5
        try clear hx114_6
        try clear hx114_7
        try clear hx118_0
        try clear hx120_0
        try clear p1
        try clear p11
        try clear p114
        try clear p118
        try clear p120
        try clear p2
        try clear p6
        try clear q1
        try clear q11
        try clear q114
        try clear q118
        try clear q120
        obtain ⟨x83_3, rfl, HA, HK3, BK113, HB⟩ := hrel
        cases gk with
        | zero => exact absurd HA.out (by simp [node_May.l2])
        | succ k3 =>
         have H := HA.out
         clear HA
         simp only [node_May.l2] at H
         by_cases c62 : x83_3 < (l0_3.length : Int)
         rotate_left
         ·rw [if_neg c62] at H
          have c62b0 : decide (x83_3 < (l0_3.length : Int)) = false := decide_eq_false c62
          clear c62
          by_cases c67 : (l0_3.length : Int) ≥ 1
          rotate_left
          ·rw [if_neg c67] at H
           have c67b0 : decide (1 ≤ (l0_3.length : Int)) = false := decide_eq_false c67
           have c67b1 : decide (1 ≤ l0_3.length) = false := decide_eq_false (by omega)
           clear c67
           obtain rfl := Option.some.inj H
           obtain ⟨hcz71_0, hcz71_1, hcz71_2, hcz71_3, hfz71_0, hfz71_1, hfz71_2, hfz71_3⟩ := bf4 (w := wr) BK113
           go_wp2
           go_ret
           exact xB HB
          rw [if_pos c67] at H
          have c67b0 : decide (1 ≤ (l0_3.length : Int)) = true := decide_eq_true c67
          have c67b1 : decide (1 ≤ l0_3.length) = true := decide_eq_true (by omega)
          clear c67
          by_cases c68 : (l0_3.length : Int) ≤ 32
          ·rw [if_pos c68] at H
           have c68b0 : decide ((l0_3.length : Int) ≤ 32) = true := decide_eq_true c68
           have c68b1 : decide (l0_3.length ≤ 32) = true := decide_eq_true (by omega)
           clear c68
           obtain rfl := Option.some.inj H
           obtain ⟨hcz69_0, hcz69_1, hcz69_2, hcz69_3, hfz69_0, hfz69_1, hfz69_2, hfz69_3⟩ := bf4 (w := wr) BK113
           go_wp2
           go_ret
           exact xB HB
          rw [if_neg c68] at H
          have c68b0 : decide ((l0_3.length : Int) ≤ 32) = false := decide_eq_false c68
          have c68b1 : decide (l0_3.length ≤ 32) = false := decide_eq_false (by omega)
          clear c68
          obtain rfl := Option.some.inj H
          obtain ⟨hcz70_0, hcz70_1, hcz70_2, hcz70_3, hfz70_0, hfz70_1, hfz70_2, hfz70_3⟩ := bf4 (w := wr) BK113
          go_wp2
          go_ret
          exact xB HB
         rw [if_pos c62] at H
         have c62b0 : decide (x83_3 < (l0_3.length : Int)) = true := decide_eq_true c62
         clear c62
         by_cases c63 : 0 ≤ x83_3
         rotate_left
         ·rw [if_neg c63] at H
          exact absurd H (by simp)
         rw [if_pos c63] at H
         have c63b0 : decide (0 ≤ x83_3) = true := decide_eq_true c63
         clear c63
         by_cases c64 : x83_3 < (l0_3.length : Int)
         rotate_left
         ·rw [if_neg c64] at H
          exact absurd H (by simp)
         rw [if_pos c64] at H
         have c64b0 : decide (x83_3 < (l0_3.length : Int)) = true := decide_eq_true c64
         clear c64
         by_cases c65 : (rd l0_3 x83_3) < 2
         ·rw [if_pos c65] at H
          have c65b0 : decide ((rd l0_3 x83_3) < 2) = true := decide_eq_true c65
          clear c65
          obtain rfl := Option.some.inj H
          have p121 : 0 ≤ (x83_3 : Int) := of_decide_eq_true (by first | (with_reducible assumption) | assumption)
          have q121 : x83_3 < (l0_3.length : Int) := of_decide_eq_true (by first | (with_reducible assumption) | assumption)
          obtain ⟨ad121, e121, hx121_0⟩ := Kd.at_int HR0_3.out x83_3 p121 q121
          cases e121
          replace hx121_0 := (HB.out.cell (World.block_lt_of_cell? w _ hx121_0)).trans hx121_0
          replace p121 := eq_true p121
          replace q121 := eq_true q121
          go_wp2
          go_ret
          exact xB HB
         rw [if_neg c65] at H
         have c65b0 : decide ((rd l0_3 x83_3) < 2) = false := decide_eq_false c65
         clear c65
         by_cases c66 : (rd l0_3 x83_3) ≥ 32
         ·rw [if_pos c66] at H
          have c66b0 : decide (32 ≤ (rd l0_3 x83_3)) = true := decide_eq_true c66
          clear c66
          obtain rfl := Option.some.inj H
          have p121 : 0 ≤ (x83_3 : Int) := of_decide_eq_true (by first | (with_reducible assumption) | assumption)
          have q121 : x83_3 < (l0_3.length : Int) := of_decide_eq_true (by first | (with_reducible assumption) | assumption)
          obtain ⟨ad121, e121, hx121_0⟩ := Kd.at_int HR0_3.out x83_3 p121 q121
          cases e121
          replace hx121_0 := (HB.out.cell (World.block_lt_of_cell? w _ hx121_0)).trans hx121_0
          replace p121 := eq_true p121
          replace q121 := eq_true q121
          go_wp2
          go_ret
          exact xB HB
         rw [if_neg c66] at H
         have c66b0 : decide (32 ≤ (rd l0_3 x83_3)) = false := decide_eq_false c66
         clear c66
         have H' := Aside0.mk H
         clear H
         have p121 : 0 ≤ (x83_3 : Int) := of_decide_eq_true (by first | (with_reducible assumption) | assumption)
         have q121 : x83_3 < (l0_3.length : Int) := of_decide_eq_true (by first | (with_reducible assumption) | assumption)
         obtain ⟨ad121, e121, hx121_0⟩ := Kd.at_int HR0_3.out x83_3 p121 q121
         cases e121
         replace hx121_0 := (HB.out.cell (World.block_lt_of_cell? w _ hx121_0)).trans hx121_0
         replace p121 := eq_true p121
         replace q121 := eq_true q121
         go_wp2
         go_roundg k3
         case measure => have := HK1.out; have := HK2.out; have := HK3.out; omega
         case rel => exact ⟨(wrap64 (x83_3 + 1)), (by first | rfl | (simp; done) | (simp [*]; done)), H', ⟨by have := HK1.out; have := HK2.out; have := HK3.out; omega⟩, ⟨by (with_reducible repeat (first | refine blk_drewN ?_ _ | refine blk_drew ?_ | refine blk_alloc ?_ _)); exact BK113.out⟩, ⟨by repeat (first | (with_reducible first | exact HB.out | apply below_alloc | apply pw_below_drewN | apply below_drew1 | refine below_set ?_ GE113.out) | exact HB.out)⟩⟩
      rw [if_pos c49] at H
      have c49b0 : decide (x57_2 < (l0_2.length : Int)) = true := decide_eq_true c49
      clear c49
      by_cases c50 : 0 ≤ x57_2
      rotate_left
      ·rw [if_neg c50] at H
       exact absurd H (by simp)
      rw [if_pos c50] at H
      have c50b0 : decide (0 ≤ x57_2) = true := decide_eq_true c50
      clear c50
      by_cases c51 : x57_2 < (l0_2.length : Int)
      rotate_left
      ·rw [if_neg c51] at H
       exact absurd H (by simp)
      rw [if_pos c51] at H
      have c51b0 : decide (x57_2 < (l0_2.length : Int)) = true := decide_eq_true c51
      clear c51
      replace H := Option.bind_eq_some_iff.mp H
      obtain ⟨t119, A520, H⟩ := H
      replace H : (if t119 = true then (if x57_2 > 0 then (if 0 ≤ (wrap64 (x57_2 - 1)) then (if (wrap64 (x57_2 - 1)) < (l0_2.length : Int) then (if ((Op.bytesLess ((rdOf ByteArray.empty l0_2 (wrap64 (x57_2 - 1))).toList) ((rdOf ByteArray.empty l0_2 x57_2).toList)) = true) then (node_May.l1 k2 l0_2 (l0_2.length : Int) (wrap64 (x57_2 + 1)) false l0_1 l0_2 l0_3) else (some false)) else (none)) else (none)) else (node_May.l1 k2 l0_2 (l0_2.length : Int) (wrap64 (x57_2 + 1)) false l0_1 l0_2 l0_3)) else (some false)) = some r := H
      have A52 := Aside0.mk A520
      clear A520
      by_cases c53 : t119 = true
      rotate_left
      ·replace c53 := Bool.eq_false_iff.mpr c53
       subst c53
       have H1 : (some false) = some r := by rw [if_neg (show ¬ (false = true) by decide)] at H; exact H
       clear H
       have H := H1
       clear H1
       obtain rfl := Option.some.inj H
       have p118 : 0 ≤ (x57_2 : Int) := of_decide_eq_true (by first | (with_reducible assumption) | assumption)
       have q118 : x57_2 < (l0_2.length : Int) := of_decide_eq_true (by first | (with_reducible assumption) | assumption)
       obtain ⟨ad118, e118, hx118_0⟩ := Kd.at_string HR0_2.out x57_2 p118 q118
       cases e118
       replace hx118_0 := (HB.out.cell (World.block_lt_of_cell? w _ hx118_0)).trans hx118_0
       replace p118 := eq_true p118
       replace q118 := eq_true q118
       go_wp2_with (first | ((with_reducible refine gate_callee (f := 34) rfl ?_); refine gL (some 63) Try.func34 #[.string (rdOf ByteArray.empty l0_2 x57_2)] ?_; (with_reducible refine (key_May.calls (rdOf ByteArray.empty l0_2 x57_2) false _ A52.out).mono ?_); rintro e w' ⟨rfl, ⟨nd, rfl⟩⟩; refine ⟨_, rfl, ?_⟩))
       go_ret
       exact xB HB
      subst c53
      have H1 : (if x57_2 > 0 then (if 0 ≤ (wrap64 (x57_2 - 1)) then (if (wrap64 (x57_2 - 1)) < (l0_2.length : Int) then (if ((Op.bytesLess ((rdOf ByteArray.empty l0_2 (wrap64 (x57_2 - 1))).toList) ((rdOf ByteArray.empty l0_2 x57_2).toList)) = true) then (node_May.l1 k2 l0_2 (l0_2.length : Int) (wrap64 (x57_2 + 1)) false l0_1 l0_2 l0_3) else (some false)) else (none)) else (none)) else (node_May.l1 k2 l0_2 (l0_2.length : Int) (wrap64 (x57_2 + 1)) false l0_1 l0_2 l0_3)) = some r := by rw [if_pos rfl] at H; exact H
      clear H
      have H := H1
      clear H1
      by_cases c54 : x57_2 > 0
      rotate_left
      ·rw [if_neg c54] at H
       have c54b0 : decide (0 < x57_2) = false := decide_eq_false c54
       clear c54
       have H' := Aside0.mk H
       clear H
       have p118 : 0 ≤ (x57_2 : Int) := of_decide_eq_true (by first | (with_reducible assumption) | assumption)
       have q118 : x57_2 < (l0_2.length : Int) := of_decide_eq_true (by first | (with_reducible assumption) | assumption)
       obtain ⟨ad118, e118, hx118_0⟩ := Kd.at_string HR0_2.out x57_2 p118 q118
       cases e118
       replace hx118_0 := (HB.out.cell (World.block_lt_of_cell? w _ hx118_0)).trans hx118_0
       replace p118 := eq_true p118
       replace q118 := eq_true q118
       go_wp2_with (first | ((with_reducible refine gate_callee (f := 34) rfl ?_); refine gL (some 63) Try.func34 #[.string (rdOf ByteArray.empty l0_2 x57_2)] ?_; (with_reducible refine (key_May.calls (rdOf ByteArray.empty l0_2 x57_2) true _ A52.out).mono ?_); rintro e w' ⟨rfl, ⟨nd, rfl⟩⟩; refine ⟨_, rfl, ?_⟩))
       go_roundg k2
       case measure => have := HK1.out; have := HK2.out; omega
       case rel => exact ⟨(wrap64 (x57_2 + 1)), (by first | rfl | (simp; done) | (simp [*]; done)), H', ⟨by have := HK1.out; have := HK2.out; omega⟩, ⟨by (with_reducible repeat (first | refine blk_drewN ?_ _ | refine blk_drew ?_ | refine blk_alloc ?_ _)); exact BK113.out⟩, ⟨by repeat (first | (with_reducible first | exact HB.out | apply below_alloc | apply pw_below_drewN | apply below_drew1 | refine below_set ?_ GE113.out) | exact HB.out)⟩⟩
      rw [if_pos c54] at H
      have c54b0 : decide (0 < x57_2) = true := decide_eq_true c54
      clear c54
      obtain ⟨ji55, hji55⟩ : ∃ j_ : Int, (wrap64 (x57_2 - 1)) = j_ := ⟨_, rfl⟩
      replace H : (if 0 ≤ (ji55) then (if (ji55) < (l0_2.length : Int) then (if ((Op.bytesLess ((rdOf ByteArray.empty l0_2 (ji55)).toList) ((rdOf ByteArray.empty l0_2 x57_2).toList)) = true) then (node_May.l1 k2 l0_2 (l0_2.length : Int) (wrap64 (x57_2 + 1)) false l0_1 l0_2 l0_3) else (some false)) else (none)) else (none)) = some r := by first | (rw [hji55] at H; exact H) | (simp only [hji55] at H ⊢; exact H)
      (try rw [hji55] at A52)
      have hji55w : (IntKind.i64.wrap (x57_2 - 1)) = ji55 := (i64_w _).trans hji55
      by_cases c56 : 0 ≤ (ji55)
      rotate_left
      ·rw [if_neg c56] at H
       exact absurd H (by simp)
      rw [if_pos c56] at H
      have c56b0 : decide (0 ≤ (ji55)) = true := decide_eq_true c56
      clear c56
      by_cases c57 : (ji55) < (l0_2.length : Int)
      rotate_left
      ·rw [if_neg c57] at H
       exact absurd H (by simp)
      rw [if_pos c57] at H
      have c57b0 : decide ((ji55) < (l0_2.length : Int)) = true := decide_eq_true c57
      clear c57
      by_cases c58 : ((Op.bytesLess ((rdOf ByteArray.empty l0_2 (ji55)).toList) ((rdOf ByteArray.empty l0_2 x57_2).toList)) = true)
      rotate_left
      ·rw [if_neg c58] at H
       have c58b0 : (Op.bytesLess ((rdOf ByteArray.empty l0_2 (ji55)).toList) ((rdOf ByteArray.empty l0_2 x57_2).toList)) = false := by simpa using c58
       clear c58
       obtain rfl := Option.some.inj H
       have p118 : 0 ≤ (x57_2 : Int) := of_decide_eq_true (by first | (with_reducible assumption) | assumption)
       have q118 : x57_2 < (l0_2.length : Int) := of_decide_eq_true (by first | (with_reducible assumption) | assumption)
       obtain ⟨ad118, e118, hx118_0⟩ := Kd.at_string HR0_2.out x57_2 p118 q118
       cases e118
       replace hx118_0 := (HB.out.cell (World.block_lt_of_cell? w _ hx118_0)).trans hx118_0
       replace p118 := eq_true p118
       replace q118 := eq_true q118
       go_wp2_with (first | ((with_reducible refine gate_callee (f := 34) rfl ?_); refine gL (some 63) Try.func34 #[.string (rdOf ByteArray.empty l0_2 x57_2)] ?_; (with_reducible refine (key_May.calls (rdOf ByteArray.empty l0_2 x57_2) true _ A52.out).mono ?_); rintro e w' ⟨rfl, ⟨nd, rfl⟩⟩; refine ⟨_, rfl, ?_⟩; obtain ⟨hcz60_0, hcz60_1, hcz60_2, hcz60_3, hfz60_0, hfz60_1, hfz60_2, hfz60_3⟩ := bf4 (w := wr) BK113; have p120 : 0 ≤ ((ji55) : Int) := of_decide_eq_true (by first | (with_reducible assumption) | assumption); have q120 : (ji55) < (l0_2.length : Int) := of_decide_eq_true (by first | (with_reducible assumption) | assumption); obtain ⟨ad120, e120, hx120_0⟩ := Kd.at_string HR0_2.out (ji55) p120 q120; obtain rfl : ad118 = ad120 := (by injection e120); replace hx120_0 := (HB.out.cell (World.block_lt_of_cell? w _ hx120_0)).trans hx120_0; replace p120 := eq_true p120; replace q120 := eq_true q120))
       go_ret
       exact ⟨by first | rfl | (simp [errW_none, errW_some] <;> rfl) | (simp only [← hji55]; first | rfl | (simp [errW_none, errW_some] <;> rfl)) | (simp [*, errW_none, errW_some] <;> rfl), by repeat (first | (with_reducible first | exact HB.out | apply below_alloc | apply pw_below_drewN | apply below_drew1 | refine below_set ?_ GE113.out) | exact HB.out)⟩
      rw [if_pos c58] at H
      have c58b0 : (Op.bytesLess ((rdOf ByteArray.empty l0_2 (ji55)).toList) ((rdOf ByteArray.empty l0_2 x57_2).toList)) = true := c58
      clear c58
      have H' := Aside0.mk H
      clear H
      have p118 : 0 ≤ (x57_2 : Int) := of_decide_eq_true (by first | (with_reducible assumption) | assumption)
      have q118 : x57_2 < (l0_2.length : Int) := of_decide_eq_true (by first | (with_reducible assumption) | assumption)
      obtain ⟨ad118, e118, hx118_0⟩ := Kd.at_string HR0_2.out x57_2 p118 q118
      cases e118
      replace hx118_0 := (HB.out.cell (World.block_lt_of_cell? w _ hx118_0)).trans hx118_0
      replace p118 := eq_true p118
      replace q118 := eq_true q118
      go_wp2_with (first | ((with_reducible refine gate_callee (f := 34) rfl ?_); refine gL (some 63) Try.func34 #[.string (rdOf ByteArray.empty l0_2 x57_2)] ?_; (with_reducible refine (key_May.calls (rdOf ByteArray.empty l0_2 x57_2) true _ A52.out).mono ?_); rintro e w' ⟨rfl, ⟨nd, rfl⟩⟩; refine ⟨_, rfl, ?_⟩; obtain ⟨hcz59_0, hcz59_1, hcz59_2, hcz59_3, hfz59_0, hfz59_1, hfz59_2, hfz59_3⟩ := bf4 (w := wr) BK113; have p120 : 0 ≤ ((ji55) : Int) := of_decide_eq_true (by first | (with_reducible assumption) | assumption); have q120 : (ji55) < (l0_2.length : Int) := of_decide_eq_true (by first | (with_reducible assumption) | assumption); obtain ⟨ad120, e120, hx120_0⟩ := Kd.at_string HR0_2.out (ji55) p120 q120; obtain rfl : ad118 = ad120 := (by injection e120); replace hx120_0 := (HB.out.cell (World.block_lt_of_cell? w _ hx120_0)).trans hx120_0; replace p120 := eq_true p120; replace q120 := eq_true q120))
      go_roundg k2
      case measure => have := HK1.out; have := HK2.out; omega
      case rel => exact ⟨(wrap64 (x57_2 + 1)), (by first | rfl | (simp; done) | (simp [*]; done)), H', ⟨by have := HK1.out; have := HK2.out; omega⟩, ⟨by (with_reducible repeat (first | refine blk_drewN ?_ _ | refine blk_drew ?_ | refine blk_alloc ?_ _)); exact BK113.out⟩, ⟨by repeat (first | (with_reducible first | exact HB.out | apply below_alloc | apply pw_below_drewN | apply below_drew1 | refine below_set ?_ GE113.out) | exact HB.out)⟩⟩
   rw [if_pos c4] at H
   have c4b0 : decide (x12_1 < (l0_1.length : Int)) = true := decide_eq_true c4
   clear c4
   by_cases c5 : 0 ≤ x12_1
   rotate_left
   ·rw [if_neg c5] at H
    exact absurd H (by simp)
   rw [if_pos c5] at H
   have c5b0 : decide (0 ≤ x12_1) = true := decide_eq_true c5
   clear c5
   by_cases c6 : x12_1 < (l0_1.length : Int)
   rotate_left
   ·rw [if_neg c6] at H
    exact absurd H (by simp)
   rw [if_pos c6] at H
   have c6b0 : decide (x12_1 < (l0_1.length : Int)) = true := decide_eq_true c6
   clear c6
   by_cases c7 : a0_0 = true
   rotate_left
   ·replace c7 := Bool.eq_false_iff.mpr c7
    subst c7
    have H1 : (some false) = some r := by rw [if_neg (show ¬ (false = true) by decide)] at H; exact H
    clear H
    have H := H1
    clear H1
    obtain rfl := Option.some.inj H
    have p114 : 0 ≤ (x12_1 : Int) := of_decide_eq_true (by first | (with_reducible assumption) | assumption)
    have q114 : x12_1 < (l0_1.length : Int) := of_decide_eq_true (by first | (with_reducible assumption) | assumption)
    obtain ⟨ad114, e114, hx114_0, hx114_1, hx114_2, hx114_3, hx114_4, hx114_5, hx114_6, hx114_7⟩ := at_T62 HR0_1.out x12_1 p114 q114
    cases e114
    replace hx114_0 := (HB.out.cell (World.block_lt_of_cell? w _ hx114_0)).trans hx114_0
    replace hx114_1 := (HB.out.cell (World.block_lt_of_cell? w _ hx114_1)).trans hx114_1
    replace hx114_2 := (HB.out.cell (World.block_lt_of_cell? w _ hx114_2)).trans hx114_2
    replace hx114_3 := (HB.out.cell (World.block_lt_of_cell? w _ hx114_3)).trans hx114_3
    replace hx114_4 := (HB.out.cell (World.block_lt_of_cell? w _ hx114_4)).trans hx114_4
    replace hx114_5 := (HB.out.cell (World.block_lt_of_cell? w _ hx114_5)).trans hx114_5
    replace hx114_6 := (HB.out.cell (World.block_lt_of_cell? w _ hx114_6)).trans hx114_6
    replace hx114_7 := (HB.out.cell (World.block_lt_of_cell? w _ hx114_7)).trans hx114_7
    replace p114 := eq_true p114
    replace q114 := eq_true q114
    try go_wp2_with (first | ((with_reducible refine gate_dst (N := 4) rfl ?_); (try (refine gate_guard (by rfl) ?_; dsimp only)); refine box_event ?hg (N := 4) ?hd (cs := #[.string (⟨#[]⟩ : ByteArray), .int .i64 0, .float .f64 0, .string (⟨#[]⟩ : ByteArray), .int .i64 0, .int .i64 0, .float .f64 0, .string (⟨#[]⟩ : ByteArray)]) (t := 62) ?hr ?_; (case hd => rfl); (case hg => rfl); (case hr => first | (go_simp; done) | (go_simp; rfl)); intro gb115 hg w39 hbox hb; have BK115 := Aside0.mk (hbox); have GW115 := bZ HB hg; have GE115 := bZ HB hg; have NB113_115 := bL BK113 hg; have NB115_113 := bG BK113 hg; replace BK113 := bB BK113 hb; replace HB := bW HB hb; clear hb hbox hg; have hnb40 := NB115_113.out; have hnc40 := NB113_115.out; obtain ⟨hcz41_0, hcz41_1, hcz41_2, hcz41_3, hcz41_4, hcz41_5, hcz41_6, hcz41_7, hfz41_0, hfz41_1, hfz41_2, hfz41_3, hfz41_4, hfz41_5, hfz41_6, hfz41_7⟩ := bf8 (w := w39) BK115))
    have n0_ : Aside0 (((((((((w39.setCell ⟨gb115, 0, none⟩ (.string ((rd_T62 l0_1 x12_1).f0))).setCell ⟨gb115, 1, none⟩ (.int .i64 ((rd_T62 l0_1 x12_1).f1.f0))).setCell ⟨gb115, 2, none⟩ (.float .f64 ((rd_T62 l0_1 x12_1).f1.f1))).setCell ⟨gb115, 3, none⟩ (.string ((rd_T62 l0_1 x12_1).f1.f2))).setCell ⟨gb115, 4, none⟩ (.int .i64 ((rd_T62 l0_1 x12_1).f2))).setCell ⟨gb115, 5, none⟩ (.int .i64 ((rd_T62 l0_1 x12_1).f3.f0))).setCell ⟨gb115, 6, none⟩ (.float .f64 ((rd_T62 l0_1 x12_1).f3.f1))).setCell ⟨gb115, 7, none⟩ (.string ((rd_T62 l0_1 x12_1).f3.f2))).heap[gb113]? = some (.cells #[.bool false, .slice (some ad114) l0_1.length c0_1, .slice A0_2 l0_2.length c0_2, .slice A0_3 l0_3.length c0_3] 36 (0, 0))) := bS BK113
    have n1_ : Aside0 (((((((((w39.setCell ⟨gb115, 0, none⟩ (.string ((rd_T62 l0_1 x12_1).f0))).setCell ⟨gb115, 1, none⟩ (.int .i64 ((rd_T62 l0_1 x12_1).f1.f0))).setCell ⟨gb115, 2, none⟩ (.float .f64 ((rd_T62 l0_1 x12_1).f1.f1))).setCell ⟨gb115, 3, none⟩ (.string ((rd_T62 l0_1 x12_1).f1.f2))).setCell ⟨gb115, 4, none⟩ (.int .i64 ((rd_T62 l0_1 x12_1).f2))).setCell ⟨gb115, 5, none⟩ (.int .i64 ((rd_T62 l0_1 x12_1).f3.f0))).setCell ⟨gb115, 6, none⟩ (.float .f64 ((rd_T62 l0_1 x12_1).f3.f1))).setCell ⟨gb115, 7, none⟩ (.string ((rd_T62 l0_1 x12_1).f3.f2))).heap[gb115]? = some (.cells #[.string ((rd_T62 l0_1 x12_1).f0), .int .i64 ((rd_T62 l0_1 x12_1).f1.f0), .float .f64 ((rd_T62 l0_1 x12_1).f1.f1), .string ((rd_T62 l0_1 x12_1).f1.f2), .int .i64 ((rd_T62 l0_1 x12_1).f2), .int .i64 ((rd_T62 l0_1 x12_1).f3.f0), .float .f64 ((rd_T62 l0_1 x12_1).f3.f1), .string ((rd_T62 l0_1 x12_1).f3.f2)] 62 (0, 0))) := ⟨by (with_reducible repeat (first | refine blk_drewN ?_ _ | refine blk_drew ?_ | refine blk_alloc ?_ _)); refine blk_put (cs := #[.string ((rd_T62 l0_1 x12_1).f0), .int .i64 ((rd_T62 l0_1 x12_1).f1.f0), .float .f64 ((rd_T62 l0_1 x12_1).f1.f1), .string ((rd_T62 l0_1 x12_1).f1.f2), .int .i64 ((rd_T62 l0_1 x12_1).f2), .int .i64 ((rd_T62 l0_1 x12_1).f3.f0), .float .f64 ((rd_T62 l0_1 x12_1).f3.f1), .string (⟨#[]⟩ : ByteArray)]) ?_ 7 _ rfl; (with_reducible repeat (first | refine blk_drewN ?_ _ | refine blk_drew ?_ | refine blk_alloc ?_ _)); refine blk_put (cs := #[.string ((rd_T62 l0_1 x12_1).f0), .int .i64 ((rd_T62 l0_1 x12_1).f1.f0), .float .f64 ((rd_T62 l0_1 x12_1).f1.f1), .string ((rd_T62 l0_1 x12_1).f1.f2), .int .i64 ((rd_T62 l0_1 x12_1).f2), .int .i64 ((rd_T62 l0_1 x12_1).f3.f0), .float .f64 0, .string (⟨#[]⟩ : ByteArray)]) ?_ 6 _ rfl; (with_reducible repeat (first | refine blk_drewN ?_ _ | refine blk_drew ?_ | refine blk_alloc ?_ _)); refine blk_put (cs := #[.string ((rd_T62 l0_1 x12_1).f0), .int .i64 ((rd_T62 l0_1 x12_1).f1.f0), .float .f64 ((rd_T62 l0_1 x12_1).f1.f1), .string ((rd_T62 l0_1 x12_1).f1.f2), .int .i64 ((rd_T62 l0_1 x12_1).f2), .int .i64 0, .float .f64 0, .string (⟨#[]⟩ : ByteArray)]) ?_ 5 _ rfl; (with_reducible repeat (first | refine blk_drewN ?_ _ | refine blk_drew ?_ | refine blk_alloc ?_ _)); refine blk_put (cs := #[.string ((rd_T62 l0_1 x12_1).f0), .int .i64 ((rd_T62 l0_1 x12_1).f1.f0), .float .f64 ((rd_T62 l0_1 x12_1).f1.f1), .string ((rd_T62 l0_1 x12_1).f1.f2), .int .i64 0, .int .i64 0, .float .f64 0, .string (⟨#[]⟩ : ByteArray)]) ?_ 4 _ rfl; (with_reducible repeat (first | refine blk_drewN ?_ _ | refine blk_drew ?_ | refine blk_alloc ?_ _)); refine blk_put (cs := #[.string ((rd_T62 l0_1 x12_1).f0), .int .i64 ((rd_T62 l0_1 x12_1).f1.f0), .float .f64 ((rd_T62 l0_1 x12_1).f1.f1), .string (⟨#[]⟩ : ByteArray), .int .i64 0, .int .i64 0, .float .f64 0, .string (⟨#[]⟩ : ByteArray)]) ?_ 3 _ rfl; (with_reducible repeat (first | refine blk_drewN ?_ _ | refine blk_drew ?_ | refine blk_alloc ?_ _)); refine blk_put (cs := #[.string ((rd_T62 l0_1 x12_1).f0), .int .i64 ((rd_T62 l0_1 x12_1).f1.f0), .float .f64 0, .string (⟨#[]⟩ : ByteArray), .int .i64 0, .int .i64 0, .float .f64 0, .string (⟨#[]⟩ : ByteArray)]) ?_ 2 _ rfl; (with_reducible repeat (first | refine blk_drewN ?_ _ | refine blk_drew ?_ | refine blk_alloc ?_ _)); refine blk_put (cs := #[.string ((rd_T62 l0_1 x12_1).f0), .int .i64 0, .float .f64 0, .string (⟨#[]⟩ : ByteArray), .int .i64 0, .int .i64 0, .float .f64 0, .string (⟨#[]⟩ : ByteArray)]) ?_ 1 _ rfl; (with_reducible repeat (first | refine blk_drewN ?_ _ | refine blk_drew ?_ | refine blk_alloc ?_ _)); refine blk_put (cs := #[.string (⟨#[]⟩ : ByteArray), .int .i64 0, .float .f64 0, .string (⟨#[]⟩ : ByteArray), .int .i64 0, .int .i64 0, .float .f64 0, .string (⟨#[]⟩ : ByteArray)]) ?_ 0 _ rfl; (with_reducible repeat (first | refine blk_drewN ?_ _ | refine blk_drew ?_ | refine blk_alloc ?_ _)); exact BK115.out⟩
    have n2_ : Aside0 (Below w.heap.size w ((((((((w39.setCell ⟨gb115, 0, none⟩ (.string ((rd_T62 l0_1 x12_1).f0))).setCell ⟨gb115, 1, none⟩ (.int .i64 ((rd_T62 l0_1 x12_1).f1.f0))).setCell ⟨gb115, 2, none⟩ (.float .f64 ((rd_T62 l0_1 x12_1).f1.f1))).setCell ⟨gb115, 3, none⟩ (.string ((rd_T62 l0_1 x12_1).f1.f2))).setCell ⟨gb115, 4, none⟩ (.int .i64 ((rd_T62 l0_1 x12_1).f2))).setCell ⟨gb115, 5, none⟩ (.int .i64 ((rd_T62 l0_1 x12_1).f3.f0))).setCell ⟨gb115, 6, none⟩ (.float .f64 ((rd_T62 l0_1 x12_1).f3.f1))).setCell ⟨gb115, 7, none⟩ (.string ((rd_T62 l0_1 x12_1).f3.f2)))) := ⟨by repeat (first | (with_reducible first | exact HB.out | apply below_alloc | apply pw_below_drewN | apply below_drew1 | refine below_set ?_ GE113.out | refine below_set ?_ GE115.out) | exact HB.out)⟩
    (try clear BK113)
    (try clear BK115)
    (try clear HB)
    generalize ((((((((w39.setCell ⟨gb115, 0, none⟩ (.string ((rd_T62 l0_1 x12_1).f0))).setCell ⟨gb115, 1, none⟩ (.int .i64 ((rd_T62 l0_1 x12_1).f1.f0))).setCell ⟨gb115, 2, none⟩ (.float .f64 ((rd_T62 l0_1 x12_1).f1.f1))).setCell ⟨gb115, 3, none⟩ (.string ((rd_T62 l0_1 x12_1).f1.f2))).setCell ⟨gb115, 4, none⟩ (.int .i64 ((rd_T62 l0_1 x12_1).f2))).setCell ⟨gb115, 5, none⟩ (.int .i64 ((rd_T62 l0_1 x12_1).f3.f0))).setCell ⟨gb115, 6, none⟩ (.float .f64 ((rd_T62 l0_1 x12_1).f3.f1))).setCell ⟨gb115, 7, none⟩ (.string ((rd_T62 l0_1 x12_1).f3.f2))) = w42 at n0_ n1_ n2_ ⊢
    have BK113 := n0_
    have BK115 := n1_
    have HB := n2_
    clear n0_ n1_ n2_
    replace BK113 := Aside0.mk (blk_drew BK113.out)
    replace BK115 := Aside0.mk (blk_drew BK115.out)
    replace HB := Aside0.mk (below_drew1 HB.out)
    refine start_ (n := 24) (S := fun w' => w'.cell? ⟨gb113, 0, none⟩ = some (.bool false) ∧ w'.cell? ⟨gb113, 1, none⟩ = some (.slice (some ad114) l0_1.length c0_1) ∧ w'.cell? ⟨gb113, 2, none⟩ = some (.slice A0_2 l0_2.length c0_2) ∧ w'.cell? ⟨gb113, 3, none⟩ = some (.slice A0_3 l0_3.length c0_3)) (ds := []) #[false,false,false,false,false,false,false,false,false,false,false,false,false,false,false,false,false,false,false,false,false,false,false,false] (by kernel_rfl) rfl rfl (be4 BK113) (fun hHeld => ?_); refine with_tabW node_May.tab4 node_May.bits4 (fun HT_ HW_ => ?_)
    generalize w42.drew = w43 at BK113 BK115 HB hHeld ⊢
    refine pA 0 17 HT_ ?_
    refine tA 1 18 HT_ HW_ hHeld ?_ (hy := by rintro w' ⟨s0, s1, s2, s3⟩; go_simp; with_reducible rfl)
    refine pA 2 19 HT_ ?_
    refine pA 3 20 HT_ ?_
    refine pU 4 21 HT_ ?_
    refine pU 5 22 HT_ ?_
    refine pU 6 23 HT_ ?_
    refine pA 7 24 HT_ ?_
    refine pA 8 25 HT_ ?_
    refine pU 9 26 HT_ ?_
    refine pU 10 27 HT_ ?_
    refine pU 11 28 HT_ ?_
    refine pU 12 29 HT_ ?_
    refine pU 13 30 HT_ ?_
    refine pU 14 31 HT_ ?_
    refine pU 15 32 HT_ ?_
    refine pU 16 33 HT_ ?_
    refine pU 17 34 HT_ ?_
    refine pU 18 35 HT_ ?_
    refine pU 19 36 HT_ ?_
    refine pU 20 37 HT_ ?_
    refine pU 21 38 HT_ ?_
    refine pU 22 39 HT_ ?_
    refine pA 23 40 HT_ ?_
    refine done_ (done_of HT_.out (by kernel_rfl)) ?_
    try go_wp2
    go_ret
    exact xB HB
   subst c7
   have H1 : ((cell_May.f k1 ((rd_T62 l0_1 x12_1).f0) ((rd_T62 l0_1 x12_1).f1.f0) ((rd_T62 l0_1 x12_1).f1.f1) ((rd_T62 l0_1 x12_1).f1.f2) ((rd_T62 l0_1 x12_1).f2) ((rd_T62 l0_1 x12_1).f3.f0) ((rd_T62 l0_1 x12_1).f3.f1) ((rd_T62 l0_1 x12_1).f3.f2)).bind fun t116 => (if t116 = true then (if x12_1 > 0 then (if 0 ≤ (wrap64 (x12_1 - 1)) then (if (wrap64 (x12_1 - 1)) < (l0_1.length : Int) then (if ((Op.bytesLess (((rd_T62 l0_1 (wrap64 (x12_1 - 1))).f0).toList) (((rd_T62 l0_1 x12_1).f0).toList)) = true) then (node_May.l0 k1 l0_1 (l0_1.length : Int) (wrap64 (x12_1 + 1)) true l0_1 l0_2 l0_3) else (some false)) else (none)) else (none)) else (node_May.l0 k1 l0_1 (l0_1.length : Int) (wrap64 (x12_1 + 1)) true l0_1 l0_2 l0_3)) else (some false))) = some r := by rw [if_pos rfl] at H; exact H
   clear H
   have H := H1
   clear H1
   replace H := Option.bind_eq_some_iff.mp H
   obtain ⟨t116, A80, H⟩ := H
   replace H : (if t116 = true then (if x12_1 > 0 then (if 0 ≤ (wrap64 (x12_1 - 1)) then (if (wrap64 (x12_1 - 1)) < (l0_1.length : Int) then (if ((Op.bytesLess (((rd_T62 l0_1 (wrap64 (x12_1 - 1))).f0).toList) (((rd_T62 l0_1 x12_1).f0).toList)) = true) then (node_May.l0 k1 l0_1 (l0_1.length : Int) (wrap64 (x12_1 + 1)) true l0_1 l0_2 l0_3) else (some false)) else (none)) else (none)) else (node_May.l0 k1 l0_1 (l0_1.length : Int) (wrap64 (x12_1 + 1)) true l0_1 l0_2 l0_3)) else (some false)) = some r := H
   have A8 := Aside0.mk A80
   clear A80
   by_cases c9 : t116 = true
   rotate_left
   ·replace c9 := Bool.eq_false_iff.mpr c9
    subst c9
    have H1 : (some false) = some r := by rw [if_neg (show ¬ (false = true) by decide)] at H; exact H
    clear H
    have H := H1
    clear H1
    obtain rfl := Option.some.inj H
    have p114 : 0 ≤ (x12_1 : Int) := of_decide_eq_true (by first | (with_reducible assumption) | assumption)
    have q114 : x12_1 < (l0_1.length : Int) := of_decide_eq_true (by first | (with_reducible assumption) | assumption)
    obtain ⟨ad114, e114, hx114_0, hx114_1, hx114_2, hx114_3, hx114_4, hx114_5, hx114_6, hx114_7⟩ := at_T62 HR0_1.out x12_1 p114 q114
    cases e114
    replace hx114_0 := (HB.out.cell (World.block_lt_of_cell? w _ hx114_0)).trans hx114_0
    replace hx114_1 := (HB.out.cell (World.block_lt_of_cell? w _ hx114_1)).trans hx114_1
    replace hx114_2 := (HB.out.cell (World.block_lt_of_cell? w _ hx114_2)).trans hx114_2
    replace hx114_3 := (HB.out.cell (World.block_lt_of_cell? w _ hx114_3)).trans hx114_3
    replace hx114_4 := (HB.out.cell (World.block_lt_of_cell? w _ hx114_4)).trans hx114_4
    replace hx114_5 := (HB.out.cell (World.block_lt_of_cell? w _ hx114_5)).trans hx114_5
    replace hx114_6 := (HB.out.cell (World.block_lt_of_cell? w _ hx114_6)).trans hx114_6
    replace hx114_7 := (HB.out.cell (World.block_lt_of_cell? w _ hx114_7)).trans hx114_7
    replace p114 := eq_true p114
    replace q114 := eq_true q114
    try go_wp2_with (first | ((with_reducible refine gate_dst (N := 4) rfl ?_); (try (refine gate_guard (by rfl) ?_; dsimp only)); refine box_event ?hg (N := 4) ?hd (cs := #[.string (⟨#[]⟩ : ByteArray), .int .i64 0, .float .f64 0, .string (⟨#[]⟩ : ByteArray), .int .i64 0, .int .i64 0, .float .f64 0, .string (⟨#[]⟩ : ByteArray)]) (t := 62) ?hr ?_; (case hd => rfl); (case hg => rfl); (case hr => first | (go_simp; done) | (go_simp; rfl)); intro gb115 hg w33 hbox hb; have BK115 := Aside0.mk (hbox); have GW115 := bZ HB hg; have GE115 := bZ HB hg; have NB113_115 := bL BK113 hg; have NB115_113 := bG BK113 hg; replace BK113 := bB BK113 hb; replace HB := bW HB hb; clear hb hbox hg; have hnb34 := NB115_113.out; have hnc34 := NB113_115.out; obtain ⟨hcz35_0, hcz35_1, hcz35_2, hcz35_3, hcz35_4, hcz35_5, hcz35_6, hcz35_7, hfz35_0, hfz35_1, hfz35_2, hfz35_3, hfz35_4, hfz35_5, hfz35_6, hfz35_7⟩ := bf8 (w := w33) BK115))
    have n0_ : Aside0 (((((((((w33.setCell ⟨gb115, 0, none⟩ (.string ((rd_T62 l0_1 x12_1).f0))).setCell ⟨gb115, 1, none⟩ (.int .i64 ((rd_T62 l0_1 x12_1).f1.f0))).setCell ⟨gb115, 2, none⟩ (.float .f64 ((rd_T62 l0_1 x12_1).f1.f1))).setCell ⟨gb115, 3, none⟩ (.string ((rd_T62 l0_1 x12_1).f1.f2))).setCell ⟨gb115, 4, none⟩ (.int .i64 ((rd_T62 l0_1 x12_1).f2))).setCell ⟨gb115, 5, none⟩ (.int .i64 ((rd_T62 l0_1 x12_1).f3.f0))).setCell ⟨gb115, 6, none⟩ (.float .f64 ((rd_T62 l0_1 x12_1).f3.f1))).setCell ⟨gb115, 7, none⟩ (.string ((rd_T62 l0_1 x12_1).f3.f2))).heap[gb113]? = some (.cells #[.bool true, .slice (some ad114) l0_1.length c0_1, .slice A0_2 l0_2.length c0_2, .slice A0_3 l0_3.length c0_3] 36 (0, 0))) := bS BK113
    have n1_ : Aside0 (((((((((w33.setCell ⟨gb115, 0, none⟩ (.string ((rd_T62 l0_1 x12_1).f0))).setCell ⟨gb115, 1, none⟩ (.int .i64 ((rd_T62 l0_1 x12_1).f1.f0))).setCell ⟨gb115, 2, none⟩ (.float .f64 ((rd_T62 l0_1 x12_1).f1.f1))).setCell ⟨gb115, 3, none⟩ (.string ((rd_T62 l0_1 x12_1).f1.f2))).setCell ⟨gb115, 4, none⟩ (.int .i64 ((rd_T62 l0_1 x12_1).f2))).setCell ⟨gb115, 5, none⟩ (.int .i64 ((rd_T62 l0_1 x12_1).f3.f0))).setCell ⟨gb115, 6, none⟩ (.float .f64 ((rd_T62 l0_1 x12_1).f3.f1))).setCell ⟨gb115, 7, none⟩ (.string ((rd_T62 l0_1 x12_1).f3.f2))).heap[gb115]? = some (.cells #[.string ((rd_T62 l0_1 x12_1).f0), .int .i64 ((rd_T62 l0_1 x12_1).f1.f0), .float .f64 ((rd_T62 l0_1 x12_1).f1.f1), .string ((rd_T62 l0_1 x12_1).f1.f2), .int .i64 ((rd_T62 l0_1 x12_1).f2), .int .i64 ((rd_T62 l0_1 x12_1).f3.f0), .float .f64 ((rd_T62 l0_1 x12_1).f3.f1), .string ((rd_T62 l0_1 x12_1).f3.f2)] 62 (0, 0))) := ⟨by (with_reducible repeat (first | refine blk_drewN ?_ _ | refine blk_drew ?_ | refine blk_alloc ?_ _)); refine blk_put (cs := #[.string ((rd_T62 l0_1 x12_1).f0), .int .i64 ((rd_T62 l0_1 x12_1).f1.f0), .float .f64 ((rd_T62 l0_1 x12_1).f1.f1), .string ((rd_T62 l0_1 x12_1).f1.f2), .int .i64 ((rd_T62 l0_1 x12_1).f2), .int .i64 ((rd_T62 l0_1 x12_1).f3.f0), .float .f64 ((rd_T62 l0_1 x12_1).f3.f1), .string (⟨#[]⟩ : ByteArray)]) ?_ 7 _ rfl; (with_reducible repeat (first | refine blk_drewN ?_ _ | refine blk_drew ?_ | refine blk_alloc ?_ _)); refine blk_put (cs := #[.string ((rd_T62 l0_1 x12_1).f0), .int .i64 ((rd_T62 l0_1 x12_1).f1.f0), .float .f64 ((rd_T62 l0_1 x12_1).f1.f1), .string ((rd_T62 l0_1 x12_1).f1.f2), .int .i64 ((rd_T62 l0_1 x12_1).f2), .int .i64 ((rd_T62 l0_1 x12_1).f3.f0), .float .f64 0, .string (⟨#[]⟩ : ByteArray)]) ?_ 6 _ rfl; (with_reducible repeat (first | refine blk_drewN ?_ _ | refine blk_drew ?_ | refine blk_alloc ?_ _)); refine blk_put (cs := #[.string ((rd_T62 l0_1 x12_1).f0), .int .i64 ((rd_T62 l0_1 x12_1).f1.f0), .float .f64 ((rd_T62 l0_1 x12_1).f1.f1), .string ((rd_T62 l0_1 x12_1).f1.f2), .int .i64 ((rd_T62 l0_1 x12_1).f2), .int .i64 0, .float .f64 0, .string (⟨#[]⟩ : ByteArray)]) ?_ 5 _ rfl; (with_reducible repeat (first | refine blk_drewN ?_ _ | refine blk_drew ?_ | refine blk_alloc ?_ _)); refine blk_put (cs := #[.string ((rd_T62 l0_1 x12_1).f0), .int .i64 ((rd_T62 l0_1 x12_1).f1.f0), .float .f64 ((rd_T62 l0_1 x12_1).f1.f1), .string ((rd_T62 l0_1 x12_1).f1.f2), .int .i64 0, .int .i64 0, .float .f64 0, .string (⟨#[]⟩ : ByteArray)]) ?_ 4 _ rfl; (with_reducible repeat (first | refine blk_drewN ?_ _ | refine blk_drew ?_ | refine blk_alloc ?_ _)); refine blk_put (cs := #[.string ((rd_T62 l0_1 x12_1).f0), .int .i64 ((rd_T62 l0_1 x12_1).f1.f0), .float .f64 ((rd_T62 l0_1 x12_1).f1.f1), .string (⟨#[]⟩ : ByteArray), .int .i64 0, .int .i64 0, .float .f64 0, .string (⟨#[]⟩ : ByteArray)]) ?_ 3 _ rfl; (with_reducible repeat (first | refine blk_drewN ?_ _ | refine blk_drew ?_ | refine blk_alloc ?_ _)); refine blk_put (cs := #[.string ((rd_T62 l0_1 x12_1).f0), .int .i64 ((rd_T62 l0_1 x12_1).f1.f0), .float .f64 0, .string (⟨#[]⟩ : ByteArray), .int .i64 0, .int .i64 0, .float .f64 0, .string (⟨#[]⟩ : ByteArray)]) ?_ 2 _ rfl; (with_reducible repeat (first | refine blk_drewN ?_ _ | refine blk_drew ?_ | refine blk_alloc ?_ _)); refine blk_put (cs := #[.string ((rd_T62 l0_1 x12_1).f0), .int .i64 0, .float .f64 0, .string (⟨#[]⟩ : ByteArray), .int .i64 0, .int .i64 0, .float .f64 0, .string (⟨#[]⟩ : ByteArray)]) ?_ 1 _ rfl; (with_reducible repeat (first | refine blk_drewN ?_ _ | refine blk_drew ?_ | refine blk_alloc ?_ _)); refine blk_put (cs := #[.string (⟨#[]⟩ : ByteArray), .int .i64 0, .float .f64 0, .string (⟨#[]⟩ : ByteArray), .int .i64 0, .int .i64 0, .float .f64 0, .string (⟨#[]⟩ : ByteArray)]) ?_ 0 _ rfl; (with_reducible repeat (first | refine blk_drewN ?_ _ | refine blk_drew ?_ | refine blk_alloc ?_ _)); exact BK115.out⟩
    have n2_ : Aside0 (Below w.heap.size w ((((((((w33.setCell ⟨gb115, 0, none⟩ (.string ((rd_T62 l0_1 x12_1).f0))).setCell ⟨gb115, 1, none⟩ (.int .i64 ((rd_T62 l0_1 x12_1).f1.f0))).setCell ⟨gb115, 2, none⟩ (.float .f64 ((rd_T62 l0_1 x12_1).f1.f1))).setCell ⟨gb115, 3, none⟩ (.string ((rd_T62 l0_1 x12_1).f1.f2))).setCell ⟨gb115, 4, none⟩ (.int .i64 ((rd_T62 l0_1 x12_1).f2))).setCell ⟨gb115, 5, none⟩ (.int .i64 ((rd_T62 l0_1 x12_1).f3.f0))).setCell ⟨gb115, 6, none⟩ (.float .f64 ((rd_T62 l0_1 x12_1).f3.f1))).setCell ⟨gb115, 7, none⟩ (.string ((rd_T62 l0_1 x12_1).f3.f2)))) := ⟨by repeat (first | (with_reducible first | exact HB.out | apply below_alloc | apply pw_below_drewN | apply below_drew1 | refine below_set ?_ GE113.out | refine below_set ?_ GE115.out) | exact HB.out)⟩
    (try clear BK113)
    (try clear BK115)
    (try clear HB)
    generalize ((((((((w33.setCell ⟨gb115, 0, none⟩ (.string ((rd_T62 l0_1 x12_1).f0))).setCell ⟨gb115, 1, none⟩ (.int .i64 ((rd_T62 l0_1 x12_1).f1.f0))).setCell ⟨gb115, 2, none⟩ (.float .f64 ((rd_T62 l0_1 x12_1).f1.f1))).setCell ⟨gb115, 3, none⟩ (.string ((rd_T62 l0_1 x12_1).f1.f2))).setCell ⟨gb115, 4, none⟩ (.int .i64 ((rd_T62 l0_1 x12_1).f2))).setCell ⟨gb115, 5, none⟩ (.int .i64 ((rd_T62 l0_1 x12_1).f3.f0))).setCell ⟨gb115, 6, none⟩ (.float .f64 ((rd_T62 l0_1 x12_1).f3.f1))).setCell ⟨gb115, 7, none⟩ (.string ((rd_T62 l0_1 x12_1).f3.f2))) = w36 at n0_ n1_ n2_ ⊢
    have BK113 := n0_
    have BK115 := n1_
    have HB := n2_
    clear n0_ n1_ n2_
    replace BK113 := Aside0.mk (blk_drew BK113.out)
    replace BK115 := Aside0.mk (blk_drew BK115.out)
    replace HB := Aside0.mk (below_drew1 HB.out)
    refine start_ (n := 24) (S := fun w' => w'.cell? ⟨gb113, 0, none⟩ = some (.bool true) ∧ w'.cell? ⟨gb113, 1, none⟩ = some (.slice (some ad114) l0_1.length c0_1) ∧ w'.cell? ⟨gb113, 2, none⟩ = some (.slice A0_2 l0_2.length c0_2) ∧ w'.cell? ⟨gb113, 3, none⟩ = some (.slice A0_3 l0_3.length c0_3) ∧ w'.cell? ⟨gb115, 0, none⟩ = some (.string ((rd_T62 l0_1 x12_1).f0)) ∧ w'.cell? ⟨gb115, 1, none⟩ = some (.int .i64 ((rd_T62 l0_1 x12_1).f1.f0)) ∧ w'.cell? ⟨gb115, 2, none⟩ = some (.float .f64 ((rd_T62 l0_1 x12_1).f1.f1)) ∧ w'.cell? ⟨gb115, 3, none⟩ = some (.string ((rd_T62 l0_1 x12_1).f1.f2)) ∧ w'.cell? ⟨gb115, 4, none⟩ = some (.int .i64 ((rd_T62 l0_1 x12_1).f2)) ∧ w'.cell? ⟨gb115, 5, none⟩ = some (.int .i64 ((rd_T62 l0_1 x12_1).f3.f0)) ∧ w'.cell? ⟨gb115, 6, none⟩ = some (.float .f64 ((rd_T62 l0_1 x12_1).f3.f1)) ∧ w'.cell? ⟨gb115, 7, none⟩ = some (.string ((rd_T62 l0_1 x12_1).f3.f2))) (ds := []) #[false,false,false,false,false,false,false,false,false,false,false,false,false,false,false,false,false,false,false,false,false,false,false,false] (by kernel_rfl) rfl rfl (bn4 BK113 (be8 BK115)) (fun hHeld => ?_); refine with_tabW node_May.tab4 node_May.bits4 (fun HT_ HW_ => ?_)
    generalize w36.drew = w37 at BK113 BK115 HB hHeld ⊢
    refine pA 0 17 HT_ ?_
    refine tA 1 18 HT_ HW_ hHeld ?_ (hy := by rintro w' ⟨s0, s1, s2, s3, s4, s5, s6, s7, s8, s9, s10, s11⟩; go_simp; with_reducible rfl)
    refine pA 2 19 HT_ ?_
    refine pA 3 20 HT_ ?_
    refine tA 4 21 HT_ HW_ hHeld ?_ (hy := by rintro w' ⟨s0, s1, s2, s3, s4, s5, s6, s7, s8, s9, s10, s11⟩; go_simp; with_reducible rfl)
    refine oA 5 (some 22) HT_ (fun K hK => ?_)
    refine goes_ Try.func33 (by kernel_rfl) rfl #[.agg #[.string ((rd_T62 l0_1 x12_1).f0), .int .i64 ((rd_T62 l0_1 x12_1).f1.f0), .float .f64 ((rd_T62 l0_1 x12_1).f1.f1), .string ((rd_T62 l0_1 x12_1).f1.f2), .int .i64 ((rd_T62 l0_1 x12_1).f2), .int .i64 ((rd_T62 l0_1 x12_1).f3.f0), .float .f64 ((rd_T62 l0_1 x12_1).f3.f1), .string ((rd_T62 l0_1 x12_1).f3.f2)]] (by rfl) rfl rfl (by (try simp only [List.map_toArray, List.map_cons, List.map_nil]); first | done | rfl | (simp only [List.length_drop, List.length_take]; rfl)) ?_
    with_reducible refine (cell_May.calls k1 ((rd_T62 l0_1 x12_1).f0) ((rd_T62 l0_1 x12_1).f1.f0) ((rd_T62 l0_1 x12_1).f1.f1) ((rd_T62 l0_1 x12_1).f1.f2) ((rd_T62 l0_1 x12_1).f2) ((rd_T62 l0_1 x12_1).f3.f0) ((rd_T62 l0_1 x12_1).f3.f1) ((rd_T62 l0_1 x12_1).f3.f2) false _ A8.out).mono ?_
    rintro e w38 ⟨rfl, hb⟩
    refine ⟨_, rfl, ?_⟩
    replace BK113 := bB BK113 hb
    replace BK115 := bB BK115 hb
    replace HB := bW HB hb
    (try clear hb)
    (try clear hb2)
    (try clear hk)
    (try clear hi)
    refine hK.out _ _ (bn4 BK113 (be8 BK115)) (fun hHeld => ?_)
    clear hK K
    refine norm_ (a' := ?_) ?_ ?_
    rotate_left
    ·show Act.put _ (some 22) _ = _
     simp only [Act.put, List.setIfInBounds_toArray, List.set_cons_zero, List.set_cons_succ, i64_w, i32_w]
     rfl
    refine pA 6 23 HT_ ?_
    refine pA 7 24 HT_ ?_
    refine pA 8 25 HT_ ?_
    refine pU 9 26 HT_ ?_
    refine pU 10 27 HT_ ?_
    refine pU 11 28 HT_ ?_
    refine pU 12 29 HT_ ?_
    refine pU 13 30 HT_ ?_
    refine pU 14 31 HT_ ?_
    refine pU 15 32 HT_ ?_
    refine pU 16 33 HT_ ?_
    refine pU 17 34 HT_ ?_
    refine pU 18 35 HT_ ?_
    refine pU 19 36 HT_ ?_
    refine pU 20 37 HT_ ?_
    refine pU 21 38 HT_ ?_
    refine pU 22 39 HT_ ?_
    refine pA 23 40 HT_ ?_
    refine done_ (done_of HT_.out (by kernel_rfl)) ?_
    try go_wp2
    go_ret
    exact xB HB
   subst c9
   have H1 : (if x12_1 > 0 then (if 0 ≤ (wrap64 (x12_1 - 1)) then (if (wrap64 (x12_1 - 1)) < (l0_1.length : Int) then (if ((Op.bytesLess (((rd_T62 l0_1 (wrap64 (x12_1 - 1))).f0).toList) (((rd_T62 l0_1 x12_1).f0).toList)) = true) then (node_May.l0 k1 l0_1 (l0_1.length : Int) (wrap64 (x12_1 + 1)) true l0_1 l0_2 l0_3) else (some false)) else (none)) else (none)) else (node_May.l0 k1 l0_1 (l0_1.length : Int) (wrap64 (x12_1 + 1)) true l0_1 l0_2 l0_3)) = some r := by rw [if_pos rfl] at H; exact H
   clear H
   have H := H1
   clear H1
   by_cases c10 : x12_1 > 0
   rotate_left
   ·rw [if_neg c10] at H
    have c10b0 : decide (0 < x12_1) = false := decide_eq_false c10
    clear c10
    have H' := Aside0.mk H
    clear H
    have p114 : 0 ≤ (x12_1 : Int) := of_decide_eq_true (by first | (with_reducible assumption) | assumption)
    have q114 : x12_1 < (l0_1.length : Int) := of_decide_eq_true (by first | (with_reducible assumption) | assumption)
    obtain ⟨ad114, e114, hx114_0, hx114_1, hx114_2, hx114_3, hx114_4, hx114_5, hx114_6, hx114_7⟩ := at_T62 HR0_1.out x12_1 p114 q114
    cases e114
    replace hx114_0 := (HB.out.cell (World.block_lt_of_cell? w _ hx114_0)).trans hx114_0
    replace hx114_1 := (HB.out.cell (World.block_lt_of_cell? w _ hx114_1)).trans hx114_1
    replace hx114_2 := (HB.out.cell (World.block_lt_of_cell? w _ hx114_2)).trans hx114_2
    replace hx114_3 := (HB.out.cell (World.block_lt_of_cell? w _ hx114_3)).trans hx114_3
    replace hx114_4 := (HB.out.cell (World.block_lt_of_cell? w _ hx114_4)).trans hx114_4
    replace hx114_5 := (HB.out.cell (World.block_lt_of_cell? w _ hx114_5)).trans hx114_5
    replace hx114_6 := (HB.out.cell (World.block_lt_of_cell? w _ hx114_6)).trans hx114_6
    replace hx114_7 := (HB.out.cell (World.block_lt_of_cell? w _ hx114_7)).trans hx114_7
    replace p114 := eq_true p114
    replace q114 := eq_true q114
    try go_wp2_with (first | ((with_reducible refine gate_dst (N := 4) rfl ?_); (try (refine gate_guard (by rfl) ?_; dsimp only)); refine box_event ?hg (N := 4) ?hd (cs := #[.string (⟨#[]⟩ : ByteArray), .int .i64 0, .float .f64 0, .string (⟨#[]⟩ : ByteArray), .int .i64 0, .int .i64 0, .float .f64 0, .string (⟨#[]⟩ : ByteArray)]) (t := 62) ?hr ?_; (case hd => rfl); (case hg => rfl); (case hr => first | (go_simp; done) | (go_simp; rfl)); intro gb115 hg w27 hbox hb; have BK115 := Aside0.mk (hbox); have GW115 := bZ HB hg; have GE115 := bZ HB hg; have NB113_115 := bL BK113 hg; have NB115_113 := bG BK113 hg; replace BK113 := bB BK113 hb; replace HB := bW HB hb; clear hb hbox hg; have hnb28 := NB115_113.out; have hnc28 := NB113_115.out; obtain ⟨hcz29_0, hcz29_1, hcz29_2, hcz29_3, hcz29_4, hcz29_5, hcz29_6, hcz29_7, hfz29_0, hfz29_1, hfz29_2, hfz29_3, hfz29_4, hfz29_5, hfz29_6, hfz29_7⟩ := bf8 (w := w27) BK115))
    have n0_ : Aside0 (((((((((w27.setCell ⟨gb115, 0, none⟩ (.string ((rd_T62 l0_1 x12_1).f0))).setCell ⟨gb115, 1, none⟩ (.int .i64 ((rd_T62 l0_1 x12_1).f1.f0))).setCell ⟨gb115, 2, none⟩ (.float .f64 ((rd_T62 l0_1 x12_1).f1.f1))).setCell ⟨gb115, 3, none⟩ (.string ((rd_T62 l0_1 x12_1).f1.f2))).setCell ⟨gb115, 4, none⟩ (.int .i64 ((rd_T62 l0_1 x12_1).f2))).setCell ⟨gb115, 5, none⟩ (.int .i64 ((rd_T62 l0_1 x12_1).f3.f0))).setCell ⟨gb115, 6, none⟩ (.float .f64 ((rd_T62 l0_1 x12_1).f3.f1))).setCell ⟨gb115, 7, none⟩ (.string ((rd_T62 l0_1 x12_1).f3.f2))).heap[gb113]? = some (.cells #[.bool true, .slice (some ad114) l0_1.length c0_1, .slice A0_2 l0_2.length c0_2, .slice A0_3 l0_3.length c0_3] 36 (0, 0))) := bS BK113
    have n1_ : Aside0 (((((((((w27.setCell ⟨gb115, 0, none⟩ (.string ((rd_T62 l0_1 x12_1).f0))).setCell ⟨gb115, 1, none⟩ (.int .i64 ((rd_T62 l0_1 x12_1).f1.f0))).setCell ⟨gb115, 2, none⟩ (.float .f64 ((rd_T62 l0_1 x12_1).f1.f1))).setCell ⟨gb115, 3, none⟩ (.string ((rd_T62 l0_1 x12_1).f1.f2))).setCell ⟨gb115, 4, none⟩ (.int .i64 ((rd_T62 l0_1 x12_1).f2))).setCell ⟨gb115, 5, none⟩ (.int .i64 ((rd_T62 l0_1 x12_1).f3.f0))).setCell ⟨gb115, 6, none⟩ (.float .f64 ((rd_T62 l0_1 x12_1).f3.f1))).setCell ⟨gb115, 7, none⟩ (.string ((rd_T62 l0_1 x12_1).f3.f2))).heap[gb115]? = some (.cells #[.string ((rd_T62 l0_1 x12_1).f0), .int .i64 ((rd_T62 l0_1 x12_1).f1.f0), .float .f64 ((rd_T62 l0_1 x12_1).f1.f1), .string ((rd_T62 l0_1 x12_1).f1.f2), .int .i64 ((rd_T62 l0_1 x12_1).f2), .int .i64 ((rd_T62 l0_1 x12_1).f3.f0), .float .f64 ((rd_T62 l0_1 x12_1).f3.f1), .string ((rd_T62 l0_1 x12_1).f3.f2)] 62 (0, 0))) := ⟨by (with_reducible repeat (first | refine blk_drewN ?_ _ | refine blk_drew ?_ | refine blk_alloc ?_ _)); refine blk_put (cs := #[.string ((rd_T62 l0_1 x12_1).f0), .int .i64 ((rd_T62 l0_1 x12_1).f1.f0), .float .f64 ((rd_T62 l0_1 x12_1).f1.f1), .string ((rd_T62 l0_1 x12_1).f1.f2), .int .i64 ((rd_T62 l0_1 x12_1).f2), .int .i64 ((rd_T62 l0_1 x12_1).f3.f0), .float .f64 ((rd_T62 l0_1 x12_1).f3.f1), .string (⟨#[]⟩ : ByteArray)]) ?_ 7 _ rfl; (with_reducible repeat (first | refine blk_drewN ?_ _ | refine blk_drew ?_ | refine blk_alloc ?_ _)); refine blk_put (cs := #[.string ((rd_T62 l0_1 x12_1).f0), .int .i64 ((rd_T62 l0_1 x12_1).f1.f0), .float .f64 ((rd_T62 l0_1 x12_1).f1.f1), .string ((rd_T62 l0_1 x12_1).f1.f2), .int .i64 ((rd_T62 l0_1 x12_1).f2), .int .i64 ((rd_T62 l0_1 x12_1).f3.f0), .float .f64 0, .string (⟨#[]⟩ : ByteArray)]) ?_ 6 _ rfl; (with_reducible repeat (first | refine blk_drewN ?_ _ | refine blk_drew ?_ | refine blk_alloc ?_ _)); refine blk_put (cs := #[.string ((rd_T62 l0_1 x12_1).f0), .int .i64 ((rd_T62 l0_1 x12_1).f1.f0), .float .f64 ((rd_T62 l0_1 x12_1).f1.f1), .string ((rd_T62 l0_1 x12_1).f1.f2), .int .i64 ((rd_T62 l0_1 x12_1).f2), .int .i64 0, .float .f64 0, .string (⟨#[]⟩ : ByteArray)]) ?_ 5 _ rfl; (with_reducible repeat (first | refine blk_drewN ?_ _ | refine blk_drew ?_ | refine blk_alloc ?_ _)); refine blk_put (cs := #[.string ((rd_T62 l0_1 x12_1).f0), .int .i64 ((rd_T62 l0_1 x12_1).f1.f0), .float .f64 ((rd_T62 l0_1 x12_1).f1.f1), .string ((rd_T62 l0_1 x12_1).f1.f2), .int .i64 0, .int .i64 0, .float .f64 0, .string (⟨#[]⟩ : ByteArray)]) ?_ 4 _ rfl; (with_reducible repeat (first | refine blk_drewN ?_ _ | refine blk_drew ?_ | refine blk_alloc ?_ _)); refine blk_put (cs := #[.string ((rd_T62 l0_1 x12_1).f0), .int .i64 ((rd_T62 l0_1 x12_1).f1.f0), .float .f64 ((rd_T62 l0_1 x12_1).f1.f1), .string (⟨#[]⟩ : ByteArray), .int .i64 0, .int .i64 0, .float .f64 0, .string (⟨#[]⟩ : ByteArray)]) ?_ 3 _ rfl; (with_reducible repeat (first | refine blk_drewN ?_ _ | refine blk_drew ?_ | refine blk_alloc ?_ _)); refine blk_put (cs := #[.string ((rd_T62 l0_1 x12_1).f0), .int .i64 ((rd_T62 l0_1 x12_1).f1.f0), .float .f64 0, .string (⟨#[]⟩ : ByteArray), .int .i64 0, .int .i64 0, .float .f64 0, .string (⟨#[]⟩ : ByteArray)]) ?_ 2 _ rfl; (with_reducible repeat (first | refine blk_drewN ?_ _ | refine blk_drew ?_ | refine blk_alloc ?_ _)); refine blk_put (cs := #[.string ((rd_T62 l0_1 x12_1).f0), .int .i64 0, .float .f64 0, .string (⟨#[]⟩ : ByteArray), .int .i64 0, .int .i64 0, .float .f64 0, .string (⟨#[]⟩ : ByteArray)]) ?_ 1 _ rfl; (with_reducible repeat (first | refine blk_drewN ?_ _ | refine blk_drew ?_ | refine blk_alloc ?_ _)); refine blk_put (cs := #[.string (⟨#[]⟩ : ByteArray), .int .i64 0, .float .f64 0, .string (⟨#[]⟩ : ByteArray), .int .i64 0, .int .i64 0, .float .f64 0, .string (⟨#[]⟩ : ByteArray)]) ?_ 0 _ rfl; (with_reducible repeat (first | refine blk_drewN ?_ _ | refine blk_drew ?_ | refine blk_alloc ?_ _)); exact BK115.out⟩
    have n2_ : Aside0 (Below w.heap.size w ((((((((w27.setCell ⟨gb115, 0, none⟩ (.string ((rd_T62 l0_1 x12_1).f0))).setCell ⟨gb115, 1, none⟩ (.int .i64 ((rd_T62 l0_1 x12_1).f1.f0))).setCell ⟨gb115, 2, none⟩ (.float .f64 ((rd_T62 l0_1 x12_1).f1.f1))).setCell ⟨gb115, 3, none⟩ (.string ((rd_T62 l0_1 x12_1).f1.f2))).setCell ⟨gb115, 4, none⟩ (.int .i64 ((rd_T62 l0_1 x12_1).f2))).setCell ⟨gb115, 5, none⟩ (.int .i64 ((rd_T62 l0_1 x12_1).f3.f0))).setCell ⟨gb115, 6, none⟩ (.float .f64 ((rd_T62 l0_1 x12_1).f3.f1))).setCell ⟨gb115, 7, none⟩ (.string ((rd_T62 l0_1 x12_1).f3.f2)))) := ⟨by repeat (first | (with_reducible first | exact HB.out | apply below_alloc | apply pw_below_drewN | apply below_drew1 | refine below_set ?_ GE113.out | refine below_set ?_ GE115.out) | exact HB.out)⟩
    (try clear BK113)
    (try clear BK115)
    (try clear HB)
    generalize ((((((((w27.setCell ⟨gb115, 0, none⟩ (.string ((rd_T62 l0_1 x12_1).f0))).setCell ⟨gb115, 1, none⟩ (.int .i64 ((rd_T62 l0_1 x12_1).f1.f0))).setCell ⟨gb115, 2, none⟩ (.float .f64 ((rd_T62 l0_1 x12_1).f1.f1))).setCell ⟨gb115, 3, none⟩ (.string ((rd_T62 l0_1 x12_1).f1.f2))).setCell ⟨gb115, 4, none⟩ (.int .i64 ((rd_T62 l0_1 x12_1).f2))).setCell ⟨gb115, 5, none⟩ (.int .i64 ((rd_T62 l0_1 x12_1).f3.f0))).setCell ⟨gb115, 6, none⟩ (.float .f64 ((rd_T62 l0_1 x12_1).f3.f1))).setCell ⟨gb115, 7, none⟩ (.string ((rd_T62 l0_1 x12_1).f3.f2))) = w30 at n0_ n1_ n2_ ⊢
    have BK113 := n0_
    have BK115 := n1_
    have HB := n2_
    clear n0_ n1_ n2_
    replace BK113 := Aside0.mk (blk_drew BK113.out)
    replace BK115 := Aside0.mk (blk_drew BK115.out)
    replace HB := Aside0.mk (below_drew1 HB.out)
    refine start_ (n := 24) (S := fun w' => w'.cell? ⟨gb113, 0, none⟩ = some (.bool true) ∧ w'.cell? ⟨gb113, 1, none⟩ = some (.slice (some ad114) l0_1.length c0_1) ∧ w'.cell? ⟨gb113, 2, none⟩ = some (.slice A0_2 l0_2.length c0_2) ∧ w'.cell? ⟨gb113, 3, none⟩ = some (.slice A0_3 l0_3.length c0_3) ∧ w'.cell? ⟨gb115, 0, none⟩ = some (.string ((rd_T62 l0_1 x12_1).f0)) ∧ w'.cell? ⟨gb115, 1, none⟩ = some (.int .i64 ((rd_T62 l0_1 x12_1).f1.f0)) ∧ w'.cell? ⟨gb115, 2, none⟩ = some (.float .f64 ((rd_T62 l0_1 x12_1).f1.f1)) ∧ w'.cell? ⟨gb115, 3, none⟩ = some (.string ((rd_T62 l0_1 x12_1).f1.f2)) ∧ w'.cell? ⟨gb115, 4, none⟩ = some (.int .i64 ((rd_T62 l0_1 x12_1).f2)) ∧ w'.cell? ⟨gb115, 5, none⟩ = some (.int .i64 ((rd_T62 l0_1 x12_1).f3.f0)) ∧ w'.cell? ⟨gb115, 6, none⟩ = some (.float .f64 ((rd_T62 l0_1 x12_1).f3.f1)) ∧ w'.cell? ⟨gb115, 7, none⟩ = some (.string ((rd_T62 l0_1 x12_1).f3.f2))) (ds := []) #[false,false,false,false,false,false,false,false,false,false,false,false,false,false,false,false,false,false,false,false,false,false,false,false] (by kernel_rfl) rfl rfl (bn4 BK113 (be8 BK115)) (fun hHeld => ?_); refine with_tabW node_May.tab4 node_May.bits4 (fun HT_ HW_ => ?_)
    generalize w30.drew = w31 at BK113 BK115 HB hHeld ⊢
    refine pA 0 17 HT_ ?_
    refine tA 1 18 HT_ HW_ hHeld ?_ (hy := by rintro w' ⟨s0, s1, s2, s3, s4, s5, s6, s7, s8, s9, s10, s11⟩; go_simp; with_reducible rfl)
    refine pA 2 19 HT_ ?_
    refine pA 3 20 HT_ ?_
    refine tA 4 21 HT_ HW_ hHeld ?_ (hy := by rintro w' ⟨s0, s1, s2, s3, s4, s5, s6, s7, s8, s9, s10, s11⟩; go_simp; with_reducible rfl)
    refine oA 5 (some 22) HT_ (fun K hK => ?_)
    refine goes_ Try.func33 (by kernel_rfl) rfl #[.agg #[.string ((rd_T62 l0_1 x12_1).f0), .int .i64 ((rd_T62 l0_1 x12_1).f1.f0), .float .f64 ((rd_T62 l0_1 x12_1).f1.f1), .string ((rd_T62 l0_1 x12_1).f1.f2), .int .i64 ((rd_T62 l0_1 x12_1).f2), .int .i64 ((rd_T62 l0_1 x12_1).f3.f0), .float .f64 ((rd_T62 l0_1 x12_1).f3.f1), .string ((rd_T62 l0_1 x12_1).f3.f2)]] (by rfl) rfl rfl (by (try simp only [List.map_toArray, List.map_cons, List.map_nil]); first | done | rfl | (simp only [List.length_drop, List.length_take]; rfl)) ?_
    with_reducible refine (cell_May.calls k1 ((rd_T62 l0_1 x12_1).f0) ((rd_T62 l0_1 x12_1).f1.f0) ((rd_T62 l0_1 x12_1).f1.f1) ((rd_T62 l0_1 x12_1).f1.f2) ((rd_T62 l0_1 x12_1).f2) ((rd_T62 l0_1 x12_1).f3.f0) ((rd_T62 l0_1 x12_1).f3.f1) ((rd_T62 l0_1 x12_1).f3.f2) true _ A8.out).mono ?_
    rintro e w32 ⟨rfl, hb⟩
    refine ⟨_, rfl, ?_⟩
    replace BK113 := bB BK113 hb
    replace BK115 := bB BK115 hb
    replace HB := bW HB hb
    (try clear hb)
    (try clear hb2)
    (try clear hk)
    (try clear hi)
    refine hK.out _ _ (bn4 BK113 (be8 BK115)) (fun hHeld => ?_)
    clear hK K
    refine norm_ (a' := ?_) ?_ ?_
    rotate_left
    ·show Act.put _ (some 22) _ = _
     simp only [Act.put, List.setIfInBounds_toArray, List.set_cons_zero, List.set_cons_succ, i64_w, i32_w]
     rfl
    refine pA 6 23 HT_ ?_
    refine pA 7 24 HT_ ?_
    refine pA 8 25 HT_ ?_
    refine pA 9 26 HT_ ?_
    refine pA 10 27 HT_ ?_
    refine pA 11 28 HT_ ?_
    refine pU 12 29 HT_ ?_
    refine pU 13 30 HT_ ?_
    refine pU 14 31 HT_ ?_
    refine pU 15 32 HT_ ?_
    refine pU 16 33 HT_ ?_
    refine pU 17 34 HT_ ?_
    refine pU 18 35 HT_ ?_
    refine pU 19 36 HT_ ?_
    refine pU 20 37 HT_ ?_
    refine pU 21 38 HT_ ?_
    refine pA 22 39 HT_ ?_
    refine pA 23 40 HT_ ?_
    refine done_ (done_of HT_.out (by kernel_rfl)) ?_
    try go_wp2
    go_roundg k1
    case measure => have := HK1.out; omega
    case rel => exact ⟨(wrap64 (x12_1 + 1)), (by first | rfl | (simp; done) | (simp [*]; done)), H', ⟨by have := HK1.out; omega⟩, ⟨by (with_reducible repeat (first | refine blk_drewN ?_ _ | refine blk_drew ?_ | refine blk_alloc ?_ _)); exact BK113.out⟩, ⟨by repeat (first | (with_reducible first | exact HB.out | apply below_alloc | apply pw_below_drewN | apply below_drew1 | refine below_set ?_ GE113.out | refine below_set ?_ GE115.out) | exact HB.out)⟩⟩
   rw [if_pos c10] at H
   have c10b0 : decide (0 < x12_1) = true := decide_eq_true c10
   clear c10
   obtain ⟨ji11, hji11⟩ : ∃ j_ : Int, (wrap64 (x12_1 - 1)) = j_ := ⟨_, rfl⟩
   replace H : (if 0 ≤ (ji11) then (if (ji11) < (l0_1.length : Int) then (if ((Op.bytesLess (((rd_T62 l0_1 (ji11)).f0).toList) (((rd_T62 l0_1 x12_1).f0).toList)) = true) then (node_May.l0 k1 l0_1 (l0_1.length : Int) (wrap64 (x12_1 + 1)) true l0_1 l0_2 l0_3) else (some false)) else (none)) else (none)) = some r := by first | (rw [hji11] at H; exact H) | (simp only [hji11] at H ⊢; exact H)
   (try rw [hji11] at A8)
   have hji11w : (IntKind.i64.wrap (x12_1 - 1)) = ji11 := (i64_w _).trans hji11
   by_cases c12 : 0 ≤ (ji11)
   rotate_left
   ·rw [if_neg c12] at H
    exact absurd H (by simp)
   rw [if_pos c12] at H
   have c12b0 : decide (0 ≤ (ji11)) = true := decide_eq_true c12
   clear c12
   by_cases c13 : (ji11) < (l0_1.length : Int)
   rotate_left
   ·rw [if_neg c13] at H
    exact absurd H (by simp)
   rw [if_pos c13] at H
   have c13b0 : decide ((ji11) < (l0_1.length : Int)) = true := decide_eq_true c13
   clear c13
   by_cases c14 : ((Op.bytesLess (((rd_T62 l0_1 (ji11)).f0).toList) (((rd_T62 l0_1 x12_1).f0).toList)) = true)
   rotate_left
   ·rw [if_neg c14] at H
    have c14b0 : (Op.bytesLess (((rd_T62 l0_1 (ji11)).f0).toList) (((rd_T62 l0_1 x12_1).f0).toList)) = false := by simpa using c14
    clear c14
    obtain rfl := Option.some.inj H
    have p114 : 0 ≤ (x12_1 : Int) := of_decide_eq_true (by first | (with_reducible assumption) | assumption)
    have q114 : x12_1 < (l0_1.length : Int) := of_decide_eq_true (by first | (with_reducible assumption) | assumption)
    obtain ⟨ad114, e114, hx114_0, hx114_1, hx114_2, hx114_3, hx114_4, hx114_5, hx114_6, hx114_7⟩ := at_T62 HR0_1.out x12_1 p114 q114
    cases e114
    replace hx114_0 := (HB.out.cell (World.block_lt_of_cell? w _ hx114_0)).trans hx114_0
    replace hx114_1 := (HB.out.cell (World.block_lt_of_cell? w _ hx114_1)).trans hx114_1
    replace hx114_2 := (HB.out.cell (World.block_lt_of_cell? w _ hx114_2)).trans hx114_2
    replace hx114_3 := (HB.out.cell (World.block_lt_of_cell? w _ hx114_3)).trans hx114_3
    replace hx114_4 := (HB.out.cell (World.block_lt_of_cell? w _ hx114_4)).trans hx114_4
    replace hx114_5 := (HB.out.cell (World.block_lt_of_cell? w _ hx114_5)).trans hx114_5
    replace hx114_6 := (HB.out.cell (World.block_lt_of_cell? w _ hx114_6)).trans hx114_6
    replace hx114_7 := (HB.out.cell (World.block_lt_of_cell? w _ hx114_7)).trans hx114_7
    replace p114 := eq_true p114
    replace q114 := eq_true q114
    try go_wp2_with (first | ((with_reducible refine gate_dst (N := 4) rfl ?_); (try (refine gate_guard (by rfl) ?_; dsimp only)); refine box_event ?hg (N := 4) ?hd (cs := #[.string (⟨#[]⟩ : ByteArray), .int .i64 0, .float .f64 0, .string (⟨#[]⟩ : ByteArray), .int .i64 0, .int .i64 0, .float .f64 0, .string (⟨#[]⟩ : ByteArray)]) (t := 62) ?hr ?_; (case hd => rfl); (case hg => rfl); (case hr => first | (go_simp; done) | (go_simp; rfl)); intro gb115 hg w21 hbox hb; have BK115 := Aside0.mk (hbox); have GW115 := bZ HB hg; have GE115 := bZ HB hg; have NB113_115 := bL BK113 hg; have NB115_113 := bG BK113 hg; replace BK113 := bB BK113 hb; replace HB := bW HB hb; clear hb hbox hg; have hnb22 := NB115_113.out; have hnc22 := NB113_115.out; obtain ⟨hcz23_0, hcz23_1, hcz23_2, hcz23_3, hcz23_4, hcz23_5, hcz23_6, hcz23_7, hfz23_0, hfz23_1, hfz23_2, hfz23_3, hfz23_4, hfz23_5, hfz23_6, hfz23_7⟩ := bf8 (w := w21) BK115))
    have n0_ : Aside0 (((((((((w21.setCell ⟨gb115, 0, none⟩ (.string ((rd_T62 l0_1 x12_1).f0))).setCell ⟨gb115, 1, none⟩ (.int .i64 ((rd_T62 l0_1 x12_1).f1.f0))).setCell ⟨gb115, 2, none⟩ (.float .f64 ((rd_T62 l0_1 x12_1).f1.f1))).setCell ⟨gb115, 3, none⟩ (.string ((rd_T62 l0_1 x12_1).f1.f2))).setCell ⟨gb115, 4, none⟩ (.int .i64 ((rd_T62 l0_1 x12_1).f2))).setCell ⟨gb115, 5, none⟩ (.int .i64 ((rd_T62 l0_1 x12_1).f3.f0))).setCell ⟨gb115, 6, none⟩ (.float .f64 ((rd_T62 l0_1 x12_1).f3.f1))).setCell ⟨gb115, 7, none⟩ (.string ((rd_T62 l0_1 x12_1).f3.f2))).heap[gb113]? = some (.cells #[.bool true, .slice (some ad114) l0_1.length c0_1, .slice A0_2 l0_2.length c0_2, .slice A0_3 l0_3.length c0_3] 36 (0, 0))) := bS BK113
    have n1_ : Aside0 (((((((((w21.setCell ⟨gb115, 0, none⟩ (.string ((rd_T62 l0_1 x12_1).f0))).setCell ⟨gb115, 1, none⟩ (.int .i64 ((rd_T62 l0_1 x12_1).f1.f0))).setCell ⟨gb115, 2, none⟩ (.float .f64 ((rd_T62 l0_1 x12_1).f1.f1))).setCell ⟨gb115, 3, none⟩ (.string ((rd_T62 l0_1 x12_1).f1.f2))).setCell ⟨gb115, 4, none⟩ (.int .i64 ((rd_T62 l0_1 x12_1).f2))).setCell ⟨gb115, 5, none⟩ (.int .i64 ((rd_T62 l0_1 x12_1).f3.f0))).setCell ⟨gb115, 6, none⟩ (.float .f64 ((rd_T62 l0_1 x12_1).f3.f1))).setCell ⟨gb115, 7, none⟩ (.string ((rd_T62 l0_1 x12_1).f3.f2))).heap[gb115]? = some (.cells #[.string ((rd_T62 l0_1 x12_1).f0), .int .i64 ((rd_T62 l0_1 x12_1).f1.f0), .float .f64 ((rd_T62 l0_1 x12_1).f1.f1), .string ((rd_T62 l0_1 x12_1).f1.f2), .int .i64 ((rd_T62 l0_1 x12_1).f2), .int .i64 ((rd_T62 l0_1 x12_1).f3.f0), .float .f64 ((rd_T62 l0_1 x12_1).f3.f1), .string ((rd_T62 l0_1 x12_1).f3.f2)] 62 (0, 0))) := ⟨by (with_reducible repeat (first | refine blk_drewN ?_ _ | refine blk_drew ?_ | refine blk_alloc ?_ _)); refine blk_put (cs := #[.string ((rd_T62 l0_1 x12_1).f0), .int .i64 ((rd_T62 l0_1 x12_1).f1.f0), .float .f64 ((rd_T62 l0_1 x12_1).f1.f1), .string ((rd_T62 l0_1 x12_1).f1.f2), .int .i64 ((rd_T62 l0_1 x12_1).f2), .int .i64 ((rd_T62 l0_1 x12_1).f3.f0), .float .f64 ((rd_T62 l0_1 x12_1).f3.f1), .string (⟨#[]⟩ : ByteArray)]) ?_ 7 _ rfl; (with_reducible repeat (first | refine blk_drewN ?_ _ | refine blk_drew ?_ | refine blk_alloc ?_ _)); refine blk_put (cs := #[.string ((rd_T62 l0_1 x12_1).f0), .int .i64 ((rd_T62 l0_1 x12_1).f1.f0), .float .f64 ((rd_T62 l0_1 x12_1).f1.f1), .string ((rd_T62 l0_1 x12_1).f1.f2), .int .i64 ((rd_T62 l0_1 x12_1).f2), .int .i64 ((rd_T62 l0_1 x12_1).f3.f0), .float .f64 0, .string (⟨#[]⟩ : ByteArray)]) ?_ 6 _ rfl; (with_reducible repeat (first | refine blk_drewN ?_ _ | refine blk_drew ?_ | refine blk_alloc ?_ _)); refine blk_put (cs := #[.string ((rd_T62 l0_1 x12_1).f0), .int .i64 ((rd_T62 l0_1 x12_1).f1.f0), .float .f64 ((rd_T62 l0_1 x12_1).f1.f1), .string ((rd_T62 l0_1 x12_1).f1.f2), .int .i64 ((rd_T62 l0_1 x12_1).f2), .int .i64 0, .float .f64 0, .string (⟨#[]⟩ : ByteArray)]) ?_ 5 _ rfl; (with_reducible repeat (first | refine blk_drewN ?_ _ | refine blk_drew ?_ | refine blk_alloc ?_ _)); refine blk_put (cs := #[.string ((rd_T62 l0_1 x12_1).f0), .int .i64 ((rd_T62 l0_1 x12_1).f1.f0), .float .f64 ((rd_T62 l0_1 x12_1).f1.f1), .string ((rd_T62 l0_1 x12_1).f1.f2), .int .i64 0, .int .i64 0, .float .f64 0, .string (⟨#[]⟩ : ByteArray)]) ?_ 4 _ rfl; (with_reducible repeat (first | refine blk_drewN ?_ _ | refine blk_drew ?_ | refine blk_alloc ?_ _)); refine blk_put (cs := #[.string ((rd_T62 l0_1 x12_1).f0), .int .i64 ((rd_T62 l0_1 x12_1).f1.f0), .float .f64 ((rd_T62 l0_1 x12_1).f1.f1), .string (⟨#[]⟩ : ByteArray), .int .i64 0, .int .i64 0, .float .f64 0, .string (⟨#[]⟩ : ByteArray)]) ?_ 3 _ rfl; (with_reducible repeat (first | refine blk_drewN ?_ _ | refine blk_drew ?_ | refine blk_alloc ?_ _)); refine blk_put (cs := #[.string ((rd_T62 l0_1 x12_1).f0), .int .i64 ((rd_T62 l0_1 x12_1).f1.f0), .float .f64 0, .string (⟨#[]⟩ : ByteArray), .int .i64 0, .int .i64 0, .float .f64 0, .string (⟨#[]⟩ : ByteArray)]) ?_ 2 _ rfl; (with_reducible repeat (first | refine blk_drewN ?_ _ | refine blk_drew ?_ | refine blk_alloc ?_ _)); refine blk_put (cs := #[.string ((rd_T62 l0_1 x12_1).f0), .int .i64 0, .float .f64 0, .string (⟨#[]⟩ : ByteArray), .int .i64 0, .int .i64 0, .float .f64 0, .string (⟨#[]⟩ : ByteArray)]) ?_ 1 _ rfl; (with_reducible repeat (first | refine blk_drewN ?_ _ | refine blk_drew ?_ | refine blk_alloc ?_ _)); refine blk_put (cs := #[.string (⟨#[]⟩ : ByteArray), .int .i64 0, .float .f64 0, .string (⟨#[]⟩ : ByteArray), .int .i64 0, .int .i64 0, .float .f64 0, .string (⟨#[]⟩ : ByteArray)]) ?_ 0 _ rfl; (with_reducible repeat (first | refine blk_drewN ?_ _ | refine blk_drew ?_ | refine blk_alloc ?_ _)); exact BK115.out⟩
    have n2_ : Aside0 (Below w.heap.size w ((((((((w21.setCell ⟨gb115, 0, none⟩ (.string ((rd_T62 l0_1 x12_1).f0))).setCell ⟨gb115, 1, none⟩ (.int .i64 ((rd_T62 l0_1 x12_1).f1.f0))).setCell ⟨gb115, 2, none⟩ (.float .f64 ((rd_T62 l0_1 x12_1).f1.f1))).setCell ⟨gb115, 3, none⟩ (.string ((rd_T62 l0_1 x12_1).f1.f2))).setCell ⟨gb115, 4, none⟩ (.int .i64 ((rd_T62 l0_1 x12_1).f2))).setCell ⟨gb115, 5, none⟩ (.int .i64 ((rd_T62 l0_1 x12_1).f3.f0))).setCell ⟨gb115, 6, none⟩ (.float .f64 ((rd_T62 l0_1 x12_1).f3.f1))).setCell ⟨gb115, 7, none⟩ (.string ((rd_T62 l0_1 x12_1).f3.f2)))) := ⟨by repeat (first | (with_reducible first | exact HB.out | apply below_alloc | apply pw_below_drewN | apply below_drew1 | refine below_set ?_ GE113.out | refine below_set ?_ GE115.out) | exact HB.out)⟩
    (try clear BK113)
    (try clear BK115)
    (try clear HB)
    generalize ((((((((w21.setCell ⟨gb115, 0, none⟩ (.string ((rd_T62 l0_1 x12_1).f0))).setCell ⟨gb115, 1, none⟩ (.int .i64 ((rd_T62 l0_1 x12_1).f1.f0))).setCell ⟨gb115, 2, none⟩ (.float .f64 ((rd_T62 l0_1 x12_1).f1.f1))).setCell ⟨gb115, 3, none⟩ (.string ((rd_T62 l0_1 x12_1).f1.f2))).setCell ⟨gb115, 4, none⟩ (.int .i64 ((rd_T62 l0_1 x12_1).f2))).setCell ⟨gb115, 5, none⟩ (.int .i64 ((rd_T62 l0_1 x12_1).f3.f0))).setCell ⟨gb115, 6, none⟩ (.float .f64 ((rd_T62 l0_1 x12_1).f3.f1))).setCell ⟨gb115, 7, none⟩ (.string ((rd_T62 l0_1 x12_1).f3.f2))) = w24 at n0_ n1_ n2_ ⊢
    have BK113 := n0_
    have BK115 := n1_
    have HB := n2_
    clear n0_ n1_ n2_
    replace BK113 := Aside0.mk (blk_drew BK113.out)
    replace BK115 := Aside0.mk (blk_drew BK115.out)
    replace HB := Aside0.mk (below_drew1 HB.out)
    have p117 : 0 ≤ ((ji11) : Int) := of_decide_eq_true (by first | (with_reducible assumption) | assumption)
    have q117 : (ji11) < (l0_1.length : Int) := of_decide_eq_true (by first | (with_reducible assumption) | assumption)
    obtain ⟨ad117, e117, hx117_0, hx117_1, hx117_2, hx117_3, hx117_4, hx117_5, hx117_6, hx117_7⟩ := at_T62 HR0_1.out (ji11) p117 q117
    have hw117_7 := hx117_7
    have hw117_6 := hx117_6
    have hw117_5 := hx117_5
    have hw117_4 := hx117_4
    have hw117_3 := hx117_3
    have hw117_2 := hx117_2
    have hw117_1 := hx117_1
    have hw117_0 := hx117_0
    obtain rfl : ad114 = ad117 := (by injection e117)
    replace hx117_0 := (HB.out.cell (World.block_lt_of_cell? w _ hx117_0)).trans hx117_0
    replace hx117_1 := (HB.out.cell (World.block_lt_of_cell? w _ hx117_1)).trans hx117_1
    replace hx117_2 := (HB.out.cell (World.block_lt_of_cell? w _ hx117_2)).trans hx117_2
    replace hx117_3 := (HB.out.cell (World.block_lt_of_cell? w _ hx117_3)).trans hx117_3
    replace hx117_4 := (HB.out.cell (World.block_lt_of_cell? w _ hx117_4)).trans hx117_4
    replace hx117_5 := (HB.out.cell (World.block_lt_of_cell? w _ hx117_5)).trans hx117_5
    replace hx117_6 := (HB.out.cell (World.block_lt_of_cell? w _ hx117_6)).trans hx117_6
    replace hx117_7 := (HB.out.cell (World.block_lt_of_cell? w _ hx117_7)).trans hx117_7
    replace p117 := eq_true p117
    replace q117 := eq_true q117
    refine start_ (n := 24) (S := fun w' => w'.cell? ⟨gb113, 0, none⟩ = some (.bool true) ∧ w'.cell? ⟨gb113, 1, none⟩ = some (.slice (some ad114) l0_1.length c0_1) ∧ w'.cell? ⟨gb113, 2, none⟩ = some (.slice A0_2 l0_2.length c0_2) ∧ w'.cell? ⟨gb113, 3, none⟩ = some (.slice A0_3 l0_3.length c0_3) ∧ w'.cell? ⟨gb115, 0, none⟩ = some (.string ((rd_T62 l0_1 x12_1).f0)) ∧ w'.cell? ⟨gb115, 1, none⟩ = some (.int .i64 ((rd_T62 l0_1 x12_1).f1.f0)) ∧ w'.cell? ⟨gb115, 2, none⟩ = some (.float .f64 ((rd_T62 l0_1 x12_1).f1.f1)) ∧ w'.cell? ⟨gb115, 3, none⟩ = some (.string ((rd_T62 l0_1 x12_1).f1.f2)) ∧ w'.cell? ⟨gb115, 4, none⟩ = some (.int .i64 ((rd_T62 l0_1 x12_1).f2)) ∧ w'.cell? ⟨gb115, 5, none⟩ = some (.int .i64 ((rd_T62 l0_1 x12_1).f3.f0)) ∧ w'.cell? ⟨gb115, 6, none⟩ = some (.float .f64 ((rd_T62 l0_1 x12_1).f3.f1)) ∧ w'.cell? ⟨gb115, 7, none⟩ = some (.string ((rd_T62 l0_1 x12_1).f3.f2)) ∧ w'.cell? (ad114.add (((ji11)).toNat * 8)) = some (.string ((rd_T62 l0_1 (ji11)).f0)) ∧ w'.cell? ⟨(ad114.add (((ji11)).toNat * 8)).block, (ad114.add (((ji11)).toNat * 8)).off + 1, none⟩ = some (.int .i64 ((rd_T62 l0_1 (ji11)).f1.f0)) ∧ w'.cell? ⟨(ad114.add (((ji11)).toNat * 8)).block, (ad114.add (((ji11)).toNat * 8)).off + 2, none⟩ = some (.float .f64 ((rd_T62 l0_1 (ji11)).f1.f1)) ∧ w'.cell? ⟨(ad114.add (((ji11)).toNat * 8)).block, (ad114.add (((ji11)).toNat * 8)).off + 3, none⟩ = some (.string ((rd_T62 l0_1 (ji11)).f1.f2)) ∧ w'.cell? ⟨(ad114.add (((ji11)).toNat * 8)).block, (ad114.add (((ji11)).toNat * 8)).off + 4, none⟩ = some (.int .i64 ((rd_T62 l0_1 (ji11)).f2)) ∧ w'.cell? ⟨(ad114.add (((ji11)).toNat * 8)).block, (ad114.add (((ji11)).toNat * 8)).off + 5, none⟩ = some (.int .i64 ((rd_T62 l0_1 (ji11)).f3.f0)) ∧ w'.cell? ⟨(ad114.add (((ji11)).toNat * 8)).block, (ad114.add (((ji11)).toNat * 8)).off + 6, none⟩ = some (.float .f64 ((rd_T62 l0_1 (ji11)).f3.f1)) ∧ w'.cell? ⟨(ad114.add (((ji11)).toNat * 8)).block, (ad114.add (((ji11)).toNat * 8)).off + 7, none⟩ = some (.string ((rd_T62 l0_1 (ji11)).f3.f2))) (ds := []) #[false,false,false,false,false,false,false,false,false,false,false,false,false,false,false,false,false,false,false,false,false,false,false,false] (by kernel_rfl) rfl rfl (bn4 BK113 (bn8 BK115 ⟨((HB.out.cell (World.block_lt_of_cell? w _ hw117_0)).trans hw117_0), ((HB.out.cell (World.block_lt_of_cell? w _ hw117_1)).trans hw117_1), ((HB.out.cell (World.block_lt_of_cell? w _ hw117_2)).trans hw117_2), ((HB.out.cell (World.block_lt_of_cell? w _ hw117_3)).trans hw117_3), ((HB.out.cell (World.block_lt_of_cell? w _ hw117_4)).trans hw117_4), ((HB.out.cell (World.block_lt_of_cell? w _ hw117_5)).trans hw117_5), ((HB.out.cell (World.block_lt_of_cell? w _ hw117_6)).trans hw117_6), ((HB.out.cell (World.block_lt_of_cell? w _ hw117_7)).trans hw117_7)⟩)) (fun hHeld => ?_); refine with_tabW node_May.tab4 node_May.bits4 (fun HT_ HW_ => ?_)
    generalize w24.drew = w25 at BK113 BK115 HB hx117_0 hx117_1 hx117_2 hx117_3 hx117_4 hx117_5 hx117_6 hx117_7 hHeld ⊢
    refine pA 0 17 HT_ ?_
    refine tA 1 18 HT_ HW_ hHeld ?_ (hy := by rintro w' ⟨s0, s1, s2, s3, s4, s5, s6, s7, s8, s9, s10, s11, s12, s13, s14, s15, s16, s17, s18, s19⟩; go_simp; with_reducible rfl)
    refine pA 2 19 HT_ ?_
    refine pA 3 20 HT_ ?_
    refine tA 4 21 HT_ HW_ hHeld ?_ (hy := by rintro w' ⟨s0, s1, s2, s3, s4, s5, s6, s7, s8, s9, s10, s11, s12, s13, s14, s15, s16, s17, s18, s19⟩; go_simp; with_reducible rfl)
    refine oA 5 (some 22) HT_ (fun K hK => ?_)
    refine goes_ Try.func33 (by kernel_rfl) rfl #[.agg #[.string ((rd_T62 l0_1 x12_1).f0), .int .i64 ((rd_T62 l0_1 x12_1).f1.f0), .float .f64 ((rd_T62 l0_1 x12_1).f1.f1), .string ((rd_T62 l0_1 x12_1).f1.f2), .int .i64 ((rd_T62 l0_1 x12_1).f2), .int .i64 ((rd_T62 l0_1 x12_1).f3.f0), .float .f64 ((rd_T62 l0_1 x12_1).f3.f1), .string ((rd_T62 l0_1 x12_1).f3.f2)]] (by rfl) rfl rfl (by (try simp only [List.map_toArray, List.map_cons, List.map_nil]); first | done | rfl | (simp only [List.length_drop, List.length_take]; rfl)) ?_
    with_reducible refine (cell_May.calls k1 ((rd_T62 l0_1 x12_1).f0) ((rd_T62 l0_1 x12_1).f1.f0) ((rd_T62 l0_1 x12_1).f1.f1) ((rd_T62 l0_1 x12_1).f1.f2) ((rd_T62 l0_1 x12_1).f2) ((rd_T62 l0_1 x12_1).f3.f0) ((rd_T62 l0_1 x12_1).f3.f1) ((rd_T62 l0_1 x12_1).f3.f2) true _ A8.out).mono ?_
    rintro e w26 ⟨rfl, hb⟩
    refine ⟨_, rfl, ?_⟩
    replace BK113 := bB BK113 hb
    replace BK115 := bB BK115 hb
    replace HB := bW HB hb
    (try clear hb)
    (try clear hb2)
    (try clear hk)
    (try clear hi)
    refine hK.out _ _ (bn4 BK113 (bn8 BK115 ⟨((HB.out.cell (World.block_lt_of_cell? w _ hw117_0)).trans hw117_0), ((HB.out.cell (World.block_lt_of_cell? w _ hw117_1)).trans hw117_1), ((HB.out.cell (World.block_lt_of_cell? w _ hw117_2)).trans hw117_2), ((HB.out.cell (World.block_lt_of_cell? w _ hw117_3)).trans hw117_3), ((HB.out.cell (World.block_lt_of_cell? w _ hw117_4)).trans hw117_4), ((HB.out.cell (World.block_lt_of_cell? w _ hw117_5)).trans hw117_5), ((HB.out.cell (World.block_lt_of_cell? w _ hw117_6)).trans hw117_6), ((HB.out.cell (World.block_lt_of_cell? w _ hw117_7)).trans hw117_7)⟩)) (fun hHeld => ?_)
    clear hK K
    refine norm_ (a' := ?_) ?_ ?_
    rotate_left
    ·show Act.put _ (some 22) _ = _
     simp only [Act.put, List.setIfInBounds_toArray, List.set_cons_zero, List.set_cons_succ, i64_w, i32_w]
     rfl
    refine pA 6 23 HT_ ?_
    refine pA 7 24 HT_ ?_
    refine pA 8 25 HT_ ?_
    refine pA 9 26 HT_ ?_
    refine pA 10 27 HT_ ?_
    refine pA 11 28 HT_ ?_
    refine pA 12 29 HT_ ?_
    refine pA 14 31 HT_ ?_
    refine pA 15 32 HT_ ?_
    refine pA 19 36 HT_ ?_
    refine tA 13 30 HT_ HW_ hHeld ?_ (hy := by rintro w' ⟨s0, s1, s2, s3, s4, s5, s6, s7, s8, s9, s10, s11, s12, s13, s14, s15, s16, s17, s18, s19⟩; go_simp; with_reducible rfl)
    refine pA 16 33 HT_ ?_
    refine pA 17 34 HT_ ?_
    refine tA 18 35 HT_ HW_ hHeld ?_ (hy := by rintro w' ⟨s0, s1, s2, s3, s4, s5, s6, s7, s8, s9, s10, s11, s12, s13, s14, s15, s16, s17, s18, s19⟩; go_simp; with_reducible rfl)
    refine tA 20 37 HT_ HW_ hHeld ?_ (hy := by rintro w' ⟨s0, s1, s2, s3, s4, s5, s6, s7, s8, s9, s10, s11, s12, s13, s14, s15, s16, s17, s18, s19⟩; go_simp; with_reducible rfl)
    refine pA 21 38 HT_ ?_
    refine pA 22 39 HT_ ?_
    refine pA 23 40 HT_ ?_
    refine done_ (done_of HT_.out (by kernel_rfl)) ?_
    try go_wp2
    go_ret
    exact ⟨by first | rfl | (simp [errW_none, errW_some] <;> rfl) | (simp only [← hji11]; first | rfl | (simp [errW_none, errW_some] <;> rfl)) | (simp [*, errW_none, errW_some] <;> rfl), by repeat (first | (with_reducible first | exact HB.out | apply below_alloc | apply pw_below_drewN | apply below_drew1 | refine below_set ?_ GE113.out | refine below_set ?_ GE115.out) | exact HB.out)⟩
   rw [if_pos c14] at H
   have c14b0 : (Op.bytesLess (((rd_T62 l0_1 (ji11)).f0).toList) (((rd_T62 l0_1 x12_1).f0).toList)) = true := c14
   clear c14
   have H' := Aside0.mk H
   clear H
   have p114 : 0 ≤ (x12_1 : Int) := of_decide_eq_true (by first | (with_reducible assumption) | assumption)
   have q114 : x12_1 < (l0_1.length : Int) := of_decide_eq_true (by first | (with_reducible assumption) | assumption)
   obtain ⟨ad114, e114, hx114_0, hx114_1, hx114_2, hx114_3, hx114_4, hx114_5, hx114_6, hx114_7⟩ := at_T62 HR0_1.out x12_1 p114 q114
   cases e114
   replace hx114_0 := (HB.out.cell (World.block_lt_of_cell? w _ hx114_0)).trans hx114_0
   replace hx114_1 := (HB.out.cell (World.block_lt_of_cell? w _ hx114_1)).trans hx114_1
   replace hx114_2 := (HB.out.cell (World.block_lt_of_cell? w _ hx114_2)).trans hx114_2
   replace hx114_3 := (HB.out.cell (World.block_lt_of_cell? w _ hx114_3)).trans hx114_3
   replace hx114_4 := (HB.out.cell (World.block_lt_of_cell? w _ hx114_4)).trans hx114_4
   replace hx114_5 := (HB.out.cell (World.block_lt_of_cell? w _ hx114_5)).trans hx114_5
   replace hx114_6 := (HB.out.cell (World.block_lt_of_cell? w _ hx114_6)).trans hx114_6
   replace hx114_7 := (HB.out.cell (World.block_lt_of_cell? w _ hx114_7)).trans hx114_7
   replace p114 := eq_true p114
   replace q114 := eq_true q114
   try go_wp2_with (first | ((with_reducible refine gate_dst (N := 4) rfl ?_); (try (refine gate_guard (by rfl) ?_; dsimp only)); refine box_event ?hg (N := 4) ?hd (cs := #[.string (⟨#[]⟩ : ByteArray), .int .i64 0, .float .f64 0, .string (⟨#[]⟩ : ByteArray), .int .i64 0, .int .i64 0, .float .f64 0, .string (⟨#[]⟩ : ByteArray)]) (t := 62) ?hr ?_; (case hd => rfl); (case hg => rfl); (case hr => first | (go_simp; done) | (go_simp; rfl)); intro gb115 hg w15 hbox hb; have BK115 := Aside0.mk (hbox); have GW115 := bZ HB hg; have GE115 := bZ HB hg; have NB113_115 := bL BK113 hg; have NB115_113 := bG BK113 hg; replace BK113 := bB BK113 hb; replace HB := bW HB hb; clear hb hbox hg; have hnb16 := NB115_113.out; have hnc16 := NB113_115.out; obtain ⟨hcz17_0, hcz17_1, hcz17_2, hcz17_3, hcz17_4, hcz17_5, hcz17_6, hcz17_7, hfz17_0, hfz17_1, hfz17_2, hfz17_3, hfz17_4, hfz17_5, hfz17_6, hfz17_7⟩ := bf8 (w := w15) BK115))
   have n0_ : Aside0 (((((((((w15.setCell ⟨gb115, 0, none⟩ (.string ((rd_T62 l0_1 x12_1).f0))).setCell ⟨gb115, 1, none⟩ (.int .i64 ((rd_T62 l0_1 x12_1).f1.f0))).setCell ⟨gb115, 2, none⟩ (.float .f64 ((rd_T62 l0_1 x12_1).f1.f1))).setCell ⟨gb115, 3, none⟩ (.string ((rd_T62 l0_1 x12_1).f1.f2))).setCell ⟨gb115, 4, none⟩ (.int .i64 ((rd_T62 l0_1 x12_1).f2))).setCell ⟨gb115, 5, none⟩ (.int .i64 ((rd_T62 l0_1 x12_1).f3.f0))).setCell ⟨gb115, 6, none⟩ (.float .f64 ((rd_T62 l0_1 x12_1).f3.f1))).setCell ⟨gb115, 7, none⟩ (.string ((rd_T62 l0_1 x12_1).f3.f2))).heap[gb113]? = some (.cells #[.bool true, .slice (some ad114) l0_1.length c0_1, .slice A0_2 l0_2.length c0_2, .slice A0_3 l0_3.length c0_3] 36 (0, 0))) := bS BK113
   have n1_ : Aside0 (((((((((w15.setCell ⟨gb115, 0, none⟩ (.string ((rd_T62 l0_1 x12_1).f0))).setCell ⟨gb115, 1, none⟩ (.int .i64 ((rd_T62 l0_1 x12_1).f1.f0))).setCell ⟨gb115, 2, none⟩ (.float .f64 ((rd_T62 l0_1 x12_1).f1.f1))).setCell ⟨gb115, 3, none⟩ (.string ((rd_T62 l0_1 x12_1).f1.f2))).setCell ⟨gb115, 4, none⟩ (.int .i64 ((rd_T62 l0_1 x12_1).f2))).setCell ⟨gb115, 5, none⟩ (.int .i64 ((rd_T62 l0_1 x12_1).f3.f0))).setCell ⟨gb115, 6, none⟩ (.float .f64 ((rd_T62 l0_1 x12_1).f3.f1))).setCell ⟨gb115, 7, none⟩ (.string ((rd_T62 l0_1 x12_1).f3.f2))).heap[gb115]? = some (.cells #[.string ((rd_T62 l0_1 x12_1).f0), .int .i64 ((rd_T62 l0_1 x12_1).f1.f0), .float .f64 ((rd_T62 l0_1 x12_1).f1.f1), .string ((rd_T62 l0_1 x12_1).f1.f2), .int .i64 ((rd_T62 l0_1 x12_1).f2), .int .i64 ((rd_T62 l0_1 x12_1).f3.f0), .float .f64 ((rd_T62 l0_1 x12_1).f3.f1), .string ((rd_T62 l0_1 x12_1).f3.f2)] 62 (0, 0))) := ⟨by (with_reducible repeat (first | refine blk_drewN ?_ _ | refine blk_drew ?_ | refine blk_alloc ?_ _)); refine blk_put (cs := #[.string ((rd_T62 l0_1 x12_1).f0), .int .i64 ((rd_T62 l0_1 x12_1).f1.f0), .float .f64 ((rd_T62 l0_1 x12_1).f1.f1), .string ((rd_T62 l0_1 x12_1).f1.f2), .int .i64 ((rd_T62 l0_1 x12_1).f2), .int .i64 ((rd_T62 l0_1 x12_1).f3.f0), .float .f64 ((rd_T62 l0_1 x12_1).f3.f1), .string (⟨#[]⟩ : ByteArray)]) ?_ 7 _ rfl; (with_reducible repeat (first | refine blk_drewN ?_ _ | refine blk_drew ?_ | refine blk_alloc ?_ _)); refine blk_put (cs := #[.string ((rd_T62 l0_1 x12_1).f0), .int .i64 ((rd_T62 l0_1 x12_1).f1.f0), .float .f64 ((rd_T62 l0_1 x12_1).f1.f1), .string ((rd_T62 l0_1 x12_1).f1.f2), .int .i64 ((rd_T62 l0_1 x12_1).f2), .int .i64 ((rd_T62 l0_1 x12_1).f3.f0), .float .f64 0, .string (⟨#[]⟩ : ByteArray)]) ?_ 6 _ rfl; (with_reducible repeat (first | refine blk_drewN ?_ _ | refine blk_drew ?_ | refine blk_alloc ?_ _)); refine blk_put (cs := #[.string ((rd_T62 l0_1 x12_1).f0), .int .i64 ((rd_T62 l0_1 x12_1).f1.f0), .float .f64 ((rd_T62 l0_1 x12_1).f1.f1), .string ((rd_T62 l0_1 x12_1).f1.f2), .int .i64 ((rd_T62 l0_1 x12_1).f2), .int .i64 0, .float .f64 0, .string (⟨#[]⟩ : ByteArray)]) ?_ 5 _ rfl; (with_reducible repeat (first | refine blk_drewN ?_ _ | refine blk_drew ?_ | refine blk_alloc ?_ _)); refine blk_put (cs := #[.string ((rd_T62 l0_1 x12_1).f0), .int .i64 ((rd_T62 l0_1 x12_1).f1.f0), .float .f64 ((rd_T62 l0_1 x12_1).f1.f1), .string ((rd_T62 l0_1 x12_1).f1.f2), .int .i64 0, .int .i64 0, .float .f64 0, .string (⟨#[]⟩ : ByteArray)]) ?_ 4 _ rfl; (with_reducible repeat (first | refine blk_drewN ?_ _ | refine blk_drew ?_ | refine blk_alloc ?_ _)); refine blk_put (cs := #[.string ((rd_T62 l0_1 x12_1).f0), .int .i64 ((rd_T62 l0_1 x12_1).f1.f0), .float .f64 ((rd_T62 l0_1 x12_1).f1.f1), .string (⟨#[]⟩ : ByteArray), .int .i64 0, .int .i64 0, .float .f64 0, .string (⟨#[]⟩ : ByteArray)]) ?_ 3 _ rfl; (with_reducible repeat (first | refine blk_drewN ?_ _ | refine blk_drew ?_ | refine blk_alloc ?_ _)); refine blk_put (cs := #[.string ((rd_T62 l0_1 x12_1).f0), .int .i64 ((rd_T62 l0_1 x12_1).f1.f0), .float .f64 0, .string (⟨#[]⟩ : ByteArray), .int .i64 0, .int .i64 0, .float .f64 0, .string (⟨#[]⟩ : ByteArray)]) ?_ 2 _ rfl; (with_reducible repeat (first | refine blk_drewN ?_ _ | refine blk_drew ?_ | refine blk_alloc ?_ _)); refine blk_put (cs := #[.string ((rd_T62 l0_1 x12_1).f0), .int .i64 0, .float .f64 0, .string (⟨#[]⟩ : ByteArray), .int .i64 0, .int .i64 0, .float .f64 0, .string (⟨#[]⟩ : ByteArray)]) ?_ 1 _ rfl; (with_reducible repeat (first | refine blk_drewN ?_ _ | refine blk_drew ?_ | refine blk_alloc ?_ _)); refine blk_put (cs := #[.string (⟨#[]⟩ : ByteArray), .int .i64 0, .float .f64 0, .string (⟨#[]⟩ : ByteArray), .int .i64 0, .int .i64 0, .float .f64 0, .string (⟨#[]⟩ : ByteArray)]) ?_ 0 _ rfl; (with_reducible repeat (first | refine blk_drewN ?_ _ | refine blk_drew ?_ | refine blk_alloc ?_ _)); exact BK115.out⟩
   have n2_ : Aside0 (Below w.heap.size w ((((((((w15.setCell ⟨gb115, 0, none⟩ (.string ((rd_T62 l0_1 x12_1).f0))).setCell ⟨gb115, 1, none⟩ (.int .i64 ((rd_T62 l0_1 x12_1).f1.f0))).setCell ⟨gb115, 2, none⟩ (.float .f64 ((rd_T62 l0_1 x12_1).f1.f1))).setCell ⟨gb115, 3, none⟩ (.string ((rd_T62 l0_1 x12_1).f1.f2))).setCell ⟨gb115, 4, none⟩ (.int .i64 ((rd_T62 l0_1 x12_1).f2))).setCell ⟨gb115, 5, none⟩ (.int .i64 ((rd_T62 l0_1 x12_1).f3.f0))).setCell ⟨gb115, 6, none⟩ (.float .f64 ((rd_T62 l0_1 x12_1).f3.f1))).setCell ⟨gb115, 7, none⟩ (.string ((rd_T62 l0_1 x12_1).f3.f2)))) := ⟨by repeat (first | (with_reducible first | exact HB.out | apply below_alloc | apply pw_below_drewN | apply below_drew1 | refine below_set ?_ GE113.out | refine below_set ?_ GE115.out) | exact HB.out)⟩
   (try clear BK113)
   (try clear BK115)
   (try clear HB)
   generalize ((((((((w15.setCell ⟨gb115, 0, none⟩ (.string ((rd_T62 l0_1 x12_1).f0))).setCell ⟨gb115, 1, none⟩ (.int .i64 ((rd_T62 l0_1 x12_1).f1.f0))).setCell ⟨gb115, 2, none⟩ (.float .f64 ((rd_T62 l0_1 x12_1).f1.f1))).setCell ⟨gb115, 3, none⟩ (.string ((rd_T62 l0_1 x12_1).f1.f2))).setCell ⟨gb115, 4, none⟩ (.int .i64 ((rd_T62 l0_1 x12_1).f2))).setCell ⟨gb115, 5, none⟩ (.int .i64 ((rd_T62 l0_1 x12_1).f3.f0))).setCell ⟨gb115, 6, none⟩ (.float .f64 ((rd_T62 l0_1 x12_1).f3.f1))).setCell ⟨gb115, 7, none⟩ (.string ((rd_T62 l0_1 x12_1).f3.f2))) = w18 at n0_ n1_ n2_ ⊢
   have BK113 := n0_
   have BK115 := n1_
   have HB := n2_
   clear n0_ n1_ n2_
   replace BK113 := Aside0.mk (blk_drew BK113.out)
   replace BK115 := Aside0.mk (blk_drew BK115.out)
   replace HB := Aside0.mk (below_drew1 HB.out)
   have p117 : 0 ≤ ((ji11) : Int) := of_decide_eq_true (by first | (with_reducible assumption) | assumption)
   have q117 : (ji11) < (l0_1.length : Int) := of_decide_eq_true (by first | (with_reducible assumption) | assumption)
   obtain ⟨ad117, e117, hx117_0, hx117_1, hx117_2, hx117_3, hx117_4, hx117_5, hx117_6, hx117_7⟩ := at_T62 HR0_1.out (ji11) p117 q117
   have hw117_7 := hx117_7
   have hw117_6 := hx117_6
   have hw117_5 := hx117_5
   have hw117_4 := hx117_4
   have hw117_3 := hx117_3
   have hw117_2 := hx117_2
   have hw117_1 := hx117_1
   have hw117_0 := hx117_0
   obtain rfl : ad114 = ad117 := (by injection e117)
   replace hx117_0 := (HB.out.cell (World.block_lt_of_cell? w _ hx117_0)).trans hx117_0
   replace hx117_1 := (HB.out.cell (World.block_lt_of_cell? w _ hx117_1)).trans hx117_1
   replace hx117_2 := (HB.out.cell (World.block_lt_of_cell? w _ hx117_2)).trans hx117_2
   replace hx117_3 := (HB.out.cell (World.block_lt_of_cell? w _ hx117_3)).trans hx117_3
   replace hx117_4 := (HB.out.cell (World.block_lt_of_cell? w _ hx117_4)).trans hx117_4
   replace hx117_5 := (HB.out.cell (World.block_lt_of_cell? w _ hx117_5)).trans hx117_5
   replace hx117_6 := (HB.out.cell (World.block_lt_of_cell? w _ hx117_6)).trans hx117_6
   replace hx117_7 := (HB.out.cell (World.block_lt_of_cell? w _ hx117_7)).trans hx117_7
   replace p117 := eq_true p117
   replace q117 := eq_true q117
   refine start_ (n := 24) (S := fun w' => w'.cell? ⟨gb113, 0, none⟩ = some (.bool true) ∧ w'.cell? ⟨gb113, 1, none⟩ = some (.slice (some ad114) l0_1.length c0_1) ∧ w'.cell? ⟨gb113, 2, none⟩ = some (.slice A0_2 l0_2.length c0_2) ∧ w'.cell? ⟨gb113, 3, none⟩ = some (.slice A0_3 l0_3.length c0_3) ∧ w'.cell? ⟨gb115, 0, none⟩ = some (.string ((rd_T62 l0_1 x12_1).f0)) ∧ w'.cell? ⟨gb115, 1, none⟩ = some (.int .i64 ((rd_T62 l0_1 x12_1).f1.f0)) ∧ w'.cell? ⟨gb115, 2, none⟩ = some (.float .f64 ((rd_T62 l0_1 x12_1).f1.f1)) ∧ w'.cell? ⟨gb115, 3, none⟩ = some (.string ((rd_T62 l0_1 x12_1).f1.f2)) ∧ w'.cell? ⟨gb115, 4, none⟩ = some (.int .i64 ((rd_T62 l0_1 x12_1).f2)) ∧ w'.cell? ⟨gb115, 5, none⟩ = some (.int .i64 ((rd_T62 l0_1 x12_1).f3.f0)) ∧ w'.cell? ⟨gb115, 6, none⟩ = some (.float .f64 ((rd_T62 l0_1 x12_1).f3.f1)) ∧ w'.cell? ⟨gb115, 7, none⟩ = some (.string ((rd_T62 l0_1 x12_1).f3.f2)) ∧ w'.cell? (ad114.add (((ji11)).toNat * 8)) = some (.string ((rd_T62 l0_1 (ji11)).f0)) ∧ w'.cell? ⟨(ad114.add (((ji11)).toNat * 8)).block, (ad114.add (((ji11)).toNat * 8)).off + 1, none⟩ = some (.int .i64 ((rd_T62 l0_1 (ji11)).f1.f0)) ∧ w'.cell? ⟨(ad114.add (((ji11)).toNat * 8)).block, (ad114.add (((ji11)).toNat * 8)).off + 2, none⟩ = some (.float .f64 ((rd_T62 l0_1 (ji11)).f1.f1)) ∧ w'.cell? ⟨(ad114.add (((ji11)).toNat * 8)).block, (ad114.add (((ji11)).toNat * 8)).off + 3, none⟩ = some (.string ((rd_T62 l0_1 (ji11)).f1.f2)) ∧ w'.cell? ⟨(ad114.add (((ji11)).toNat * 8)).block, (ad114.add (((ji11)).toNat * 8)).off + 4, none⟩ = some (.int .i64 ((rd_T62 l0_1 (ji11)).f2)) ∧ w'.cell? ⟨(ad114.add (((ji11)).toNat * 8)).block, (ad114.add (((ji11)).toNat * 8)).off + 5, none⟩ = some (.int .i64 ((rd_T62 l0_1 (ji11)).f3.f0)) ∧ w'.cell? ⟨(ad114.add (((ji11)).toNat * 8)).block, (ad114.add (((ji11)).toNat * 8)).off + 6, none⟩ = some (.float .f64 ((rd_T62 l0_1 (ji11)).f3.f1)) ∧ w'.cell? ⟨(ad114.add (((ji11)).toNat * 8)).block, (ad114.add (((ji11)).toNat * 8)).off + 7, none⟩ = some (.string ((rd_T62 l0_1 (ji11)).f3.f2))) (ds := []) #[false,false,false,false,false,false,false,false,false,false,false,false,false,false,false,false,false,false,false,false,false,false,false,false] (by kernel_rfl) rfl rfl (bn4 BK113 (bn8 BK115 ⟨((HB.out.cell (World.block_lt_of_cell? w _ hw117_0)).trans hw117_0), ((HB.out.cell (World.block_lt_of_cell? w _ hw117_1)).trans hw117_1), ((HB.out.cell (World.block_lt_of_cell? w _ hw117_2)).trans hw117_2), ((HB.out.cell (World.block_lt_of_cell? w _ hw117_3)).trans hw117_3), ((HB.out.cell (World.block_lt_of_cell? w _ hw117_4)).trans hw117_4), ((HB.out.cell (World.block_lt_of_cell? w _ hw117_5)).trans hw117_5), ((HB.out.cell (World.block_lt_of_cell? w _ hw117_6)).trans hw117_6), ((HB.out.cell (World.block_lt_of_cell? w _ hw117_7)).trans hw117_7)⟩)) (fun hHeld => ?_); refine with_tabW node_May.tab4 node_May.bits4 (fun HT_ HW_ => ?_)
   generalize w18.drew = w19 at BK113 BK115 HB hx117_0 hx117_1 hx117_2 hx117_3 hx117_4 hx117_5 hx117_6 hx117_7 hHeld ⊢
   refine pA 0 17 HT_ ?_
   refine tA 1 18 HT_ HW_ hHeld ?_ (hy := by rintro w' ⟨s0, s1, s2, s3, s4, s5, s6, s7, s8, s9, s10, s11, s12, s13, s14, s15, s16, s17, s18, s19⟩; go_simp; with_reducible rfl)
   refine pA 2 19 HT_ ?_
   refine pA 3 20 HT_ ?_
   refine tA 4 21 HT_ HW_ hHeld ?_ (hy := by rintro w' ⟨s0, s1, s2, s3, s4, s5, s6, s7, s8, s9, s10, s11, s12, s13, s14, s15, s16, s17, s18, s19⟩; go_simp; with_reducible rfl)
   refine oA 5 (some 22) HT_ (fun K hK => ?_)
   refine goes_ Try.func33 (by kernel_rfl) rfl #[.agg #[.string ((rd_T62 l0_1 x12_1).f0), .int .i64 ((rd_T62 l0_1 x12_1).f1.f0), .float .f64 ((rd_T62 l0_1 x12_1).f1.f1), .string ((rd_T62 l0_1 x12_1).f1.f2), .int .i64 ((rd_T62 l0_1 x12_1).f2), .int .i64 ((rd_T62 l0_1 x12_1).f3.f0), .float .f64 ((rd_T62 l0_1 x12_1).f3.f1), .string ((rd_T62 l0_1 x12_1).f3.f2)]] (by rfl) rfl rfl (by (try simp only [List.map_toArray, List.map_cons, List.map_nil]); first | done | rfl | (simp only [List.length_drop, List.length_take]; rfl)) ?_
   with_reducible refine (cell_May.calls k1 ((rd_T62 l0_1 x12_1).f0) ((rd_T62 l0_1 x12_1).f1.f0) ((rd_T62 l0_1 x12_1).f1.f1) ((rd_T62 l0_1 x12_1).f1.f2) ((rd_T62 l0_1 x12_1).f2) ((rd_T62 l0_1 x12_1).f3.f0) ((rd_T62 l0_1 x12_1).f3.f1) ((rd_T62 l0_1 x12_1).f3.f2) true _ A8.out).mono ?_
   rintro e w20 ⟨rfl, hb⟩
   refine ⟨_, rfl, ?_⟩
   replace BK113 := bB BK113 hb
   replace BK115 := bB BK115 hb
   replace HB := bW HB hb
   (try clear hb)
   (try clear hb2)
   (try clear hk)
   (try clear hi)
   refine hK.out _ _ (bn4 BK113 (bn8 BK115 ⟨((HB.out.cell (World.block_lt_of_cell? w _ hw117_0)).trans hw117_0), ((HB.out.cell (World.block_lt_of_cell? w _ hw117_1)).trans hw117_1), ((HB.out.cell (World.block_lt_of_cell? w _ hw117_2)).trans hw117_2), ((HB.out.cell (World.block_lt_of_cell? w _ hw117_3)).trans hw117_3), ((HB.out.cell (World.block_lt_of_cell? w _ hw117_4)).trans hw117_4), ((HB.out.cell (World.block_lt_of_cell? w _ hw117_5)).trans hw117_5), ((HB.out.cell (World.block_lt_of_cell? w _ hw117_6)).trans hw117_6), ((HB.out.cell (World.block_lt_of_cell? w _ hw117_7)).trans hw117_7)⟩)) (fun hHeld => ?_)
   clear hK K
   refine norm_ (a' := ?_) ?_ ?_
   rotate_left
   ·show Act.put _ (some 22) _ = _
    simp only [Act.put, List.setIfInBounds_toArray, List.set_cons_zero, List.set_cons_succ, i64_w, i32_w]
    rfl
   refine pA 6 23 HT_ ?_
   refine pA 7 24 HT_ ?_
   refine pA 8 25 HT_ ?_
   refine pA 9 26 HT_ ?_
   refine pA 10 27 HT_ ?_
   refine pA 11 28 HT_ ?_
   refine pA 12 29 HT_ ?_
   refine pA 14 31 HT_ ?_
   refine pA 15 32 HT_ ?_
   refine pA 19 36 HT_ ?_
   refine tA 13 30 HT_ HW_ hHeld ?_ (hy := by rintro w' ⟨s0, s1, s2, s3, s4, s5, s6, s7, s8, s9, s10, s11, s12, s13, s14, s15, s16, s17, s18, s19⟩; go_simp; with_reducible rfl)
   refine pA 16 33 HT_ ?_
   refine pA 17 34 HT_ ?_
   refine tA 18 35 HT_ HW_ hHeld ?_ (hy := by rintro w' ⟨s0, s1, s2, s3, s4, s5, s6, s7, s8, s9, s10, s11, s12, s13, s14, s15, s16, s17, s18, s19⟩; go_simp; with_reducible rfl)
   refine tA 20 37 HT_ HW_ hHeld ?_ (hy := by rintro w' ⟨s0, s1, s2, s3, s4, s5, s6, s7, s8, s9, s10, s11, s12, s13, s14, s15, s16, s17, s18, s19⟩; go_simp; with_reducible rfl)
   refine pA 21 38 HT_ ?_
   refine pA 22 39 HT_ ?_
   refine pA 23 40 HT_ ?_
   refine done_ (done_of HT_.out (by kernel_rfl)) ?_
   try go_wp2
   go_roundg k1
   case measure => have := HK1.out; omega
   case rel => exact ⟨(wrap64 (x12_1 + 1)), (by first | rfl | (simp; done) | (simp [*]; done)), H', ⟨by have := HK1.out; omega⟩, ⟨by (with_reducible repeat (first | refine blk_drewN ?_ _ | refine blk_drew ?_ | refine blk_alloc ?_ _)); exact BK113.out⟩, ⟨by repeat (first | (with_reducible first | exact HB.out | apply below_alloc | apply pw_below_drewN | apply below_drew1 | refine below_set ?_ GE113.out | refine below_set ?_ GE115.out) | exact HB.out)⟩⟩
end Go.Proofs.Ytmmjpieafbjggaa.P
end
section
namespace Go.Proofs.Ytmmjpieafbjggaa.P
open Go.RowKit Go.Proofs.YtmmjpieafbjggaaW.PrintWords Go.Proofs.YtmmjpieafbjggaaW.PrintLast Go.Proofs.YtmmjpieafbjggaaW.PrintMore
attribute [local go_sem] max2_int min2_int max_two min_two max_three min_three max_four min_four   -- for this text's walks alone
attribute [local go_sem] x_str_gtr x_str_leq x_str_geq ext_bits ext_frombits ext_neg x_store_float Instr.field asAgg
set_option linter.unusedVariables false
set_option linter.unusedSimpArgs false
mutual
def num_Put.j0 : Nat → List Int → Int → Option (List Int)
 | 0, _, _ => none
 | k + 1, x0, x5 => num_Put.l0 k x0 x5
def num_Put.l0 : Nat → List Int → Int → Option (List Int)
 | 0, _, _ => none
 | k + 1, x0, x5 => if x5 > 127 then (if x0.length < 140737488355328 then (num_Put.l0 k (x0 ++ [Go.bits .or .u8 ((x5) % 256) 128]) (x5 / 128)) else (none)) else (if x0.length < 140737488355328 then (some (x0 ++ [(x5) % 256])) else (none))
end
def num_Put.f (k : Nat) (l0 : List Int) (a1 : Int) : Option (List Int) := if a1 < 0 then (num_Put.j0 k l0 (Go.bits .xor .u64 18446744073709551615 (IntKind.u64.wrap ((IntKind.u64.wrap (a1)) * 2)))) else (num_Put.j0 k l0 (IntKind.u64.wrap ((IntKind.u64.wrap (a1)) * 2)))
theorem num_Put.mono_l : ∀ k, (∀ y0 y1, LeO (num_Put.j0 k y0 y1) (num_Put.j0 (k + 1) y0 y1)) ∧ (∀ y0 y1, LeO (num_Put.l0 k y0 y1) (num_Put.l0 (k + 1) y0 y1))
 | 0 => ⟨fun _ _ r h => by simp [num_Put.j0] at h, fun _ _ r h => by simp [num_Put.l0] at h⟩
 | k + 1 => by
  obtain ⟨ih0, ih1⟩ := num_Put.mono_l k
  refine ⟨?_, ?_⟩
  ·intro y0 y1
   unfold num_Put.j0
   repeat' first
   | (with_reducible exact ih0 _ _)
   | (with_reducible exact ih1 _ _)
   | (with_reducible exact LeO.refl _)
   | (with_reducible exact LeO.none _)
   | (with_reducible refine LeO.ite ?_ ?_)
   | (with_reducible refine LeO.bind ?_ (fun _ => ?_))
   | exact ih0 _ _
   | exact ih1 _ _
   | exact LeO.none _
   | refine LeO.ite ?_ ?_
   | refine LeO.bind ?_ (fun _ => ?_)
  ·intro y0 y1
   unfold num_Put.l0
   repeat' first
   | (with_reducible exact ih0 _ _)
   | (with_reducible exact ih1 _ _)
   | (with_reducible exact LeO.refl _)
   | (with_reducible exact LeO.none _)
   | (with_reducible refine LeO.ite ?_ ?_)
   | (with_reducible refine LeO.bind ?_ (fun _ => ?_))
   | exact ih0 _ _
   | exact ih1 _ _
   | exact LeO.none _
   | refine LeO.ite ?_ ?_
   | refine LeO.bind ?_ (fun _ => ?_)
theorem num_Put.mono : ∀ a0 a1 k, LeO (num_Put.f k a0 a1) (num_Put.f (k + 1) a0 a1) := by
 intro a0 a1 k
 obtain ⟨ih0, ih1⟩ := num_Put.mono_l k
 unfold num_Put.f
 repeat' first
   | (with_reducible exact ih0 _ _)
   | (with_reducible exact ih1 _ _)
   | (with_reducible exact LeO.refl _)
   | (with_reducible exact LeO.none _)
   | (with_reducible refine LeO.ite ?_ ?_)
   | (with_reducible refine LeO.bind ?_ (fun _ => ?_))
   | exact ih0 _ _
   | exact ih1 _ _
   | exact LeO.none _
   | refine LeO.ite ?_ ?_
   | refine LeO.bind ?_ (fun _ => ?_)
set_option maxHeartbeats 8000000 in
set_option maxRecDepth 100000 in
theorem num_Put.calls (k : Nat) (P0_ : Nat → Prop) (u9000_ : Value) (l0 : List Int) (a1 : Int) (r : List Int) (w0 w : World) (hB : Below w0.heap.size w0 w) (ho0 : Kd.R (Kd.int .u8) 5 w w0.heap.size P0_ u9000_ l0) (h : num_Put.f k l0 a1 = some r) :
  Calls Try.prog 50 #[u9000_, .int .i64 a1] w fun e w' => ∃ v0_ : Value, e = .returned (v0_) ∧ Kd.R (Kd.int .u8) 5 w' w0.heap.size (fun k_ => (P0_ k_ ∨ w.heap.size ≤ k_)) v0_ r ∧ Below w0.heap.size w0 w' ∧ Kept w w' (fun k_ => P0_ k_) := by
 have HO0 := Aside0.mk (show Kd.R (Kd.int .u8) 5 w w0.heap.size (fun k_ => (P0_ k_ ∨ w.heap.size ≤ k_)) u9000_ l0 from Kd.R_mono ho0 (fun k_ hk => (.inl hk)))
 have HK := Aside0.mk (Kept.refl w (fun k_ => P0_ k_))
 have HW0 := Aside0.mk hB.size
 have HB := Aside0.mk hB
 clear hB
 have H : (if a1 < 0 then (num_Put.j0 k l0 (Go.bits .xor .u64 18446744073709551615 (IntKind.u64.wrap ((IntKind.u64.wrap (a1)) * 2)))) else (num_Put.j0 k l0 (IntKind.u64.wrap ((IntKind.u64.wrap (a1)) * 2)))) = some r := h
 clear h
 have HC3 := Aside0.mk H
 clear H
 go_enter Try.func50, Try.ntmps50
 go_upto_if 10 with (fail)
 go_cut [5] (fun v5 wc => ∃ (kq : Nat) (x5_2 : Int), v5 = .int .u64 x5_2 ∧ Aside0 (num_Put.j0 kq l0 x5_2 = some r) ∧ Aside0 (kq ≤ k) ∧ Aside0 (Kd.R (Kd.int .u8) 5 wc w0.heap.size (fun k_ => (P0_ k_ ∨ w.heap.size ≤ k_)) u9000_ l0) ∧ Aside0 (Kept w wc (fun k_ => P0_ k_)) ∧ Aside0 (Below w0.heap.size w0 wc))
 case first =>
  have H := HC3.out
  clear HC3
  by_cases c4 : a1 < 0
  rotate_left
  ·rw [if_neg c4] at H
   have c4b0 : decide (a1 < 0) = false := decide_eq_false c4
   clear c4
   (first | rw [c4b0] | (simp only [i64_w, i32_w]; rw [c4b0]) | skip)
   have H' := Aside0.mk H
   clear H
   go_wp2
   go_meet
   case rel => exact ⟨_, (IntKind.u64.wrap ((IntKind.u64.wrap (a1)) * 2)), (by first | rfl | (simp; done) | (simp [*]; done)), H', ⟨by first | omega | exact Nat.le_refl _⟩, ⟨by (with_reducible repeat (first | apply Kd.R_alloc | apply Kd.R_drewN | apply Kd.R_drew)); exact HO0.out⟩, ⟨by repeat (first | (with_reducible first | exact HK.out | apply Kept.alloc | apply Kept.drewN | apply Kept.drew) | exact HK.out)⟩, ⟨by repeat (first | (with_reducible first | exact HB.out | apply below_alloc | apply pw_below_drewN | apply below_drew1) | exact HB.out)⟩⟩
  rw [if_pos c4] at H
  have c4b0 : decide (a1 < 0) = true := decide_eq_true c4
  clear c4
  (first | rw [c4b0] | (simp only [i64_w, i32_w]; rw [c4b0]) | skip)
  have H' := Aside0.mk H
  clear H
  go_wp2
  go_meet
  case rel => exact ⟨_, (Go.bits .xor .u64 18446744073709551615 (IntKind.u64.wrap ((IntKind.u64.wrap (a1)) * 2))), (by first | rfl | (simp; done) | (simp [*]; done)), H', ⟨by first | omega | exact Nat.le_refl _⟩, ⟨by (with_reducible repeat (first | apply Kd.R_alloc | apply Kd.R_drewN | apply Kd.R_drew)); exact HO0.out⟩, ⟨by repeat (first | (with_reducible first | exact HK.out | apply Kept.alloc | apply Kept.drewN | apply Kept.drew) | exact HK.out)⟩, ⟨by repeat (first | (with_reducible first | exact HB.out | apply below_alloc | apply pw_below_drewN | apply below_drew1) | exact HB.out)⟩⟩
 case rest =>
  clear HC3
  try clear p2
  try clear c4
  try clear c4b0
  obtain ⟨kq, x5_2, rfl, HA, HJ2, HO_0, HK, HB⟩ := hcut
  cases kq with
  | zero => exact absurd HA.out (by simp [num_Put.j0])
  | succ kj2 =>
   have H := HA.out
   clear HA
   simp only [num_Put.j0] at H
   have H' := Aside0.mk H
   clear H
   go_wp2
   go_loopg [0, 5] kj2 (fun kq v0 v5 w' => ∃ (x0_2 : List Int) (x5_2 : Int), v5 = .int .u64 x5_2 ∧ Aside0 (num_Put.l0 kq x0_2 x5_2 = some r) ∧ Aside0 (kq ≤ kj2) ∧ Aside0 (Kd.R (Kd.int .u8) 5 w' w0.heap.size (fun k_ => (P0_ k_ ∨ w.heap.size ≤ k_)) v0 x0_2) ∧ Aside0 (Kept w w' (fun k_ => P0_ k_)) ∧ Aside0 (Below w0.heap.size w0 w'))
   case atStart => exact ⟨(l0), (x5_2), (by first | rfl | (simp; done) | (simp [*]; done)), H', ⟨Nat.le_refl _⟩, ⟨by (with_reducible repeat (first | apply Kd.R_alloc | apply Kd.R_drewN | apply Kd.R_drew)); exact HO_0.out⟩, ⟨by repeat (first | (with_reducible first | exact HK.out | apply Kept.alloc | apply Kept.drewN | apply Kept.drew) | exact HK.out)⟩, ⟨by repeat (first | (with_reducible first | exact HB.out | apply below_alloc | apply pw_below_drewN | apply below_drew1) | exact HB.out)⟩⟩
   case round =>
    clear H'
    try clear p2
    try clear c4
    try clear c4b0
    try clear p2
    obtain ⟨x0_2, x5_2, rfl, HA, HK2, HO_0, HK, HB⟩ := hrel
    cases gk with
    | zero => exact absurd HA.out (by simp [num_Put.l0])
    | succ k2 =>
     have H := HA.out
     clear HA
     simp only [num_Put.l0] at H
     by_cases c5 : x5_2 > 127
     rotate_left
     ·rw [if_neg c5] at H
      have c5b0 : decide (127 < x5_2) = false := decide_eq_false c5
      clear c5
      by_cases c8 : x0_2.length < 140737488355328
      rotate_left
      ·rw [if_neg c8] at H
       exact absurd H (by simp)
      rw [if_pos c8] at H
      have LMc8 := Aside0.mk c8
      clear c8
      obtain ⟨y125, hy125⟩ : ∃ y_ : List Int, y_ = (x0_2 ++ [(x5_2) % 256]) := ⟨_, rfl⟩
      replace H : (some y125) = some r := by first | (rw [hy125]; with_reducible exact H) | (have H2_ := (Option.bind_some _ _).symm.trans H; rw [hy125]; with_reducible exact H2_) | (have H2_ := (Option.bind_some _ _).symm.trans H; with_reducible exact H2_) | with_reducible exact H | (rw [hy125]; exact H) | exact H
      have Ny125 := Aside0.mk hy125
      clear hy125
      obtain rfl := Option.some.inj H
      go_wp2_with (first | ((with_reducible refine gate_builtin (b := .append) (xs := #[.tmp 23, .tmp 26]) rfl ?_); at_builtin; refine Kd.R_append (Kd.int .u8) (w0 := w0) w0.heap.size rfl (.tmp 23) (.tmp 26) 30 5 (.int .u8 0) 1 rfl Try.underlying30 info5 rfl (by decide) (by omega) u0 x0_2 ((x5_2) % 256) [.int .u8 ((x5_2) % 256)] (fun k_ => (P0_ k_ ∨ w.heap.size ≤ k_)) (fun _ => False) rfl rfl ?aP (fun _ hk => hk.elim) ?aF ?aO ?aB ?aS ?aL ?_; (case aP => exact rfl); (case aB => exact (bC HB)); (case aF => exact (fun k_ hk => (.inr (Nat.le_trans (by first | exact HK.out.1 | exact (show Kept w _ (fun k_ => P0_ k_) from by repeat (first | (with_reducible first | exact HK.out | apply Kept.alloc | apply Kept.drewN | apply Kept.drew) | exact HK.out)).1) hk)))); (case aO => exact (by (with_reducible repeat (first | apply Kd.R_alloc | apply Kd.R_drewN | apply Kd.R_drew)); exact HO_0.out)); (case aS => exact (below_size (bC HB))); (case aL => have := LMc8.out; omega); intro v126 w9 ho hb hg hat; rw [← Ny125.out] at ho; have HO127 := Aside0.mk (ho); replace HB := Aside0.mk (hb); replace HK := Aside0.mk (Kept.of_grown (S := (fun k_ => P0_ k_)) hg (by repeat (first | (with_reducible first | exact HK.out | apply Kept.alloc | apply Kept.drewN | apply Kept.drew) | exact HK.out)) (fun k_ e_ => (HO_0.out.1 k_ e_))); clear HO_0; clear ho hb hg hat))
      go_ret
      exact ⟨_, by first | rfl | (simp [errW_none, errW_some] <;> rfl) | (simp [*, errW_none, errW_some] <;> rfl), by (with_reducible repeat (first | apply Kd.R_alloc | apply Kd.R_drewN | apply Kd.R_drew)); exact HO127.out, by repeat (first | (with_reducible first | exact HB.out | apply below_alloc | apply pw_below_drewN | apply below_drew1) | exact HB.out), by repeat (first | (with_reducible first | exact HK.out | apply Kept.alloc | apply Kept.drewN | apply Kept.drew) | exact HK.out)⟩
     rw [if_pos c5] at H
     have c5b0 : decide (127 < x5_2) = true := decide_eq_true c5
     clear c5
     by_cases c6 : x0_2.length < 140737488355328
     rotate_left
     ·rw [if_neg c6] at H
      exact absurd H (by simp)
     rw [if_pos c6] at H
     have LMc6 := Aside0.mk c6
     clear c6
     obtain ⟨y122, hy122⟩ : ∃ y_ : List Int, y_ = (x0_2 ++ [Go.bits .or .u8 ((x5_2) % 256) 128]) := ⟨_, rfl⟩
     replace H : (num_Put.l0 k2 y122 (x5_2 / 128)) = some r := by first | (rw [hy122]; with_reducible exact H) | (have H2_ := (Option.bind_some _ _).symm.trans H; rw [hy122]; with_reducible exact H2_) | (have H2_ := (Option.bind_some _ _).symm.trans H; with_reducible exact H2_) | with_reducible exact H | (rw [hy122]; exact H) | exact H
     have Ny122 := Aside0.mk hy122
     clear hy122
     have H' := Aside0.mk H
     clear H
     go_wp2_with (first | ((with_reducible refine gate_builtin (b := .append) (xs := #[.tmp 15, .tmp 19]) rfl ?_); at_builtin; refine Kd.R_append (Kd.int .u8) (w0 := w0) w0.heap.size rfl (.tmp 15) (.tmp 19) 30 5 (.int .u8 0) 1 rfl Try.underlying30 info5 rfl (by decide) (by omega) u0 x0_2 (Go.bits .or .u8 ((x5_2) % 256) 128) [.int .u8 (Go.bits .or .u8 ((x5_2) % 256) 128)] (fun k_ => (P0_ k_ ∨ w.heap.size ≤ k_)) (fun _ => False) rfl rfl ?aP (fun _ hk => hk.elim) ?aF ?aO ?aB ?aS ?aL ?_; (case aP => exact rfl); (case aB => exact (bC HB)); (case aF => exact (fun k_ hk => (.inr (Nat.le_trans (by first | exact HK.out.1 | exact (show Kept w _ (fun k_ => P0_ k_) from by repeat (first | (with_reducible first | exact HK.out | apply Kept.alloc | apply Kept.drewN | apply Kept.drew) | exact HK.out)).1) hk)))); (case aO => exact (by (with_reducible repeat (first | apply Kd.R_alloc | apply Kd.R_drewN | apply Kd.R_drew)); exact HO_0.out)); (case aS => exact (below_size (bC HB))); (case aL => have := LMc6.out; omega); intro v123 w7 ho hb hg hat; rw [← Ny122.out] at ho; have HO124 := Aside0.mk (ho); replace HB := Aside0.mk (hb); replace HK := Aside0.mk (Kept.of_grown (S := (fun k_ => P0_ k_)) hg (by repeat (first | (with_reducible first | exact HK.out | apply Kept.alloc | apply Kept.drewN | apply Kept.drew) | exact HK.out)) (fun k_ e_ => (HO_0.out.1 k_ e_))); clear HO_0; clear ho hb hg hat))
     go_roundg k2
     case measure => have := HJ2.out; have := HK2.out; omega
     case rel => exact ⟨(y122), (x5_2 / 128), (by first | rfl | (simp; done) | (simp [*]; done)), H', ⟨by have := HJ2.out; have := HK2.out; omega⟩, ⟨by (with_reducible repeat (first | apply Kd.R_alloc | apply Kd.R_drewN | apply Kd.R_drew)); exact HO124.out⟩, ⟨by repeat (first | (with_reducible first | exact HK.out | apply Kept.alloc | apply Kept.drewN | apply Kept.drew) | exact HK.out)⟩, ⟨by repeat (first | (with_reducible first | exact HB.out | apply below_alloc | apply pw_below_drewN | apply below_drew1) | exact HB.out)⟩⟩
def num_PutText.f (k : Nat) (l0 : List Int) (a1 : ByteArray) : Option (List Int) := (num_Put.f k l0 (a1.size : Int)).bind fun t128 => (if t128.length + a1.size < 140737488355328 then (some (t128 ++ bytesOf a1)) else (none))
theorem num_PutText.mono : ∀ a0 a1 k, LeO (num_PutText.f k a0 a1) (num_PutText.f (k + 1) a0 a1) := by
 intro a0 a1 k
 unfold num_PutText.f
 repeat' first
   | (with_reducible exact num_Put.mono _ _ _)
   | (with_reducible exact LeO.refl _)
   | (with_reducible exact LeO.none _)
   | (with_reducible refine LeO.ite ?_ ?_)
   | (with_reducible refine LeO.bind ?_ (fun _ => ?_))
   | exact num_Put.mono _ _ _
   | exact LeO.none _
   | refine LeO.ite ?_ ?_
   | refine LeO.bind ?_ (fun _ => ?_)
set_option maxHeartbeats 8000000 in
set_option maxRecDepth 100000 in
theorem num_PutText.calls (k : Nat) (P0_ : Nat → Prop) (u9000_ : Value) (l0 : List Int) (a1 : ByteArray) (r : List Int) (w0 w : World) (hB : Below w0.heap.size w0 w) (ho0 : Kd.R (Kd.int .u8) 5 w w0.heap.size P0_ u9000_ l0) (h : num_PutText.f k l0 a1 = some r) :
  Calls Try.prog 52 #[u9000_, .string a1] w fun e w' => ∃ v0_ : Value, e = .returned (v0_) ∧ Kd.R (Kd.int .u8) 5 w' w0.heap.size (fun k_ => (P0_ k_ ∨ w.heap.size ≤ k_)) v0_ r ∧ Below w0.heap.size w0 w' ∧ Kept w w' (fun k_ => P0_ k_) := by
 have HO0 := Aside0.mk (show Kd.R (Kd.int .u8) 5 w w0.heap.size (fun k_ => (P0_ k_ ∨ w.heap.size ≤ k_)) u9000_ l0 from Kd.R_mono ho0 (fun k_ hk => (.inl hk)))
 have HK := Aside0.mk (Kept.refl w (fun k_ => P0_ k_))
 have HW0 := Aside0.mk hB.size
 have HB := Aside0.mk hB
 clear hB
 have H : ((num_Put.f k l0 (a1.size : Int)).bind fun t128 => (if t128.length + a1.size < 140737488355328 then (some (t128 ++ bytesOf a1)) else (none))) = some r := h
 clear h
 replace H := Option.bind_eq_some_iff.mp H
 obtain ⟨t128, A30, H⟩ := H
 replace H : (if t128.length + a1.size < 140737488355328 then (some (t128 ++ bytesOf a1)) else (none)) = some r := H
 have A3 := Aside0.mk A30
 clear A30
 by_cases c4 : t128.length + a1.size < 140737488355328
 rotate_left
 ·rw [if_neg c4] at H
  exact absurd H (by simp)
 rw [if_pos c4] at H
 have LMc4 := Aside0.mk c4
 clear c4
 obtain ⟨y131, hy131⟩ : ∃ y_ : List Int, y_ = (t128 ++ bytesOf a1) := ⟨_, rfl⟩
 replace H : (some y131) = some r := by first | (rw [hy131]; with_reducible exact H) | (have H2_ := (Option.bind_some _ _).symm.trans H; rw [hy131]; with_reducible exact H2_) | (have H2_ := (Option.bind_some _ _).symm.trans H; with_reducible exact H2_) | with_reducible exact H | (rw [hy131]; exact H) | exact H
 have Ny131 := Aside0.mk hy131
 clear hy131
 obtain rfl := Option.some.inj H
 obtain ⟨Ao5, co5, eo5⟩ := Kd.R_slice HO0.out
 subst eo5
 go_enter Try.func52, Try.ntmps52
 go_wp2_with (first | ((with_reducible refine gate_callee (f := 50) rfl ?_); refine gL (some 8) Try.func50 #[.slice Ao5 l0.length co5, .int .i64 (a1.size : Int)] ?_; (with_reducible refine (num_Put.calls k (fun k_ => some k_ = (.slice Ao5 l0.length co5 : Value).ownBlock) (.slice Ao5 l0.length co5) l0 (a1.size : Int) t128 w0 _ ?side1 ?side2 A3.out).mono ?_); (case side1 => repeat (first | (with_reducible first | exact HB.out | apply below_alloc | apply pw_below_drewN | apply below_drew1) | exact HB.out)); (case side2 => exact Kd.R_tight rfl HO0.out); rintro e w6 ⟨v129, rfl, ho0, hb, hkp⟩; refine ⟨_, rfl, ?_⟩; have HO130 := Aside0.mk (Kd.R_mono (ok' := fun k_ => (P0_ k_ ∨ w.heap.size ≤ k_)) ho0 (fun k_ hk_ => Or.elim hk_ (fun hs_ => (HO0.out.1 k_ (hs_).symm)) (fun hn_ => (.inr (Nat.le_trans (by first | exact HK.out.1 | exact (show Kept w _ (fun k_ => P0_ k_) from by repeat (first | (with_reducible first | exact HK.out | apply Kept.alloc | apply Kept.drewN | apply Kept.drew) | exact HK.out)).1) hn_))))); replace HK := Aside0.mk (Kept.then_ (S := (fun k_ => P0_ k_)) (by repeat (first | (with_reducible first | exact HK.out | apply Kept.alloc | apply Kept.drewN | apply Kept.drew) | exact HK.out)) hkp (fun k_ hs_ => (fun e_ => (HO0.out.1 k_ e_.symm)) hs_)); replace HB := Aside0.mk (hb); clear HO0; (try clear hb); (try clear hkp); (try clear ho0)) | (at_builtin; refine Kd.x_append_str (w0 := w0) w0.heap.size rfl (.tmp 8) _ 30 9 5 rfl Try.underlying30 Try.underlying9 info5 v129 t128 a1 (fun k_ => (P0_ k_ ∨ w.heap.size ≤ k_)) rfl rfl ?aO ?aF ?aB ?aS ?aL ?_; (case aB => exact (bC HB)); (case aF => exact (fun k_ hk => (.inr (Nat.le_trans (by first | exact HK.out.1 | exact (show Kept w _ (fun k_ => P0_ k_) from by repeat (first | (with_reducible first | exact HK.out | apply Kept.alloc | apply Kept.drewN | apply Kept.drew) | exact HK.out)).1) hk)))); (case aO => exact (by (with_reducible repeat (first | apply Kd.R_alloc | apply Kd.R_drewN | apply Kd.R_drew)); exact HO130.out)); (case aS => exact (below_size (bC HB))); (case aL => have := LMc4.out; omega); intro v132 w7 ho hb hg hat; rw [← Ny131.out] at ho; have HO133 := Aside0.mk (ho); replace HB := Aside0.mk (hb); replace HK := Aside0.mk (Kept.of_grown (S := (fun k_ => P0_ k_)) hg (by repeat (first | (with_reducible first | exact HK.out | apply Kept.alloc | apply Kept.drewN | apply Kept.drew) | exact HK.out)) (fun k_ e_ => (HO130.out.1 k_ e_))); clear HO130; clear ho hb hg hat))
 go_ret
 exact ⟨_, by first | rfl | (simp [errW_none, errW_some] <;> rfl) | (simp [*, errW_none, errW_some] <;> rfl), by (with_reducible repeat (first | apply Kd.R_alloc | apply Kd.R_drewN | apply Kd.R_drew)); exact HO133.out, by repeat (first | (with_reducible first | exact HB.out | apply below_alloc | apply pw_below_drewN | apply below_drew1) | exact HB.out), by repeat (first | (with_reducible first | exact HK.out | apply Kept.alloc | apply Kept.drewN | apply Kept.drew) | exact HK.out)⟩
def float_place.f (a0 : Nat) : Option (Int) := (math_IsNaN.f a0).bind fun t134 => (if t134 = true then (some 0) else (if (Go.bits .and .u64 ((a0 : Nat) : Int) 9223372036854775808) = 0 then (some (Go.bits .or .u64 ((a0 : Nat) : Int) 9223372036854775808)) else (some (Go.bits .xor .u64 18446744073709551615 ((a0 : Nat) : Int)))))
set_option maxHeartbeats 8000000 in
set_option maxRecDepth 100000 in
theorem float_place.calls (a0 : Nat) (r : Int) (w : World) (h : float_place.f a0 = some r) :
  Calls Try.prog 74 #[.float .f64 a0] w fun e w' => e = .returned (.int .u64 r) ∧ Drawn0 w w' := by
 have H : ((math_IsNaN.f a0).bind fun t134 => (if t134 = true then (some 0) else (if (Go.bits .and .u64 ((a0 : Nat) : Int) 9223372036854775808) = 0 then (some (Go.bits .or .u64 ((a0 : Nat) : Int) 9223372036854775808)) else (some (Go.bits .xor .u64 18446744073709551615 ((a0 : Nat) : Int)))))) = some r := h
 clear h
 replace H := Option.bind_eq_some_iff.mp H
 obtain ⟨t134, A20, H⟩ := H
 replace H : (if t134 = true then (some 0) else (if (Go.bits .and .u64 ((a0 : Nat) : Int) 9223372036854775808) = 0 then (some (Go.bits .or .u64 ((a0 : Nat) : Int) 9223372036854775808)) else (some (Go.bits .xor .u64 18446744073709551615 ((a0 : Nat) : Int))))) = some r := H
 have A2 := Aside0.mk A20
 clear A20
 by_cases c3 : t134 = true
 ·subst c3
  have H1 : (some 0) = some r := by rw [if_pos rfl] at H; exact H
  clear H
  have H := H1
  clear H1
  obtain rfl := Option.some.inj H
  go_enter Try.func74, Try.ntmps74
  go_wp2_with (first | ((with_reducible refine gate_callee (f := 71) rfl ?_); refine gL (some 8) Try.func71 #[.float .f64 a0] ?_; (with_reducible refine (math_IsNaN.calls a0 true _ A2.out).mono ?_); rintro e w' ⟨rfl, ⟨nd, rfl⟩⟩; refine ⟨_, rfl, ?_⟩))
  go_ret
  exact ⟨by first | rfl | (simp; done) | (simp [*]; done), by repeat (first | exact Drawn0.refl _ | apply Drawn0.step)⟩
 replace c3 := Bool.eq_false_iff.mpr c3
 subst c3
 have H1 : (if (Go.bits .and .u64 ((a0 : Nat) : Int) 9223372036854775808) = 0 then (some (Go.bits .or .u64 ((a0 : Nat) : Int) 9223372036854775808)) else (some (Go.bits .xor .u64 18446744073709551615 ((a0 : Nat) : Int)))) = some r := by rw [if_neg (show ¬ (false = true) by decide)] at H; exact H
 clear H
 have H := H1
 clear H1
 by_cases c4 : (Go.bits .and .u64 ((a0 : Nat) : Int) 9223372036854775808) = 0
 rotate_left
 ·rw [if_neg c4] at H
  have c4b0 : ((Go.bits .and .u64 ((a0 : Nat) : Int) 9223372036854775808) == 0) = false := beq_eq_false_iff_ne.mpr c4
  have c4b1 : ((Go.bits .and .u64 ((a0 : Nat) : Int) 9223372036854775808) != 0) = true := bne_iff_ne.mpr c4
  obtain rfl := Option.some.inj H
  go_enter Try.func74, Try.ntmps74
  go_wp2_with (first | ((with_reducible refine gate_callee (f := 71) rfl ?_); refine gL (some 8) Try.func71 #[.float .f64 a0] ?_; (with_reducible refine (math_IsNaN.calls a0 false _ A2.out).mono ?_); rintro e w' ⟨rfl, ⟨nd, rfl⟩⟩; refine ⟨_, rfl, ?_⟩))
  go_ret
  exact ⟨by first | rfl | (simp; done) | (simp [*]; done), by repeat (first | exact Drawn0.refl _ | apply Drawn0.step)⟩
 rw [if_pos c4] at H
 have c4b0 : ((Go.bits .and .u64 ((a0 : Nat) : Int) 9223372036854775808) == 0) = true := beq_iff_eq.mpr c4
 have c4b1 : ((Go.bits .and .u64 ((a0 : Nat) : Int) 9223372036854775808) != 0) = false := bne_eq_false_iff_eq.mpr c4
 clear c4
 obtain rfl := Option.some.inj H
 go_enter Try.func74, Try.ntmps74
 go_wp2_with (first | ((with_reducible refine gate_callee (f := 71) rfl ?_); refine gL (some 8) Try.func71 #[.float .f64 a0] ?_; (with_reducible refine (math_IsNaN.calls a0 false _ A2.out).mono ?_); rintro e w' ⟨rfl, ⟨nd, rfl⟩⟩; refine ⟨_, rfl, ?_⟩))
 go_ret
 exact ⟨by first | rfl | (simp; done) | (simp [*]; done), by repeat (first | exact Drawn0.refl _ | apply Drawn0.step)⟩
def float_Bytes.l0 : Nat → Int → List Int → Int → Option (List Int)
 | 0, _, _, _ => none
 | k + 1, x3, x4, x8 => if x8 < 8 then (if 0 ≤ (wrap64 (8 * (wrap64 (7 - x8)))) then (if x4.length < 140737488355328 then (float_Bytes.l0 k x3 (x4 ++ [(shr .u64 x3 (wrap64 (8 * (wrap64 (7 - x8))))) % 256]) (wrap64 (x8 + 1))) else (none)) else (none)) else (some x4)
def float_Bytes.f (k : Nat) (a0 : Nat) : Option (List Int) := (float_place.f a0).bind fun t135 => (float_Bytes.l0 k t135 ([] : List Int) 0)
theorem float_Bytes.mono_l : ∀ k, (∀ y0 y1 y2, LeO (float_Bytes.l0 k y0 y1 y2) (float_Bytes.l0 (k + 1) y0 y1 y2))
 | 0 => fun _ _ _ r h => by simp [float_Bytes.l0] at h
 | k + 1 => by
  have ih0 := float_Bytes.mono_l k
  ·intro y0 y1 y2
   unfold float_Bytes.l0
   repeat' first
   | (with_reducible exact ih0 _ _ _)
   | (with_reducible exact LeO.refl _)
   | (with_reducible exact LeO.none _)
   | (with_reducible refine LeO.ite ?_ ?_)
   | (with_reducible refine LeO.bind ?_ (fun _ => ?_))
   | exact ih0 _ _ _
   | exact LeO.none _
   | refine LeO.ite ?_ ?_
   | refine LeO.bind ?_ (fun _ => ?_)
theorem float_Bytes.mono : ∀ a0 k, LeO (float_Bytes.f k a0) (float_Bytes.f (k + 1) a0) := by
 intro a0 k
 have ih0 := float_Bytes.mono_l k
 unfold float_Bytes.f
 repeat' first
   | (with_reducible exact ih0 _ _ _)
   | (with_reducible exact LeO.refl _)
   | (with_reducible exact LeO.none _)
   | (with_reducible refine LeO.ite ?_ ?_)
   | (with_reducible refine LeO.bind ?_ (fun _ => ?_))
   | exact ih0 _ _ _
   | exact LeO.none _
   | refine LeO.ite ?_ ?_
   | refine LeO.bind ?_ (fun _ => ?_)
set_option maxHeartbeats 8000000 in
set_option maxRecDepth 100000 in
theorem float_Bytes.calls (k : Nat) (a0 : Nat) (r : List Int) (w : World) (h : float_Bytes.f k a0 = some r) :
  Calls Try.prog 72 #[.float .f64 a0] w fun e w' => ∃ v0_ : Value, e = .returned (v0_) ∧ Kd.R (Kd.int .u8) 5 w' w.heap.size (fun _ => True) v0_ r ∧ Below w.heap.size w w' := by
 have HB := Aside0.mk (Below.refl w.heap.size w)
 have H : ((float_place.f a0).bind fun t135 => (float_Bytes.l0 k t135 ([] : List Int) 0)) = some r := h
 clear h
 replace H := Option.bind_eq_some_iff.mp H
 obtain ⟨t135, A20, H⟩ := H
 replace H : (float_Bytes.l0 k t135 ([] : List Int) 0) = some r := H
 have A2 := Aside0.mk A20
 clear A20
 have H' := Aside0.mk H
 clear H
 go_enter Try.func72, Try.ntmps72
 go_wp2_with (first | ((with_reducible refine gate_callee (f := 74) rfl ?_); refine gL (some 7) Try.func74 #[.float .f64 a0] ?_; (with_reducible refine (float_place.calls a0 t135 _ A2.out).mono ?_); rintro e w' ⟨rfl, ⟨nd, rfl⟩⟩; refine ⟨_, rfl, ?_⟩))
 go_loopg [4, 8] k (fun kq v4 v8 w' => ∃ (x4_1 : List Int) (x8_1 : Int), v8 = .int .i64 x8_1 ∧ Aside0 (float_Bytes.l0 kq t135 x4_1 x8_1 = some r) ∧ Aside0 (kq ≤ k) ∧ Aside0 (Kd.R (Kd.int .u8) 5 w' w.heap.size (fun _ => True) v4 x4_1) ∧ Aside0 (Below w.heap.size w w'))
 case atStart => exact ⟨(([] : List Int)), (0), (by first | rfl | (simp; done) | (simp [*]; done)), H', ⟨Nat.le_refl _⟩, ⟨by first | exact Kd.R_nil _ _ _ _ _ | exact Kd.N_nil _ _ _ _ _ | exact Kd.V_nil _ _ _ _ _ | exact Kd.Q_nil _ _ _ _ _ | exact Kd.S_nil _ _ _ _ _⟩, ⟨by repeat (first | (with_reducible first | exact HB.out | apply below_alloc | apply pw_below_drewN | apply below_drew1) | exact HB.out)⟩⟩
 case round =>
  clear H'
  try clear p2
  obtain ⟨x4_1, x8_1, rfl, HA, HK1, HO_4, HB⟩ := hrel
  cases gk with
  | zero => exact absurd HA.out (by simp [float_Bytes.l0])
  | succ k1 =>
   have H := HA.out
   clear HA
   simp only [float_Bytes.l0] at H
   by_cases c3 : x8_1 < 8
   rotate_left
   ·rw [if_neg c3] at H
    have c3b0 : decide (x8_1 < 8) = false := decide_eq_false c3
    clear c3
    obtain rfl := Option.some.inj H
    go_wp2
    go_ret
    exact ⟨_, by first | rfl | (simp [errW_none, errW_some] <;> rfl) | (simp [*, errW_none, errW_some] <;> rfl), by (with_reducible repeat (first | apply Kd.R_alloc | apply Kd.R_drewN | apply Kd.R_drew)); exact HO_4.out, by repeat (first | (with_reducible first | exact HB.out | apply below_alloc | apply pw_below_drewN | apply below_drew1) | exact HB.out)⟩
   rw [if_pos c3] at H
   have c3b0 : decide (x8_1 < 8) = true := decide_eq_true c3
   clear c3
   obtain ⟨ji4, hji4⟩ : ∃ j_ : Int, (wrap64 (8 * (wrap64 (7 - x8_1)))) = j_ := ⟨_, rfl⟩
   replace H : (if 0 ≤ (ji4) then (if x4_1.length < 140737488355328 then (float_Bytes.l0 k1 t135 (x4_1 ++ [(shr .u64 t135 (ji4)) % 256]) (wrap64 (x8_1 + 1))) else (none)) else (none)) = some r := by first | (rw [hji4] at H; exact H) | (simp only [hji4] at H ⊢; exact H)
   have hji4w : (IntKind.i64.wrap (8 * (wrap64 (7 - x8_1)))) = ji4 := (i64_w _).trans hji4
   by_cases c5 : 0 ≤ (ji4)
   rotate_left
   ·rw [if_neg c5] at H
    exact absurd H (by simp)
   rw [if_pos c5] at H
   have c5b0 := eq_true c5
   have c5b1 : decide (0 ≤ (ji4)) = true := decide_eq_true c5
   clear c5
   obtain ⟨ji6, hji6⟩ : ∃ j_ : Int, (shr .u64 t135 (ji4)) = j_ := ⟨_, rfl⟩
   replace H : (if x4_1.length < 140737488355328 then (float_Bytes.l0 k1 t135 (x4_1 ++ [(ji6) % 256]) (wrap64 (x8_1 + 1))) else (none)) = some r := by first | (rw [hji6] at H; exact H) | (simp only [hji6] at H ⊢; exact H)
   have hji6_ : (t135 / 2 ^ min (ji4).toNat 64) = ji6 := hji6
   have hji6z : (ji4) ≤ 64 → (t135 / 2 ^ (ji4).toNat) = ji6 := shr_small hji6
   by_cases c7 : x4_1.length < 140737488355328
   rotate_left
   ·rw [if_neg c7] at H
    exact absurd H (by simp)
   rw [if_pos c7] at H
   have LMc7 := Aside0.mk c7
   clear c7
   obtain ⟨y136, hy136⟩ : ∃ y_ : List Int, y_ = (x4_1 ++ [(ji6) % 256]) := ⟨_, rfl⟩
   replace H : (float_Bytes.l0 k1 t135 y136 (wrap64 (x8_1 + 1))) = some r := by first | (rw [hy136]; with_reducible exact H) | (have H2_ := (Option.bind_some _ _).symm.trans H; rw [hy136]; with_reducible exact H2_) | (have H2_ := (Option.bind_some _ _).symm.trans H; with_reducible exact H2_) | with_reducible exact H | (rw [hy136]; exact H) | exact H
   have Ny136 := Aside0.mk hy136
   clear hy136
   have H' := Aside0.mk H
   clear H
   go_wp2_with (first | ((with_reducible refine gate_builtin (b := .append) (xs := #[.tmp 11, .tmp 18]) rfl ?_); at_builtin; refine Kd.R_append (Kd.int .u8) (w0 := w) w.heap.size rfl (.tmp 11) (.tmp 18) 30 5 (.int .u8 0) 1 rfl Try.underlying30 info5 rfl (by decide) (by omega) u4 x4_1 ((ji6) % 256) [.int .u8 ((ji6) % 256)] (fun _ => True) (fun _ => False) rfl rfl ?aP (fun _ hk => hk.elim) ?aF ?aO ?aB ?aS ?aL ?_; (case aP => exact rfl); (case aB => exact (bC HB)); (case aF => exact (fun _ _ => trivial)); (case aO => exact (by (with_reducible repeat (first | apply Kd.R_alloc | apply Kd.R_drewN | apply Kd.R_drew)); exact HO_4.out)); (case aS => exact (below_size (bC HB))); (case aL => have := LMc7.out; omega); intro v137 w8 ho hb hg hat; rw [← Ny136.out] at ho; have HO138 := Aside0.mk (ho); replace HB := Aside0.mk (hb); clear HO_4; clear ho hb hg hat))
   go_roundg k1
   case measure => have := HK1.out; omega
   case rel => exact ⟨(y136), (wrap64 (x8_1 + 1)), (by first | rfl | (simp; done) | (simp [*]; done)), H', ⟨by have := HK1.out; omega⟩, ⟨by (with_reducible repeat (first | apply Kd.R_alloc | apply Kd.R_drewN | apply Kd.R_drew)); exact HO138.out⟩, ⟨by repeat (first | (with_reducible first | exact HB.out | apply below_alloc | apply pw_below_drewN | apply below_drew1) | exact HB.out)⟩⟩
def datum_Put.f (k : Nat) (l0 : List Int) (a1_0 : Int) (a1_1 : Nat) (a1_2 : ByteArray) : Option (List Int) := (num_Put.f k l0 a1_0).bind fun t140 => (if a1_0 = 1 then ((float_Bytes.f k a1_1).bind fun t143 => (if t140.length + t143.length < 140737488355328 then (some (t140 ++ t143)) else (none))) else (if a1_0 = 2 then ((num_PutText.f k t140 a1_2).bind fun t149 => (some t149)) else (some t140)))
theorem datum_Put.mono : ∀ a0 a1 a2 a3 k, LeO (datum_Put.f k a0 a1 a2 a3) (datum_Put.f (k + 1) a0 a1 a2 a3) := by
 intro a0 a1 a2 a3 k
 unfold datum_Put.f
 repeat' first
   | (with_reducible exact float_Bytes.mono _ _)
   | (with_reducible exact num_Put.mono _ _ _)
   | (with_reducible exact num_PutText.mono _ _ _)
   | (with_reducible exact LeO.refl _)
   | (with_reducible exact LeO.none _)
   | (with_reducible refine LeO.ite ?_ ?_)
   | (with_reducible refine LeO.bind ?_ (fun _ => ?_))
   | exact float_Bytes.mono _ _
   | exact num_Put.mono _ _ _
   | exact num_PutText.mono _ _ _
   | exact LeO.none _
   | refine LeO.ite ?_ ?_
   | refine LeO.bind ?_ (fun _ => ?_)
set_option maxHeartbeats 8000000 in
set_option maxRecDepth 100000 in
theorem datum_Put.calls (k : Nat) (P0_ : Nat → Prop) (u9000_ : Value) (l0 : List Int) (a1_0 : Int) (a1_1 : Nat) (a1_2 : ByteArray) (r : List Int) (w0 w : World) (hB : Below w0.heap.size w0 w) (ho0 : Kd.R (Kd.int .u8) 5 w w0.heap.size P0_ u9000_ l0) (h : datum_Put.f k l0 a1_0 a1_1 a1_2 = some r) :
  Calls Try.prog 65 #[u9000_, .agg #[.int .i64 a1_0, .float .f64 a1_1, .string a1_2]] w fun e w' => ∃ v0_ : Value, e = .returned (v0_) ∧ Kd.R (Kd.int .u8) 5 w' w0.heap.size (fun k_ => (P0_ k_ ∨ w.heap.size ≤ k_)) v0_ r ∧ Below w0.heap.size w0 w' ∧ Kept w w' (fun k_ => P0_ k_) := by
 have hu54 := Try.underlying54
 have HO0 := Aside0.mk (show Kd.R (Kd.int .u8) 5 w w0.heap.size (fun k_ => (P0_ k_ ∨ w.heap.size ≤ k_)) u9000_ l0 from Kd.R_mono ho0 (fun k_ hk => (.inl hk)))
 have HK := Aside0.mk (Kept.refl w (fun k_ => P0_ k_))
 have HW0 := Aside0.mk hB.size
 have HB := Aside0.mk hB
 clear hB
 have H : ((num_Put.f k l0 a1_0).bind fun t140 => (if a1_0 = 1 then ((float_Bytes.f k a1_1).bind fun t143 => (if t140.length + t143.length < 140737488355328 then (some (t140 ++ t143)) else (none))) else (if a1_0 = 2 then ((num_PutText.f k t140 a1_2).bind fun t149 => (some t149)) else (some t140)))) = some r := h
 clear h
 replace H := Option.bind_eq_some_iff.mp H
 obtain ⟨t140, A30, H⟩ := H
 replace H : (if a1_0 = 1 then ((float_Bytes.f k a1_1).bind fun t143 => (if t140.length + t143.length < 140737488355328 then (some (t140 ++ t143)) else (none))) else (if a1_0 = 2 then ((num_PutText.f k t140 a1_2).bind fun t149 => (some t149)) else (some t140))) = some r := H
 have A3 := Aside0.mk A30
 clear A30
 by_cases c4 : a1_0 = 1
 ·rw [if_pos c4] at H
  have c4b0 : (a1_0 == 1) = true := beq_iff_eq.mpr c4
  have c4b1 : (a1_0 != 1) = false := bne_eq_false_iff_eq.mpr c4
  clear c4
  replace H := Option.bind_eq_some_iff.mp H
  obtain ⟨t143, A50, H⟩ := H
  replace H : (if t140.length + t143.length < 140737488355328 then (some (t140 ++ t143)) else (none)) = some r := H
  have A5 := Aside0.mk A50
  clear A50
  by_cases c6 : t140.length + t143.length < 140737488355328
  rotate_left
  ·rw [if_neg c6] at H
   exact absurd H (by simp)
  rw [if_pos c6] at H
  have LMc6 := Aside0.mk c6
  clear c6
  obtain ⟨y146, hy146⟩ : ∃ y_ : List Int, y_ = (t140 ++ t143) := ⟨_, rfl⟩
  replace H : (some y146) = some r := by first | (rw [hy146]; with_reducible exact H) | (have H2_ := (Option.bind_some _ _).symm.trans H; rw [hy146]; with_reducible exact H2_) | (have H2_ := (Option.bind_some _ _).symm.trans H; with_reducible exact H2_) | with_reducible exact H | (rw [hy146]; exact H) | exact H
  have Ny146 := Aside0.mk hy146
  clear hy146
  obtain rfl := Option.some.inj H
  go_enter Try.func65, Try.ntmps65
  go_wp2_with (first | ((with_reducible refine gate_dst (N := 3) rfl ?_); refine box_event ?hg (N := 3) ?hd (cs := #[.int .i64 a1_0, .float .f64 a1_1, .string a1_2]) (t := 54) ?hr ?_; (case hd => rfl); (case hg => rfl); (case hr => first | (go_simp; done) | (go_simp; rfl)); intro gb139 hg w7 hbox hb; have BK139 := Aside0.mk (hbox); have GW139 := Aside0.mk ((by rw [hg]; exact (by first | exact HK.out.1 | exact (show Kept w _ (fun k_ => P0_ k_) from by repeat (first | (with_reducible first | exact HK.out | apply Kept.alloc | apply Kept.drewN | apply Kept.drew) | exact HK.out)).1) : w.heap.size ≤ gb139)); have GE139 := Aside0.mk ((by rw [hg]; exact (below_size (bC HB)) : w0.heap.size ≤ gb139)); replace HO0 := rB HO0 hb; replace HK := Aside0.mk (Kept.below (S := (fun k_ => P0_ k_)) (by repeat (first | (with_reducible first | exact HK.out | apply Kept.alloc | apply Kept.drewN | apply Kept.drew) | exact HK.out)) hb); replace HB := bW HB hb; clear hb hbox hg; obtain ⟨hcz8_0, hcz8_1, hcz8_2, hfz8_0, hfz8_1, hfz8_2⟩ := bf3 (w := w7) BK139; obtain ⟨Ao9, co9, eo9⟩ := Kd.R_slice HO0.out; subst eo9) | ((with_reducible refine gate_callee (f := 50) rfl ?_); refine gL (some 8) Try.func50 #[.slice Ao9 l0.length co9, .int .i64 a1_0] ?_; (with_reducible refine (num_Put.calls k (fun k_ => some k_ = (.slice Ao9 l0.length co9 : Value).ownBlock) (.slice Ao9 l0.length co9) l0 a1_0 t140 w0 _ ?side1 ?side2 A3.out).mono ?_); (case side1 => repeat (first | (with_reducible first | exact HB.out | apply below_alloc | apply pw_below_drewN | apply below_drew1 | refine below_set ?_ GE139.out) | exact HB.out)); (case side2 => exact Kd.R_tight rfl HO0.out); rintro e w10 ⟨v141, rfl, ho0, hb, hkp⟩; refine ⟨_, rfl, ?_⟩; have HO142 := Aside0.mk (Kd.R_mono (ok' := fun k_ => (P0_ k_ ∨ w.heap.size ≤ k_)) ho0 (fun k_ hk_ => Or.elim hk_ (fun hs_ => (HO0.out.1 k_ (hs_).symm)) (fun hn_ => (.inr (Nat.le_trans (by first | exact HK.out.1 | exact (show Kept w _ (fun k_ => P0_ k_) from by repeat (first | (with_reducible first | exact HK.out | apply Kept.alloc | apply Kept.drewN | apply Kept.drew | refine Kept.setCell ?_ (.inr GW139.out) _) | exact HK.out)).1) hn_))))); replace BK139 := Aside0.mk (blk_kept (bQ BK139) hkp (fun hs_ => (fun e_ => (Kd.R_ne HO0.out BK139.out (by decide)) e_) hs_)); replace HK := Aside0.mk (Kept.then_ (S := (fun k_ => P0_ k_)) (by repeat (first | (with_reducible first | exact HK.out | apply Kept.alloc | apply Kept.drewN | apply Kept.drew | refine Kept.setCell ?_ (.inr GW139.out) _) | exact HK.out)) hkp (fun k_ hs_ => (fun e_ => (HO0.out.1 k_ e_.symm)) hs_)); replace HB := Aside0.mk (hb); clear HO0; (try clear hb); (try clear hkp); (try clear ho0); obtain ⟨hcz11_0, hcz11_1, hcz11_2, hfz11_0, hfz11_1, hfz11_2⟩ := bf3 (w := w10) BK139) | ((with_reducible refine gate_callee (f := 72) rfl ?_); refine gL (some 16) Try.func72 #[.float .f64 a1_1] ?_; (with_reducible refine (float_Bytes.calls k a1_1 t143 _ A5.out).mono ?_); rintro e w12 ⟨v144, rfl, ho0, hb⟩; refine ⟨_, rfl, ?_⟩; have HO145 := Aside0.mk (Kd.R_lower (Kd.R_new' (Kd.R_newM (M := fun k_ => (P0_ k_ ∨ w.heap.size ≤ k_)) ho0 (by first | exact HK.out.1 | exact (show Kept w _ (fun k_ => P0_ k_) from by repeat (first | (with_reducible first | exact HK.out | apply Kept.alloc | apply Kept.drewN | apply Kept.drew | refine Kept.setCell ?_ (.inr GW139.out) _) | exact HK.out)).1) (fun k_ h_ => .inr h_)) (Kd.R_lt (by (with_reducible repeat (first | apply Kd.R_alloc | apply Kd.R_drewN | apply Kd.R_drew)); exact HO142.out))) (below_size (bC HB))); replace HO142 := rE HO142 (Kd.R_base ho0) hb; replace BK139 := bB BK139 hb; replace HK := Aside0.mk (Kept.below (S := (fun k_ => P0_ k_)) (by repeat (first | (with_reducible first | exact HK.out | apply Kept.alloc | apply Kept.drewN | apply Kept.drew | refine Kept.setCell ?_ (.inr GW139.out) _) | exact HK.out)) hb); replace HB := bW HB hb; (try clear hb); (try clear hb2); (try clear hk); (try clear hi); (try clear ho0); obtain ⟨Ao14, co14, eo14⟩ := Kd.R_slice HO145.out; subst eo14) | ((with_reducible refine gate_builtin (b := .append) (xs := #[.tmp 13, .tmp 16]) rfl ?_); at_builtin; refine Kd.R_append_rows (Kd.int .u8) (w0 := w0) w0.heap.size rfl (.tmp 13) (.tmp 16) 30 5 (.int .u8 0) 1 rfl Try.underlying30 info5 rfl (by decide) (by omega) v141 t140 t143 _ _ _ (fun k_ => (P0_ k_ ∨ w.heap.size ≤ k_) ∧ some k_ ≠ (.slice Ao14 t143.length co14 : Value).ownBlock) (fun _ => False) rfl rfl ?aO ?aR (fun _ _ h => h) (fun _ h => h.elim) ?aF ?aB ?aS ?aL ?_; (case aR => repeat (first | exact (Kd.R_reads' HO145.out).2.2 | (with_reducible refine Kd.C_alloc ?_ _) | (with_reducible refine Kd.C_drewN ?_ _) | (with_reducible refine Kd.C_drew ?_))); (case aB => exact (bC HB)); (case aF => exact (fun k_ hk => ⟨(.inr (Nat.le_trans (by first | exact HK.out.1 | exact (show Kept w _ (fun k_ => P0_ k_) from by repeat (first | (with_reducible first | exact HK.out | apply Kept.alloc | apply Kept.drewN | apply Kept.drew | refine Kept.setCell ?_ (.inr GW139.out) _) | exact HK.out)).1) hk)), Kd.fresh' (Kd.R_lt (by (with_reducible repeat (first | apply Kd.R_alloc | apply Kd.R_drewN | apply Kd.R_drew)); exact HO145.out)) k_ hk⟩)); (case aO => exact (by (with_reducible repeat (first | apply Kd.R_alloc | apply Kd.R_drewN | apply Kd.R_drew)); exact HO142.out)); (case aS => exact (below_size (bC HB))); (case aL => have := LMc6.out; omega); intro v147 w13 ho hb hg hat; rw [← Ny146.out] at ho; have HO148 := Aside0.mk (ho); replace BK139 := Aside0.mk (blk_grown (bQ BK139) hg (Kd.R_ne HO142.out BK139.out (by decide))); replace HO145 := Aside0.mk (Kd.R_after (ok := (fun k_ => (P0_ k_ ∨ w.heap.size ≤ k_))) (by (with_reducible repeat (first | apply Kd.R_alloc | apply Kd.R_drewN | apply Kd.R_drew)); exact Kd.R_mono HO145.out (fun _ hk => ⟨hk.1.1, hk.2⟩)) hg hat); replace HB := Aside0.mk (hb); replace HK := Aside0.mk (Kept.of_grown (S := (fun k_ => P0_ k_)) hg (by repeat (first | (with_reducible first | exact HK.out | apply Kept.alloc | apply Kept.drewN | apply Kept.drew | refine Kept.setCell ?_ (.inr GW139.out) _) | exact HK.out)) (fun k_ e_ => (HO142.out.1 k_ e_).1)); clear HO142; clear ho hb hg hat))
  go_ret
  exact ⟨_, by first | rfl | (simp [errW_none, errW_some] <;> rfl) | (simp [*, errW_none, errW_some] <;> rfl), by (with_reducible repeat (first | apply Kd.R_alloc | apply Kd.R_drewN | apply Kd.R_drew)); exact Kd.R_mono HO148.out (fun _ hk => hk.1), by repeat (first | (with_reducible first | exact HB.out | apply below_alloc | apply pw_below_drewN | apply below_drew1 | refine below_set ?_ GE139.out) | exact HB.out), by repeat (first | (with_reducible first | exact HK.out | apply Kept.alloc | apply Kept.drewN | apply Kept.drew | refine Kept.setCell ?_ (.inr GW139.out) _) | exact HK.out)⟩
 rw [if_neg c4] at H
 have c4b0 : (a1_0 == 1) = false := beq_eq_false_iff_ne.mpr c4
 have c4b1 : (a1_0 != 1) = true := bne_iff_ne.mpr c4
 by_cases c15 : a1_0 = 2
 rotate_left
 ·rw [if_neg c15] at H
  have c15b0 : (a1_0 == 2) = false := beq_eq_false_iff_ne.mpr c15
  have c15b1 : (a1_0 != 2) = true := bne_iff_ne.mpr c15
  obtain rfl := Option.some.inj H
  go_enter Try.func65, Try.ntmps65
  go_wp2_with (first | ((with_reducible refine gate_dst (N := 3) rfl ?_); refine box_event ?hg (N := 3) ?hd (cs := #[.int .i64 a1_0, .float .f64 a1_1, .string a1_2]) (t := 54) ?hr ?_; (case hd => rfl); (case hg => rfl); (case hr => first | (go_simp; done) | (go_simp; rfl)); intro gb139 hg w24 hbox hb; have BK139 := Aside0.mk (hbox); have GW139 := Aside0.mk ((by rw [hg]; exact (by first | exact HK.out.1 | exact (show Kept w _ (fun k_ => P0_ k_) from by repeat (first | (with_reducible first | exact HK.out | apply Kept.alloc | apply Kept.drewN | apply Kept.drew) | exact HK.out)).1) : w.heap.size ≤ gb139)); have GE139 := Aside0.mk ((by rw [hg]; exact (below_size (bC HB)) : w0.heap.size ≤ gb139)); replace HO0 := rB HO0 hb; replace HK := Aside0.mk (Kept.below (S := (fun k_ => P0_ k_)) (by repeat (first | (with_reducible first | exact HK.out | apply Kept.alloc | apply Kept.drewN | apply Kept.drew) | exact HK.out)) hb); replace HB := bW HB hb; clear hb hbox hg; obtain ⟨hcz25_0, hcz25_1, hcz25_2, hfz25_0, hfz25_1, hfz25_2⟩ := bf3 (w := w24) BK139; obtain ⟨Ao26, co26, eo26⟩ := Kd.R_slice HO0.out; subst eo26) | ((with_reducible refine gate_callee (f := 50) rfl ?_); refine gL (some 8) Try.func50 #[.slice Ao26 l0.length co26, .int .i64 a1_0] ?_; (with_reducible refine (num_Put.calls k (fun k_ => some k_ = (.slice Ao26 l0.length co26 : Value).ownBlock) (.slice Ao26 l0.length co26) l0 a1_0 t140 w0 _ ?side1 ?side2 A3.out).mono ?_); (case side1 => repeat (first | (with_reducible first | exact HB.out | apply below_alloc | apply pw_below_drewN | apply below_drew1 | refine below_set ?_ GE139.out) | exact HB.out)); (case side2 => exact Kd.R_tight rfl HO0.out); rintro e w27 ⟨v141, rfl, ho0, hb, hkp⟩; refine ⟨_, rfl, ?_⟩; have HO142 := Aside0.mk (Kd.R_mono (ok' := fun k_ => (P0_ k_ ∨ w.heap.size ≤ k_)) ho0 (fun k_ hk_ => Or.elim hk_ (fun hs_ => (HO0.out.1 k_ (hs_).symm)) (fun hn_ => (.inr (Nat.le_trans (by first | exact HK.out.1 | exact (show Kept w _ (fun k_ => P0_ k_) from by repeat (first | (with_reducible first | exact HK.out | apply Kept.alloc | apply Kept.drewN | apply Kept.drew | refine Kept.setCell ?_ (.inr GW139.out) _) | exact HK.out)).1) hn_))))); replace BK139 := Aside0.mk (blk_kept (bQ BK139) hkp (fun hs_ => (fun e_ => (Kd.R_ne HO0.out BK139.out (by decide)) e_) hs_)); replace HK := Aside0.mk (Kept.then_ (S := (fun k_ => P0_ k_)) (by repeat (first | (with_reducible first | exact HK.out | apply Kept.alloc | apply Kept.drewN | apply Kept.drew | refine Kept.setCell ?_ (.inr GW139.out) _) | exact HK.out)) hkp (fun k_ hs_ => (fun e_ => (HO0.out.1 k_ e_.symm)) hs_)); replace HB := Aside0.mk (hb); clear HO0; (try clear hb); (try clear hkp); (try clear ho0); obtain ⟨hcz28_0, hcz28_1, hcz28_2, hfz28_0, hfz28_1, hfz28_2⟩ := bf3 (w := w27) BK139))
  go_ret
  exact ⟨_, by first | rfl | (simp [errW_none, errW_some] <;> rfl) | (simp [*, errW_none, errW_some] <;> rfl), by (with_reducible repeat (first | apply Kd.R_alloc | apply Kd.R_drewN | apply Kd.R_drew)); exact HO142.out, by repeat (first | (with_reducible first | exact HB.out | apply below_alloc | apply pw_below_drewN | apply below_drew1 | refine below_set ?_ GE139.out) | exact HB.out), by repeat (first | (with_reducible first | exact HK.out | apply Kept.alloc | apply Kept.drewN | apply Kept.drew | refine Kept.setCell ?_ (.inr GW139.out) _) | exact HK.out)⟩
 rw [if_pos c15] at H
 have c15b0 : (a1_0 == 2) = true := beq_iff_eq.mpr c15
 have c15b1 : (a1_0 != 2) = false := bne_eq_false_iff_eq.mpr c15
 clear c15
 replace H := Option.bind_eq_some_iff.mp H
 obtain ⟨t149, A160, H⟩ := H
 replace H : (some t149) = some r := H
 have A16 := Aside0.mk A160
 clear A160
 obtain rfl := Option.some.inj H
 go_enter Try.func65, Try.ntmps65
 go_wp2_with (first | ((with_reducible refine gate_dst (N := 3) rfl ?_); refine box_event ?hg (N := 3) ?hd (cs := #[.int .i64 a1_0, .float .f64 a1_1, .string a1_2]) (t := 54) ?hr ?_; (case hd => rfl); (case hg => rfl); (case hr => first | (go_simp; done) | (go_simp; rfl)); intro gb139 hg w17 hbox hb; have BK139 := Aside0.mk (hbox); have GW139 := Aside0.mk ((by rw [hg]; exact (by first | exact HK.out.1 | exact (show Kept w _ (fun k_ => P0_ k_) from by repeat (first | (with_reducible first | exact HK.out | apply Kept.alloc | apply Kept.drewN | apply Kept.drew) | exact HK.out)).1) : w.heap.size ≤ gb139)); have GE139 := Aside0.mk ((by rw [hg]; exact (below_size (bC HB)) : w0.heap.size ≤ gb139)); replace HO0 := rB HO0 hb; replace HK := Aside0.mk (Kept.below (S := (fun k_ => P0_ k_)) (by repeat (first | (with_reducible first | exact HK.out | apply Kept.alloc | apply Kept.drewN | apply Kept.drew) | exact HK.out)) hb); replace HB := bW HB hb; clear hb hbox hg; obtain ⟨hcz18_0, hcz18_1, hcz18_2, hfz18_0, hfz18_1, hfz18_2⟩ := bf3 (w := w17) BK139; obtain ⟨Ao19, co19, eo19⟩ := Kd.R_slice HO0.out; subst eo19) | ((with_reducible refine gate_callee (f := 50) rfl ?_); refine gL (some 8) Try.func50 #[.slice Ao19 l0.length co19, .int .i64 a1_0] ?_; (with_reducible refine (num_Put.calls k (fun k_ => some k_ = (.slice Ao19 l0.length co19 : Value).ownBlock) (.slice Ao19 l0.length co19) l0 a1_0 t140 w0 _ ?side1 ?side2 A3.out).mono ?_); (case side1 => repeat (first | (with_reducible first | exact HB.out | apply below_alloc | apply pw_below_drewN | apply below_drew1 | refine below_set ?_ GE139.out) | exact HB.out)); (case side2 => exact Kd.R_tight rfl HO0.out); rintro e w20 ⟨v141, rfl, ho0, hb, hkp⟩; refine ⟨_, rfl, ?_⟩; have HO142 := Aside0.mk (Kd.R_mono (ok' := fun k_ => (P0_ k_ ∨ w.heap.size ≤ k_)) ho0 (fun k_ hk_ => Or.elim hk_ (fun hs_ => (HO0.out.1 k_ (hs_).symm)) (fun hn_ => (.inr (Nat.le_trans (by first | exact HK.out.1 | exact (show Kept w _ (fun k_ => P0_ k_) from by repeat (first | (with_reducible first | exact HK.out | apply Kept.alloc | apply Kept.drewN | apply Kept.drew | refine Kept.setCell ?_ (.inr GW139.out) _) | exact HK.out)).1) hn_))))); replace BK139 := Aside0.mk (blk_kept (bQ BK139) hkp (fun hs_ => (fun e_ => (Kd.R_ne HO0.out BK139.out (by decide)) e_) hs_)); replace HK := Aside0.mk (Kept.then_ (S := (fun k_ => P0_ k_)) (by repeat (first | (with_reducible first | exact HK.out | apply Kept.alloc | apply Kept.drewN | apply Kept.drew | refine Kept.setCell ?_ (.inr GW139.out) _) | exact HK.out)) hkp (fun k_ hs_ => (fun e_ => (HO0.out.1 k_ e_.symm)) hs_)); replace HB := Aside0.mk (hb); clear HO0; (try clear hb); (try clear hkp); (try clear ho0); obtain ⟨hcz21_0, hcz21_1, hcz21_2, hfz21_0, hfz21_1, hfz21_2⟩ := bf3 (w := w20) BK139; obtain ⟨Ao22, co22, eo22⟩ := Kd.R_slice HO142.out; subst eo22) | ((with_reducible refine gate_callee (f := 52) rfl ?_); refine gL (some 23) Try.func52 #[.slice Ao22 t140.length co22, .string a1_2] ?_; (with_reducible refine (num_PutText.calls k (fun k_ => some k_ = (.slice Ao22 t140.length co22 : Value).ownBlock) (.slice Ao22 t140.length co22) t140 a1_2 t149 w0 _ ?side1 ?side2 A16.out).mono ?_); (case side1 => repeat (first | (with_reducible first | exact HB.out | apply below_alloc | apply pw_below_drewN | apply below_drew1 | refine below_set ?_ GE139.out) | exact HB.out)); (case side2 => exact Kd.R_tight rfl HO142.out); rintro e w23 ⟨v150, rfl, ho0, hb, hkp⟩; refine ⟨_, rfl, ?_⟩; have HO151 := Aside0.mk (Kd.R_mono (ok' := fun k_ => (P0_ k_ ∨ w.heap.size ≤ k_)) ho0 (fun k_ hk_ => Or.elim hk_ (fun hs_ => (HO142.out.1 k_ (hs_).symm)) (fun hn_ => (.inr (Nat.le_trans (by first | exact HK.out.1 | exact (show Kept w _ (fun k_ => P0_ k_) from by repeat (first | (with_reducible first | exact HK.out | apply Kept.alloc | apply Kept.drewN | apply Kept.drew | refine Kept.setCell ?_ (.inr GW139.out) _) | exact HK.out)).1) hn_))))); replace BK139 := Aside0.mk (blk_kept (bQ BK139) hkp (fun hs_ => (fun e_ => (Kd.R_ne HO142.out BK139.out (by decide)) e_) hs_)); replace HK := Aside0.mk (Kept.then_ (S := (fun k_ => P0_ k_)) (by repeat (first | (with_reducible first | exact HK.out | apply Kept.alloc | apply Kept.drewN | apply Kept.drew | refine Kept.setCell ?_ (.inr GW139.out) _) | exact HK.out)) hkp (fun k_ hs_ => (fun e_ => (HO142.out.1 k_ e_.symm)) hs_)); replace HB := Aside0.mk (hb); clear HO142; (try clear hb); (try clear hkp); (try clear ho0)))
 go_ret
 exact ⟨_, by first | rfl | (simp [errW_none, errW_some] <;> rfl) | (simp [*, errW_none, errW_some] <;> rfl), by (with_reducible repeat (first | apply Kd.R_alloc | apply Kd.R_drewN | apply Kd.R_drew)); exact HO151.out, by repeat (first | (with_reducible first | exact HB.out | apply below_alloc | apply pw_below_drewN | apply below_drew1 | refine below_set ?_ GE139.out) | exact HB.out), by repeat (first | (with_reducible first | exact HK.out | apply Kept.alloc | apply Kept.drewN | apply Kept.drew | refine Kept.setCell ?_ (.inr GW139.out) _) | exact HK.out)⟩
def cell_Put.f (k : Nat) (l0 : List Int) (a1_0 : ByteArray) (a1_1 : Int) (a1_2 : Nat) (a1_3 : ByteArray) (a1_4 : Int) (a1_5 : Int) (a1_6 : Nat) (a1_7 : ByteArray) : Option (List Int) := (num_PutText.f k l0 a1_0).bind fun t153 => ((datum_Put.f k t153 a1_1 a1_2 a1_3).bind fun t156 => ((num_Put.f k t156 a1_4).bind fun t159 => (if a1_4 > 0 then ((datum_Put.f k t159 a1_5 a1_6 a1_7).bind fun t162 => (some t162)) else (some t159))))
theorem cell_Put.mono : ∀ a0 a1 a2 a3 a4 a5 a6 a7 a8 k, LeO (cell_Put.f k a0 a1 a2 a3 a4 a5 a6 a7 a8) (cell_Put.f (k + 1) a0 a1 a2 a3 a4 a5 a6 a7 a8) := by
 intro a0 a1 a2 a3 a4 a5 a6 a7 a8 k
 unfold cell_Put.f
 repeat' first
   | (with_reducible exact datum_Put.mono _ _ _ _ _)
   | (with_reducible exact num_Put.mono _ _ _)
   | (with_reducible exact num_PutText.mono _ _ _)
   | (with_reducible exact LeO.refl _)
   | (with_reducible exact LeO.none _)
   | (with_reducible refine LeO.ite ?_ ?_)
   | (with_reducible refine LeO.bind ?_ (fun _ => ?_))
   | exact datum_Put.mono _ _ _ _ _
   | exact num_Put.mono _ _ _
   | exact num_PutText.mono _ _ _
   | exact LeO.none _
   | refine LeO.ite ?_ ?_
   | refine LeO.bind ?_ (fun _ => ?_)
def cell_Put.T1 : Bool × List (List Nat × List Nat) := (true, [([], []), ([], []), ([1], [1]), ([0, 2], [0, 2]), ([], []), ([4], [4]), ([3, 5, 3], [3, 5]), ([], []), ([7], [7]), ([6, 8, 6], [6, 8]), ([9, 9, 0, 1, 2, 3, 4, 5, 6, 7, 8, 9], [0, 9])])
def cell_Put.B1 : List Nat := [0, 0, 2, 7, 0, 16, 63, 0, 128, 511, 1023]
theorem cell_Put.tab1 : rtab .any (opsOf Try.f51 1) = cell_Put.T1 := by kernel_rfl
theorem cell_Put.bits1 : waitsOk cell_Put.T1.2 cell_Put.B1 = true := by kernel_rfl
set_option maxHeartbeats 8000000 in
set_option maxRecDepth 100000 in
theorem cell_Put.calls (k : Nat) (P0_ : Nat → Prop) (u9000_ : Value) (l0 : List Int) (a1_0 : ByteArray) (a1_1 : Int) (a1_2 : Nat) (a1_3 : ByteArray) (a1_4 : Int) (a1_5 : Int) (a1_6 : Nat) (a1_7 : ByteArray) (r : List Int) (w0 w : World) (hB : Below w0.heap.size w0 w) (ho0 : Kd.R (Kd.int .u8) 5 w w0.heap.size P0_ u9000_ l0) (h : cell_Put.f k l0 a1_0 a1_1 a1_2 a1_3 a1_4 a1_5 a1_6 a1_7 = some r) :
  Calls Try.prog 51 #[u9000_, .agg #[.string a1_0, .int .i64 a1_1, .float .f64 a1_2, .string a1_3, .int .i64 a1_4, .int .i64 a1_5, .float .f64 a1_6, .string a1_7]] w fun e w' => ∃ v0_ : Value, e = .returned (v0_) ∧ Kd.R (Kd.int .u8) 5 w' w0.heap.size (fun k_ => (P0_ k_ ∨ w.heap.size ≤ k_)) v0_ r ∧ Below w0.heap.size w0 w' ∧ Kept w w' (fun k_ => P0_ k_) := by
 have hu62 := Try.underlying62
 have hu54 := Try.underlying54
 have HO0 := Aside0.mk (show Kd.R (Kd.int .u8) 5 w w0.heap.size (fun k_ => (P0_ k_ ∨ w.heap.size ≤ k_)) u9000_ l0 from Kd.R_mono ho0 (fun k_ hk => (.inl hk)))
 have HK := Aside0.mk (Kept.refl w (fun k_ => P0_ k_))
 have HW0 := Aside0.mk hB.size
 have HB := Aside0.mk hB
 clear hB
 have H : ((num_PutText.f k l0 a1_0).bind fun t153 => ((datum_Put.f k t153 a1_1 a1_2 a1_3).bind fun t156 => ((num_Put.f k t156 a1_4).bind fun t159 => (if a1_4 > 0 then ((datum_Put.f k t159 a1_5 a1_6 a1_7).bind fun t162 => (some t162)) else (some t159))))) = some r := h
 clear h
 replace H := Option.bind_eq_some_iff.mp H
 obtain ⟨t153, A30, H⟩ := H
 replace H : ((datum_Put.f k t153 a1_1 a1_2 a1_3).bind fun t156 => ((num_Put.f k t156 a1_4).bind fun t159 => (if a1_4 > 0 then ((datum_Put.f k t159 a1_5 a1_6 a1_7).bind fun t162 => (some t162)) else (some t159)))) = some r := H
 have A3 := Aside0.mk A30
 clear A30
 replace H := Option.bind_eq_some_iff.mp H
 obtain ⟨t156, A40, H⟩ := H
 replace H : ((num_Put.f k t156 a1_4).bind fun t159 => (if a1_4 > 0 then ((datum_Put.f k t159 a1_5 a1_6 a1_7).bind fun t162 => (some t162)) else (some t159))) = some r := H
 have A4 := Aside0.mk A40
 clear A40
 replace H := Option.bind_eq_some_iff.mp H
 obtain ⟨t159, A50, H⟩ := H
 replace H : (if a1_4 > 0 then ((datum_Put.f k t159 a1_5 a1_6 a1_7).bind fun t162 => (some t162)) else (some t159)) = some r := H
 have A5 := Aside0.mk A50
 clear A50
 by_cases c6 : a1_4 > 0
 rotate_left
 ·rw [if_neg c6] at H
  have c6b0 : decide (0 < a1_4) = false := decide_eq_false c6
  clear c6
  obtain rfl := Option.some.inj H
  go_enter Try.func51, Try.ntmps51
  try go_wp2_with (first | ((with_reducible refine gate_dst (N := 3) rfl ?_); refine box_event ?hg (N := 3) ?hd (cs := #[.string a1_0, .int .i64 a1_1, .float .f64 a1_2, .string a1_3, .int .i64 a1_4, .int .i64 a1_5, .float .f64 a1_6, .string a1_7]) (t := 62) ?hr ?_; (case hd => rfl); (case hg => rfl); (case hr => first | (go_simp; done) | (go_simp; rfl)); intro gb152 hg w19 hbox hb; have BK152 := Aside0.mk (hbox); have GW152 := Aside0.mk ((by rw [hg]; exact (by first | exact HK.out.1 | exact (show Kept w _ (fun k_ => P0_ k_) from by repeat (first | (with_reducible first | exact HK.out | apply Kept.alloc | apply Kept.drewN | apply Kept.drew) | exact HK.out)).1) : w.heap.size ≤ gb152)); have GE152 := Aside0.mk ((by rw [hg]; exact (below_size (bC HB)) : w0.heap.size ≤ gb152)); replace HO0 := rB HO0 hb; replace HK := Aside0.mk (Kept.below (S := (fun k_ => P0_ k_)) (by repeat (first | (with_reducible first | exact HK.out | apply Kept.alloc | apply Kept.drewN | apply Kept.drew) | exact HK.out)) hb); replace HB := bW HB hb; clear hb hbox hg))
  replace HO0 := Aside0.mk (Kd.R_drew HO0.out)
  replace BK152 := Aside0.mk (blk_drew BK152.out)
  replace HK := Aside0.mk (Kept.drew HK.out)
  replace HB := Aside0.mk (below_drew1 HB.out)
  obtain ⟨Ao21, co21, eo21⟩ := Kd.R_slice HO0.out
  (first | subst eo21 | (injection eo21 with f1_ f2_ f3_; have f4_ := f1_.symm; have f5_ := f3_.symm; clear f1_ f2_ f3_; subst f4_; subst f5_))
  refine start_ (n := 11) (S := fun w' => w'.cell? ⟨gb152, 0, none⟩ = some (.string a1_0) ∧ w'.cell? ⟨gb152, 1, none⟩ = some (.int .i64 a1_1) ∧ w'.cell? ⟨gb152, 2, none⟩ = some (.float .f64 a1_2) ∧ w'.cell? ⟨gb152, 3, none⟩ = some (.string a1_3) ∧ w'.cell? ⟨gb152, 4, none⟩ = some (.int .i64 a1_4) ∧ w'.cell? ⟨gb152, 5, none⟩ = some (.int .i64 a1_5) ∧ w'.cell? ⟨gb152, 6, none⟩ = some (.float .f64 a1_6) ∧ w'.cell? ⟨gb152, 7, none⟩ = some (.string a1_7)) (ds := []) #[false,false,false,false,false,false,false,false,false,false,false] (by kernel_rfl) rfl rfl (be8 BK152) (fun hHeld => ?_); refine with_tabW cell_Put.tab1 cell_Put.bits1 (fun HT_ HW_ => ?_)
  generalize w19.drew = w20 at HO0 BK152 HK HB hHeld ⊢
  refine pA 0 5 HT_ ?_
  refine pA 1 6 HT_ ?_
  refine pA 4 9 HT_ ?_
  refine pA 7 12 HT_ ?_
  refine tA 2 7 HT_ HW_ hHeld ?_ (hy := by rintro w' ⟨s0, s1, s2, s3, s4, s5, s6, s7⟩; go_simp; with_reducible rfl)
  refine tA 5 10 HT_ HW_ hHeld ?_ (hy := by rintro w' ⟨s0, s1, s2, s3, s4, s5, s6, s7⟩; go_simp; with_reducible rfl)
  refine tA 8 13 HT_ HW_ hHeld ?_ (hy := by rintro w' ⟨s0, s1, s2, s3, s4, s5, s6, s7⟩; go_simp; with_reducible rfl)
  refine oA 3 (some 8) HT_ (fun K hK => ?_)
  refine goes_ Try.func52 (by kernel_rfl) rfl #[.slice Ao21 l0.length co21, .string a1_0] (by rfl) rfl rfl (by (try simp only [List.map_toArray, List.map_cons, List.map_nil]); first | done | rfl | (simp only [List.length_drop, List.length_take]; rfl)) ?_
  with_reducible refine (num_PutText.calls k (fun k_ => some k_ = (.slice Ao21 l0.length co21 : Value).ownBlock) (.slice Ao21 l0.length co21) l0 a1_0 t153 w0 _ ?side1 ?side2 A3.out).mono ?_
  (case side1 => repeat (first | (with_reducible first | exact HB.out | apply below_alloc | apply pw_below_drewN | apply below_drew1 | refine below_set ?_ GE152.out) | exact HB.out))
  (case side2 => exact Kd.R_tight rfl HO0.out)
  rintro e w22 ⟨v154, rfl, ho0, hb, hkp⟩
  refine ⟨_, rfl, ?_⟩
  have HO155 := Aside0.mk (Kd.R_mono (ok' := fun k_ => (P0_ k_ ∨ w.heap.size ≤ k_)) ho0 (fun k_ hk_ => Or.elim hk_ (fun hs_ => (HO0.out.1 k_ (hs_).symm)) (fun hn_ => (.inr (Nat.le_trans (by first | exact HK.out.1 | exact (show Kept w _ (fun k_ => P0_ k_) from by repeat (first | (with_reducible first | exact HK.out | apply Kept.alloc | apply Kept.drewN | apply Kept.drew | refine Kept.setCell ?_ (.inr GW152.out) _) | exact HK.out)).1) hn_)))))
  replace BK152 := Aside0.mk (blk_kept (bQ BK152) hkp (fun hs_ => (fun e_ => (Kd.R_ne HO0.out BK152.out (by decide)) e_) hs_))
  replace HK := Aside0.mk (Kept.then_ (S := (fun k_ => P0_ k_)) (by repeat (first | (with_reducible first | exact HK.out | apply Kept.alloc | apply Kept.drewN | apply Kept.drew | refine Kept.setCell ?_ (.inr GW152.out) _) | exact HK.out)) hkp (fun k_ hs_ => (fun e_ => (HO0.out.1 k_ e_.symm)) hs_))
  replace HB := Aside0.mk (hb)
  clear HO0
  (try clear hb)
  (try clear hkp)
  (try clear ho0)
  obtain ⟨Ao23, co23, eo23⟩ := Kd.R_slice HO155.out
  (first | subst eo23 | (injection eo23 with f1_ f2_ f3_; have f4_ := f1_.symm; have f5_ := f3_.symm; clear f1_ f2_ f3_; subst f4_; subst f5_))
  refine hK.out _ _ (be8 BK152) (fun hHeld => ?_)
  clear hK K
  refine norm_ (a' := ?_) ?_ ?_
  rotate_left
  ·show Act.put _ (some 8) _ = _
   simp only [Act.put, List.setIfInBounds_toArray, List.set_cons_zero, List.set_cons_succ, i64_w, i32_w]
   rfl
  refine oA 6 (some 11) HT_ (fun K hK => ?_)
  refine goes_ Try.func65 (by kernel_rfl) rfl #[.slice Ao23 t153.length co23, .agg #[.int .i64 a1_1, .float .f64 a1_2, .string a1_3]] (by rfl) rfl rfl (by (try simp only [List.map_toArray, List.map_cons, List.map_nil]); first | done | rfl | (simp only [List.length_drop, List.length_take]; rfl)) ?_
  with_reducible refine (datum_Put.calls k (fun k_ => some k_ = (.slice Ao23 t153.length co23 : Value).ownBlock) (.slice Ao23 t153.length co23) t153 a1_1 a1_2 a1_3 t156 w0 _ ?side1 ?side2 A4.out).mono ?_
  (case side1 => repeat (first | (with_reducible first | exact HB.out | apply below_alloc | apply pw_below_drewN | apply below_drew1 | refine below_set ?_ GE152.out) | exact HB.out))
  (case side2 => exact Kd.R_tight rfl HO155.out)
  rintro e w24 ⟨v157, rfl, ho0, hb, hkp⟩
  refine ⟨_, rfl, ?_⟩
  have HO158 := Aside0.mk (Kd.R_mono (ok' := fun k_ => (P0_ k_ ∨ w.heap.size ≤ k_)) ho0 (fun k_ hk_ => Or.elim hk_ (fun hs_ => (HO155.out.1 k_ (hs_).symm)) (fun hn_ => (.inr (Nat.le_trans (by first | exact HK.out.1 | exact (show Kept w _ (fun k_ => P0_ k_) from by repeat (first | (with_reducible first | exact HK.out | apply Kept.alloc | apply Kept.drewN | apply Kept.drew | refine Kept.setCell ?_ (.inr GW152.out) _) | exact HK.out)).1) hn_)))))
  replace BK152 := Aside0.mk (blk_kept (bQ BK152) hkp (fun hs_ => (fun e_ => (Kd.R_ne HO155.out BK152.out (by decide)) e_) hs_))
  replace HK := Aside0.mk (Kept.then_ (S := (fun k_ => P0_ k_)) (by repeat (first | (with_reducible first | exact HK.out | apply Kept.alloc | apply Kept.drewN | apply Kept.drew | refine Kept.setCell ?_ (.inr GW152.out) _) | exact HK.out)) hkp (fun k_ hs_ => (fun e_ => (HO155.out.1 k_ e_.symm)) hs_))
  replace HB := Aside0.mk (hb)
  clear HO155
  (try clear hb)
  (try clear hkp)
  (try clear ho0)
  obtain ⟨Ao25, co25, eo25⟩ := Kd.R_slice HO158.out
  (first | subst eo25 | (injection eo25 with f1_ f2_ f3_; have f4_ := f1_.symm; have f5_ := f3_.symm; clear f1_ f2_ f3_; subst f4_; subst f5_))
  refine hK.out _ _ (be8 BK152) (fun hHeld => ?_)
  clear hK K
  refine norm_ (a' := ?_) ?_ ?_
  rotate_left
  ·show Act.put _ (some 11) _ = _
   simp only [Act.put, List.setIfInBounds_toArray, List.set_cons_zero, List.set_cons_succ, i64_w, i32_w]
   rfl
  refine oA 9 (some 14) HT_ (fun K hK => ?_)
  refine goes_ Try.func50 (by kernel_rfl) rfl #[.slice Ao25 t156.length co25, .int .i64 a1_4] (by rfl) rfl rfl (by (try simp only [List.map_toArray, List.map_cons, List.map_nil]); first | done | rfl | (simp only [List.length_drop, List.length_take]; rfl)) ?_
  with_reducible refine (num_Put.calls k (fun k_ => some k_ = (.slice Ao25 t156.length co25 : Value).ownBlock) (.slice Ao25 t156.length co25) t156 a1_4 t159 w0 _ ?side1 ?side2 A5.out).mono ?_
  (case side1 => repeat (first | (with_reducible first | exact HB.out | apply below_alloc | apply pw_below_drewN | apply below_drew1 | refine below_set ?_ GE152.out) | exact HB.out))
  (case side2 => exact Kd.R_tight rfl HO158.out)
  rintro e w26 ⟨v160, rfl, ho0, hb, hkp⟩
  refine ⟨_, rfl, ?_⟩
  have HO161 := Aside0.mk (Kd.R_mono (ok' := fun k_ => (P0_ k_ ∨ w.heap.size ≤ k_)) ho0 (fun k_ hk_ => Or.elim hk_ (fun hs_ => (HO158.out.1 k_ (hs_).symm)) (fun hn_ => (.inr (Nat.le_trans (by first | exact HK.out.1 | exact (show Kept w _ (fun k_ => P0_ k_) from by repeat (first | (with_reducible first | exact HK.out | apply Kept.alloc | apply Kept.drewN | apply Kept.drew | refine Kept.setCell ?_ (.inr GW152.out) _) | exact HK.out)).1) hn_)))))
  replace BK152 := Aside0.mk (blk_kept (bQ BK152) hkp (fun hs_ => (fun e_ => (Kd.R_ne HO158.out BK152.out (by decide)) e_) hs_))
  replace HK := Aside0.mk (Kept.then_ (S := (fun k_ => P0_ k_)) (by repeat (first | (with_reducible first | exact HK.out | apply Kept.alloc | apply Kept.drewN | apply Kept.drew | refine Kept.setCell ?_ (.inr GW152.out) _) | exact HK.out)) hkp (fun k_ hs_ => (fun e_ => (HO158.out.1 k_ e_.symm)) hs_))
  replace HB := Aside0.mk (hb)
  clear HO158
  (try clear hb)
  (try clear hkp)
  (try clear ho0)
  refine hK.out _ _ (be8 BK152) (fun hHeld => ?_)
  clear hK K
  refine norm_ (a' := ?_) ?_ ?_
  rotate_left
  ·show Act.put _ (some 14) _ = _
   simp only [Act.put, List.setIfInBounds_toArray, List.set_cons_zero, List.set_cons_succ, i64_w, i32_w]
   rfl
  refine pA 10 0 HT_ ?_
  refine done_ (done_of HT_.out (by kernel_rfl)) ?_
  obtain ⟨hcz27_0, hcz27_1, hcz27_2, hcz27_3, hcz27_4, hcz27_5, hcz27_6, hcz27_7, hfz27_0, hfz27_1, hfz27_2, hfz27_3, hfz27_4, hfz27_5, hfz27_6, hfz27_7⟩ := bf8 (w := w26) BK152
  try go_wp2
  go_ret
  exact ⟨_, by first | rfl | (simp [errW_none, errW_some] <;> rfl) | (simp [*, errW_none, errW_some] <;> rfl), by (with_reducible repeat (first | apply Kd.R_alloc | apply Kd.R_drewN | apply Kd.R_drew)); exact HO161.out, by repeat (first | (with_reducible first | exact HB.out | apply below_alloc | apply pw_below_drewN | apply below_drew1 | refine below_set ?_ GE152.out) | exact HB.out), by repeat (first | (with_reducible first | exact HK.out | apply Kept.alloc | apply Kept.drewN | apply Kept.drew | refine Kept.setCell ?_ (.inr GW152.out) _) | exact HK.out)⟩
 rw [if_pos c6] at H
 have c6b0 : decide (0 < a1_4) = true := decide_eq_true c6
 clear c6
 replace H := Option.bind_eq_some_iff.mp H
 obtain ⟨t162, A70, H⟩ := H
 replace H : (some t162) = some r := H
 have A7 := Aside0.mk A70
 clear A70
 obtain rfl := Option.some.inj H
 go_enter Try.func51, Try.ntmps51
 try go_wp2_with (first | ((with_reducible refine gate_dst (N := 3) rfl ?_); refine box_event ?hg (N := 3) ?hd (cs := #[.string a1_0, .int .i64 a1_1, .float .f64 a1_2, .string a1_3, .int .i64 a1_4, .int .i64 a1_5, .float .f64 a1_6, .string a1_7]) (t := 62) ?hr ?_; (case hd => rfl); (case hg => rfl); (case hr => first | (go_simp; done) | (go_simp; rfl)); intro gb152 hg w8 hbox hb; have BK152 := Aside0.mk (hbox); have GW152 := Aside0.mk ((by rw [hg]; exact (by first | exact HK.out.1 | exact (show Kept w _ (fun k_ => P0_ k_) from by repeat (first | (with_reducible first | exact HK.out | apply Kept.alloc | apply Kept.drewN | apply Kept.drew) | exact HK.out)).1) : w.heap.size ≤ gb152)); have GE152 := Aside0.mk ((by rw [hg]; exact (below_size (bC HB)) : w0.heap.size ≤ gb152)); replace HO0 := rB HO0 hb; replace HK := Aside0.mk (Kept.below (S := (fun k_ => P0_ k_)) (by repeat (first | (with_reducible first | exact HK.out | apply Kept.alloc | apply Kept.drewN | apply Kept.drew) | exact HK.out)) hb); replace HB := bW HB hb; clear hb hbox hg))
 replace HO0 := Aside0.mk (Kd.R_drew HO0.out)
 replace BK152 := Aside0.mk (blk_drew BK152.out)
 replace HK := Aside0.mk (Kept.drew HK.out)
 replace HB := Aside0.mk (below_drew1 HB.out)
 obtain ⟨Ao10, co10, eo10⟩ := Kd.R_slice HO0.out
 (first | subst eo10 | (injection eo10 with f1_ f2_ f3_; have f4_ := f1_.symm; have f5_ := f3_.symm; clear f1_ f2_ f3_; subst f4_; subst f5_))
 refine start_ (n := 11) (S := fun w' => w'.cell? ⟨gb152, 0, none⟩ = some (.string a1_0) ∧ w'.cell? ⟨gb152, 1, none⟩ = some (.int .i64 a1_1) ∧ w'.cell? ⟨gb152, 2, none⟩ = some (.float .f64 a1_2) ∧ w'.cell? ⟨gb152, 3, none⟩ = some (.string a1_3) ∧ w'.cell? ⟨gb152, 4, none⟩ = some (.int .i64 a1_4) ∧ w'.cell? ⟨gb152, 5, none⟩ = some (.int .i64 a1_5) ∧ w'.cell? ⟨gb152, 6, none⟩ = some (.float .f64 a1_6) ∧ w'.cell? ⟨gb152, 7, none⟩ = some (.string a1_7)) (ds := []) #[false,false,false,false,false,false,false,false,false,false,false] (by kernel_rfl) rfl rfl (be8 BK152) (fun hHeld => ?_); refine with_tabW cell_Put.tab1 cell_Put.bits1 (fun HT_ HW_ => ?_)
 generalize w8.drew = w9 at HO0 BK152 HK HB hHeld ⊢
 refine pA 0 5 HT_ ?_
 refine pA 1 6 HT_ ?_
 refine pA 4 9 HT_ ?_
 refine pA 7 12 HT_ ?_
 refine tA 2 7 HT_ HW_ hHeld ?_ (hy := by rintro w' ⟨s0, s1, s2, s3, s4, s5, s6, s7⟩; go_simp; with_reducible rfl)
 refine tA 5 10 HT_ HW_ hHeld ?_ (hy := by rintro w' ⟨s0, s1, s2, s3, s4, s5, s6, s7⟩; go_simp; with_reducible rfl)
 refine tA 8 13 HT_ HW_ hHeld ?_ (hy := by rintro w' ⟨s0, s1, s2, s3, s4, s5, s6, s7⟩; go_simp; with_reducible rfl)
 refine oA 3 (some 8) HT_ (fun K hK => ?_)
 refine goes_ Try.func52 (by kernel_rfl) rfl #[.slice Ao10 l0.length co10, .string a1_0] (by rfl) rfl rfl (by (try simp only [List.map_toArray, List.map_cons, List.map_nil]); first | done | rfl | (simp only [List.length_drop, List.length_take]; rfl)) ?_
 with_reducible refine (num_PutText.calls k (fun k_ => some k_ = (.slice Ao10 l0.length co10 : Value).ownBlock) (.slice Ao10 l0.length co10) l0 a1_0 t153 w0 _ ?side1 ?side2 A3.out).mono ?_
 (case side1 => repeat (first | (with_reducible first | exact HB.out | apply below_alloc | apply pw_below_drewN | apply below_drew1 | refine below_set ?_ GE152.out) | exact HB.out))
 (case side2 => exact Kd.R_tight rfl HO0.out)
 rintro e w11 ⟨v154, rfl, ho0, hb, hkp⟩
 refine ⟨_, rfl, ?_⟩
 have HO155 := Aside0.mk (Kd.R_mono (ok' := fun k_ => (P0_ k_ ∨ w.heap.size ≤ k_)) ho0 (fun k_ hk_ => Or.elim hk_ (fun hs_ => (HO0.out.1 k_ (hs_).symm)) (fun hn_ => (.inr (Nat.le_trans (by first | exact HK.out.1 | exact (show Kept w _ (fun k_ => P0_ k_) from by repeat (first | (with_reducible first | exact HK.out | apply Kept.alloc | apply Kept.drewN | apply Kept.drew | refine Kept.setCell ?_ (.inr GW152.out) _) | exact HK.out)).1) hn_)))))
 replace BK152 := Aside0.mk (blk_kept (bQ BK152) hkp (fun hs_ => (fun e_ => (Kd.R_ne HO0.out BK152.out (by decide)) e_) hs_))
 replace HK := Aside0.mk (Kept.then_ (S := (fun k_ => P0_ k_)) (by repeat (first | (with_reducible first | exact HK.out | apply Kept.alloc | apply Kept.drewN | apply Kept.drew | refine Kept.setCell ?_ (.inr GW152.out) _) | exact HK.out)) hkp (fun k_ hs_ => (fun e_ => (HO0.out.1 k_ e_.symm)) hs_))
 replace HB := Aside0.mk (hb)
 clear HO0
 (try clear hb)
 (try clear hkp)
 (try clear ho0)
 obtain ⟨Ao12, co12, eo12⟩ := Kd.R_slice HO155.out
 (first | subst eo12 | (injection eo12 with f1_ f2_ f3_; have f4_ := f1_.symm; have f5_ := f3_.symm; clear f1_ f2_ f3_; subst f4_; subst f5_))
 refine hK.out _ _ (be8 BK152) (fun hHeld => ?_)
 clear hK K
 refine norm_ (a' := ?_) ?_ ?_
 rotate_left
 ·show Act.put _ (some 8) _ = _
  simp only [Act.put, List.setIfInBounds_toArray, List.set_cons_zero, List.set_cons_succ, i64_w, i32_w]
  rfl
 refine oA 6 (some 11) HT_ (fun K hK => ?_)
 refine goes_ Try.func65 (by kernel_rfl) rfl #[.slice Ao12 t153.length co12, .agg #[.int .i64 a1_1, .float .f64 a1_2, .string a1_3]] (by rfl) rfl rfl (by (try simp only [List.map_toArray, List.map_cons, List.map_nil]); first | done | rfl | (simp only [List.length_drop, List.length_take]; rfl)) ?_
 with_reducible refine (datum_Put.calls k (fun k_ => some k_ = (.slice Ao12 t153.length co12 : Value).ownBlock) (.slice Ao12 t153.length co12) t153 a1_1 a1_2 a1_3 t156 w0 _ ?side1 ?side2 A4.out).mono ?_
 (case side1 => repeat (first | (with_reducible first | exact HB.out | apply below_alloc | apply pw_below_drewN | apply below_drew1 | refine below_set ?_ GE152.out) | exact HB.out))
 (case side2 => exact Kd.R_tight rfl HO155.out)
 rintro e w13 ⟨v157, rfl, ho0, hb, hkp⟩
 refine ⟨_, rfl, ?_⟩
 have HO158 := Aside0.mk (Kd.R_mono (ok' := fun k_ => (P0_ k_ ∨ w.heap.size ≤ k_)) ho0 (fun k_ hk_ => Or.elim hk_ (fun hs_ => (HO155.out.1 k_ (hs_).symm)) (fun hn_ => (.inr (Nat.le_trans (by first | exact HK.out.1 | exact (show Kept w _ (fun k_ => P0_ k_) from by repeat (first | (with_reducible first | exact HK.out | apply Kept.alloc | apply Kept.drewN | apply Kept.drew | refine Kept.setCell ?_ (.inr GW152.out) _) | exact HK.out)).1) hn_)))))
 replace BK152 := Aside0.mk (blk_kept (bQ BK152) hkp (fun hs_ => (fun e_ => (Kd.R_ne HO155.out BK152.out (by decide)) e_) hs_))
 replace HK := Aside0.mk (Kept.then_ (S := (fun k_ => P0_ k_)) (by repeat (first | (with_reducible first | exact HK.out | apply Kept.alloc | apply Kept.drewN | apply Kept.drew | refine Kept.setCell ?_ (.inr GW152.out) _) | exact HK.out)) hkp (fun k_ hs_ => (fun e_ => (HO155.out.1 k_ e_.symm)) hs_))
 replace HB := Aside0.mk (hb)
 clear HO155
 (try clear hb)
 (try clear hkp)
 (try clear ho0)
 obtain ⟨Ao14, co14, eo14⟩ := Kd.R_slice HO158.out
 (first | subst eo14 | (injection eo14 with f1_ f2_ f3_; have f4_ := f1_.symm; have f5_ := f3_.symm; clear f1_ f2_ f3_; subst f4_; subst f5_))
 refine hK.out _ _ (be8 BK152) (fun hHeld => ?_)
 clear hK K
 refine norm_ (a' := ?_) ?_ ?_
 rotate_left
 ·show Act.put _ (some 11) _ = _
  simp only [Act.put, List.setIfInBounds_toArray, List.set_cons_zero, List.set_cons_succ, i64_w, i32_w]
  rfl
 refine oA 9 (some 14) HT_ (fun K hK => ?_)
 refine goes_ Try.func50 (by kernel_rfl) rfl #[.slice Ao14 t156.length co14, .int .i64 a1_4] (by rfl) rfl rfl (by (try simp only [List.map_toArray, List.map_cons, List.map_nil]); first | done | rfl | (simp only [List.length_drop, List.length_take]; rfl)) ?_
 with_reducible refine (num_Put.calls k (fun k_ => some k_ = (.slice Ao14 t156.length co14 : Value).ownBlock) (.slice Ao14 t156.length co14) t156 a1_4 t159 w0 _ ?side1 ?side2 A5.out).mono ?_
 (case side1 => repeat (first | (with_reducible first | exact HB.out | apply below_alloc | apply pw_below_drewN | apply below_drew1 | refine below_set ?_ GE152.out) | exact HB.out))
 (case side2 => exact Kd.R_tight rfl HO158.out)
 rintro e w15 ⟨v160, rfl, ho0, hb, hkp⟩
 refine ⟨_, rfl, ?_⟩
 have HO161 := Aside0.mk (Kd.R_mono (ok' := fun k_ => (P0_ k_ ∨ w.heap.size ≤ k_)) ho0 (fun k_ hk_ => Or.elim hk_ (fun hs_ => (HO158.out.1 k_ (hs_).symm)) (fun hn_ => (.inr (Nat.le_trans (by first | exact HK.out.1 | exact (show Kept w _ (fun k_ => P0_ k_) from by repeat (first | (with_reducible first | exact HK.out | apply Kept.alloc | apply Kept.drewN | apply Kept.drew | refine Kept.setCell ?_ (.inr GW152.out) _) | exact HK.out)).1) hn_)))))
 replace BK152 := Aside0.mk (blk_kept (bQ BK152) hkp (fun hs_ => (fun e_ => (Kd.R_ne HO158.out BK152.out (by decide)) e_) hs_))
 replace HK := Aside0.mk (Kept.then_ (S := (fun k_ => P0_ k_)) (by repeat (first | (with_reducible first | exact HK.out | apply Kept.alloc | apply Kept.drewN | apply Kept.drew | refine Kept.setCell ?_ (.inr GW152.out) _) | exact HK.out)) hkp (fun k_ hs_ => (fun e_ => (HO158.out.1 k_ e_.symm)) hs_))
 replace HB := Aside0.mk (hb)
 clear HO158
 (try clear hb)
 (try clear hkp)
 (try clear ho0)
 refine hK.out _ _ (be8 BK152) (fun hHeld => ?_)
 clear hK K
 refine norm_ (a' := ?_) ?_ ?_
 rotate_left
 ·show Act.put _ (some 14) _ = _
  simp only [Act.put, List.setIfInBounds_toArray, List.set_cons_zero, List.set_cons_succ, i64_w, i32_w]
  rfl
 refine pA 10 0 HT_ ?_
 refine done_ (done_of HT_.out (by kernel_rfl)) ?_
 obtain ⟨hcz16_0, hcz16_1, hcz16_2, hcz16_3, hcz16_4, hcz16_5, hcz16_6, hcz16_7, hfz16_0, hfz16_1, hfz16_2, hfz16_3, hfz16_4, hfz16_5, hfz16_6, hfz16_7⟩ := bf8 (w := w15) BK152
 obtain ⟨Ao17, co17, eo17⟩ := Kd.R_slice HO161.out
 subst eo17
 try go_wp2_with (first | ((with_reducible refine gate_callee (f := 65) rfl ?_); refine gL (some 21) Try.func65 #[.slice Ao17 t159.length co17, .agg #[.int .i64 a1_5, .float .f64 a1_6, .string a1_7]] ?_; (with_reducible refine (datum_Put.calls k (fun k_ => some k_ = (.slice Ao17 t159.length co17 : Value).ownBlock) (.slice Ao17 t159.length co17) t159 a1_5 a1_6 a1_7 t162 w0 _ ?side1 ?side2 A7.out).mono ?_); (case side1 => repeat (first | (with_reducible first | exact HB.out | apply below_alloc | apply pw_below_drewN | apply below_drew1 | refine below_set ?_ GE152.out) | exact HB.out)); (case side2 => exact Kd.R_tight rfl HO161.out); rintro e w18 ⟨v163, rfl, ho0, hb, hkp⟩; refine ⟨_, rfl, ?_⟩; have HO164 := Aside0.mk (Kd.R_mono (ok' := fun k_ => (P0_ k_ ∨ w.heap.size ≤ k_)) ho0 (fun k_ hk_ => Or.elim hk_ (fun hs_ => (HO161.out.1 k_ (hs_).symm)) (fun hn_ => (.inr (Nat.le_trans (by first | exact HK.out.1 | exact (show Kept w _ (fun k_ => P0_ k_) from by repeat (first | (with_reducible first | exact HK.out | apply Kept.alloc | apply Kept.drewN | apply Kept.drew | refine Kept.setCell ?_ (.inr GW152.out) _) | exact HK.out)).1) hn_))))); replace BK152 := Aside0.mk (blk_kept (bQ BK152) hkp (fun hs_ => (fun e_ => (Kd.R_ne HO161.out BK152.out (by decide)) e_) hs_)); replace HK := Aside0.mk (Kept.then_ (S := (fun k_ => P0_ k_)) (by repeat (first | (with_reducible first | exact HK.out | apply Kept.alloc | apply Kept.drewN | apply Kept.drew | refine Kept.setCell ?_ (.inr GW152.out) _) | exact HK.out)) hkp (fun k_ hs_ => (fun e_ => (HO161.out.1 k_ e_.symm)) hs_)); replace HB := Aside0.mk (hb); clear HO161; (try clear hb); (try clear hkp); (try clear ho0)))
 go_ret
 exact ⟨_, by first | rfl | (simp [errW_none, errW_some] <;> rfl) | (simp [*, errW_none, errW_some] <;> rfl), by (with_reducible repeat (first | apply Kd.R_alloc | apply Kd.R_drewN | apply Kd.R_drew)); exact HO164.out, by repeat (first | (with_reducible first | exact HB.out | apply below_alloc | apply pw_below_drewN | apply below_drew1 | refine below_set ?_ GE152.out) | exact HB.out), by repeat (first | (with_reducible first | exact HK.out | apply Kept.alloc | apply Kept.drewN | apply Kept.drew | refine Kept.setCell ?_ (.inr GW152.out) _) | exact HK.out)⟩
end Go.Proofs.Ytmmjpieafbjggaa.P
end
