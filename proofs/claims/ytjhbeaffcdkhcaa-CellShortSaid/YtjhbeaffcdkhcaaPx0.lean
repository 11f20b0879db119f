/- Functions of the program as Lean functions, and that each call answers as its function does. No condition. (Lines written by a generator of this session.) -/
import Derived.Test.YtjhbeaffcdkhcaaProg
import Derived.Below
import Derived.Deep.Draws
import Derived.Deep.AppendLies
import Derived.Maps.AppendAt
import Derived.OwnWalk
import Derived.Laws.BytesArg
import Derived.Laws.MakeOwn
import Derived.Laws.OwnMore
import Derived.Deep.OwnRows
import Derived.Tactics
import Derived.Lib.ConvBytes
import Derived.Laws.Slices
import Derived.WalkKit
import Derived.KernelRfl
import Derived.RowKit3
import Derived.Deep.LoopGhost
import Derived.Deep.QuietTactic
import Derived.BigQuiet
import Derived.WideLaws
import Derived.Deep.DeepCutAuto
import Derived.Deep.CutBlock
import Derived.Deep.RegionHeld3
import Derived.Laws.Rows
import Derived.Lib.AppendStr
import Derived.ArgAppend
import Derived.Laws.IdiomCopy
import Derived.OrdersHeld
import Derived.Laws.BitsLemmas
import Derived.RowKit
import Derived.Test.YtjhbeaffcdkhcaaXE
import Derived.Test.YtjhbeaffcdkhcaaWWords
import Derived.Test.YtjhbeaffcdkhcaaWLast
import Derived.Test.YtjhbeaffcdkhcaaWTab
import Derived.Test.YtjhbeaffcdkhcaaWFour
import Derived.Test.YtjhbeaffcdkhcaaWQPut
import Derived.Test.YtjhbeaffcdkhcaaWApart
import Derived.Test.YtjhbeaffcdkhcaaWArr
import Derived.Test.YtjhbeaffcdkhcaaWZeros
import Derived.Test.YtjhbeaffcdkhcaaWFoot
import Derived.Test.YtjhbeaffcdkhcaaWKept
import Derived.Test.YtjhbeaffcdkhcaaWShare
import Derived.Test.YtjhbeaffcdkhcaaWN
import Derived.Test.YtjhbeaffcdkhcaaWFootNe
import Derived.Test.YtjhbeaffcdkhcaaWAt
import Derived.Test.YtjhbeaffcdkhcaaWEqStruct
import Derived.Test.YtjhbeaffcdkhcaaWRepsOne
import Derived.Test.YtjhbeaffcdkhcaaWInv
import Derived.Test.YtjhbeaffcdkhcaaWInvWords
import Derived.Test.YtjhbeaffcdkhcaaWGuard
import Derived.Test.YtjhbeaffcdkhcaaWNEv
import Derived.Test.YtjhbeaffcdkhcaaWMore
import Derived.Test.YtjhbeaffcdkhcaaXWords
namespace Go.Proofs.Ytjhbeaffcdkhcaa.P
open Go.RowKit Go.Proofs.YtjhbeaffcdkhcaaW.PrintWords Go.Proofs.YtjhbeaffcdkhcaaW.PrintLast Go.Proofs.YtjhbeaffcdkhcaaW.PrintMore
attribute [local go_sem] max2_int min2_int max_two min_two max_three min_three max_four min_four   -- for this text's walks alone
attribute [local go_sem] x_str_gtr x_str_leq x_str_geq ext_bits ext_frombits ext_neg x_store_float Instr.field asAgg
set_option linter.unusedVariables false
set_option linter.unusedSimpArgs false



def errW : Option Int → Value
  | none => .nilIface
  | some c => .iface 0 (.int .i64 c)
theorem errW_none : errW none = .nilIface := rfl
theorem errW_some (c : Int) : errW (some c) = .iface 0 (.int .i64 c) := rfl

theorem info5 : (Try.prog.info? 5).map (fun i => (i.zero, i.size, i.bytes)) = some (some (.int .u8 0), 1, 1) := by kernel_rfl
theorem info26 : (Try.prog.info? 26).map (fun i => (i.zero, i.size, i.bytes)) = some (some (.agg #[(.string ⟨#[]⟩), (.int .i64 0), (.float .f64 0), (.string ⟨#[]⟩), (.int .i64 0), (.int .i64 0), (.float .f64 0), (.string ⟨#[]⟩)]), 8, 88) := by kernel_rfl
-- the values' own types
/-! #### struct type 24 -/
structure S24 where
  f0 : Int
  f1 : Nat
  f2 : ByteArray
def z24 : S24 := ⟨(0 : Int), (0 : Nat), (⟨#[]⟩ : ByteArray)⟩
def wf24 (x : S24) : Prop := (Lit.int .i64 x.f0).wf = true ∧ x.f1 < 18446744073709551616 ∧ x.f2.size ≤ 9223372036854775807
def k24 : Kd S24 := Kd.iso (Kd.pair (Kd.int .i64) (Kd.pair Kd.float Kd.string)) (fun x : S24 => (x.f0, x.f1, x.f2))
theorem k24_heap : Kd.Heap k24 := Kd.heap_iso _ (Kd.heap_pair (Kd.heap_int .i64) (Kd.heap_pair Kd.heap_float Kd.heap_string))
theorem k24_open {w : World} {x : S24} {cs : List Value} (h : k24.K w x cs) : cs = [.int .i64 x.f0, .float .f64 x.f1, .string x.f2] := by
  obtain ⟨_, _, rfl, rfl, ⟨_, _, rfl, rfl, rfl⟩⟩ := h
  exact rfl
theorem k24_openM {w : World} {base : Nat} {ok : Nat → Prop} {x : S24} {cs : List Value} (h : k24.M w base ok x cs) : cs = [.int .i64 x.f0, .float .f64 x.f1, .string x.f2] := by
  obtain ⟨_, _, rfl, rfl, ⟨_, _, rfl, rfl, rfl⟩⟩ := h
  exact rfl
theorem k24_mk (w : World) (x : S24)  : k24.K w x [.int .i64 x.f0, .float .f64 x.f1, .string x.f2] := ⟨[.int .i64 x.f0], [.float .f64 x.f1, .string x.f2], rfl, rfl, ⟨[.float .f64 x.f1], [.string x.f2], rfl, rfl, rfl⟩⟩
theorem k24_mkM (w : World) (base : Nat) (ok : Nat → Prop) (x : S24)  : k24.M w base ok x [.int .i64 x.f0, .float .f64 x.f1, .string x.f2] := ⟨[.int .i64 x.f0], [.float .f64 x.f1, .string x.f2], rfl, rfl, ⟨[.float .f64 x.f1], [.string x.f2], rfl, rfl, rfl⟩⟩
theorem k24_mkF (W : World) (ok : Nat → Prop) (x : S24) : Kd.FK k24 W ok x [.int .i64 x.f0, .float .f64 x.f1, .string x.f2] := fun W2 _ => k24_mk W2 x
def rd_T24 (xs : List S24) (i : Int) : S24 := xs.getD i.toNat z24
theorem at_T24 {w : World} {A : Option Addr} {n : Nat} {xs : List S24} (h : Kd.C k24 w A n xs) (i : Int) (h0 : 0 ≤ i) (h1 : i < n) : ∃ ad , A = some ad ∧ w.cell? (ad.add (i.toNat * 3)) = some (.int .i64 (rd_T24 xs i).f0) ∧ w.cell? ⟨(ad.add (i.toNat * 3)).block, (ad.add (i.toNat * 3)).off + 1, none⟩ = some (.float .f64 (rd_T24 xs i).f1) ∧ w.cell? ⟨(ad.add (i.toNat * 3)).block, (ad.add (i.toNat * 3)).off + 2, none⟩ = some (.string (rd_T24 xs i).f2) := by
  obtain ⟨ad, c, e, _, hK, hc0⟩ := Kd.C_get h z24 i h0 h1
  have hc : ∀ j u, c[j]? = some u → w.cell? (ad.add (i.toNat * 3 + j)) = some u := hc0
  obtain rfl := k24_open hK
  exact ⟨ad, e, hc 0 _ rfl, by rw [← add_field _ _ 1 (by omega)]; exact hc 1 _ rfl, by rw [← add_field _ _ 2 (by omega)]; exact hc 2 _ rfl⟩

/-! #### struct type 26 -/
structure S26 where
  f0 : ByteArray
  f1 : S24
  f2 : Int
  f3 : S24
def z26 : S26 := ⟨(⟨#[]⟩ : ByteArray), z24, (0 : Int), z24⟩
def wf26 (x : S26) : Prop := x.f0.size ≤ 9223372036854775807 ∧ wf24 (x.f1) ∧ (Lit.int .i64 x.f2).wf = true ∧ wf24 (x.f3)
def k26 : Kd S26 := Kd.iso (Kd.pair Kd.string (Kd.pair k24 (Kd.pair (Kd.int .i64) k24))) (fun x : S26 => (x.f0, x.f1, x.f2, x.f3))
theorem k26_heap : Kd.Heap k26 := Kd.heap_iso _ (Kd.heap_pair Kd.heap_string (Kd.heap_pair k24_heap (Kd.heap_pair (Kd.heap_int .i64) k24_heap)))
theorem k26_open {w : World} {x : S26} {cs : List Value} (h : k26.K w x cs) : cs = [.string x.f0, .int .i64 x.f1.f0, .float .f64 x.f1.f1, .string x.f1.f2, .int .i64 x.f2, .int .i64 x.f3.f0, .float .f64 x.f3.f1, .string x.f3.f2] := by
  obtain ⟨_, _, rfl, rfl, ⟨_, _, rfl, s1, ⟨_, _, rfl, rfl, s5⟩⟩⟩ := h
  obtain rfl := k24_open s1
  obtain rfl := k24_open s5
  exact rfl
theorem k26_openM {w : World} {base : Nat} {ok : Nat → Prop} {x : S26} {cs : List Value} (h : k26.M w base ok x cs) : cs = [.string x.f0, .int .i64 x.f1.f0, .float .f64 x.f1.f1, .string x.f1.f2, .int .i64 x.f2, .int .i64 x.f3.f0, .float .f64 x.f3.f1, .string x.f3.f2] := by
  obtain ⟨_, _, rfl, rfl, ⟨_, _, rfl, s1, ⟨_, _, rfl, rfl, s5⟩⟩⟩ := h
  obtain rfl := k24_openM s1
  obtain rfl := k24_openM s5
  exact rfl
theorem k26_mk (w : World) (x : S26)  : k26.K w x [.string x.f0, .int .i64 x.f1.f0, .float .f64 x.f1.f1, .string x.f1.f2, .int .i64 x.f2, .int .i64 x.f3.f0, .float .f64 x.f3.f1, .string x.f3.f2] := ⟨[.string x.f0], [.int .i64 x.f1.f0, .float .f64 x.f1.f1, .string x.f1.f2, .int .i64 x.f2, .int .i64 x.f3.f0, .float .f64 x.f3.f1, .string x.f3.f2], rfl, rfl, ⟨[.int .i64 x.f1.f0, .float .f64 x.f1.f1, .string x.f1.f2], [.int .i64 x.f2, .int .i64 x.f3.f0, .float .f64 x.f3.f1, .string x.f3.f2], rfl, (k24_mk w x.f1 ), ⟨[.int .i64 x.f2], [.int .i64 x.f3.f0, .float .f64 x.f3.f1, .string x.f3.f2], rfl, rfl, (k24_mk w x.f3 )⟩⟩⟩
theorem k26_mkM (w : World) (base : Nat) (ok : Nat → Prop) (x : S26)  : k26.M w base ok x [.string x.f0, .int .i64 x.f1.f0, .float .f64 x.f1.f1, .string x.f1.f2, .int .i64 x.f2, .int .i64 x.f3.f0, .float .f64 x.f3.f1, .string x.f3.f2] := ⟨[.string x.f0], [.int .i64 x.f1.f0, .float .f64 x.f1.f1, .string x.f1.f2, .int .i64 x.f2, .int .i64 x.f3.f0, .float .f64 x.f3.f1, .string x.f3.f2], rfl, rfl, ⟨[.int .i64 x.f1.f0, .float .f64 x.f1.f1, .string x.f1.f2], [.int .i64 x.f2, .int .i64 x.f3.f0, .float .f64 x.f3.f1, .string x.f3.f2], rfl, (k24_mkM w base ok x.f1 ), ⟨[.int .i64 x.f2], [.int .i64 x.f3.f0, .float .f64 x.f3.f1, .string x.f3.f2], rfl, rfl, (k24_mkM w base ok x.f3 )⟩⟩⟩
theorem k26_mkF (W : World) (ok : Nat → Prop) (x : S26) : Kd.FK k26 W ok x [.string x.f0, .int .i64 x.f1.f0, .float .f64 x.f1.f1, .string x.f1.f2, .int .i64 x.f2, .int .i64 x.f3.f0, .float .f64 x.f3.f1, .string x.f3.f2] := fun W2 _ => k26_mk W2 x
def rd_T26 (xs : List S26) (i : Int) : S26 := xs.getD i.toNat z26
theorem at_T26 {w : World} {A : Option Addr} {n : Nat} {xs : List S26} (h : Kd.C k26 w A n xs) (i : Int) (h0 : 0 ≤ i) (h1 : i < n) : ∃ ad , A = some ad ∧ w.cell? (ad.add (i.toNat * 8)) = some (.string (rd_T26 xs i).f0) ∧ w.cell? ⟨(ad.add (i.toNat * 8)).block, (ad.add (i.toNat * 8)).off + 1, none⟩ = some (.int .i64 (rd_T26 xs i).f1.f0) ∧ w.cell? ⟨(ad.add (i.toNat * 8)).block, (ad.add (i.toNat * 8)).off + 2, none⟩ = some (.float .f64 (rd_T26 xs i).f1.f1) ∧ w.cell? ⟨(ad.add (i.toNat * 8)).block, (ad.add (i.toNat * 8)).off + 3, none⟩ = some (.string (rd_T26 xs i).f1.f2) ∧ w.cell? ⟨(ad.add (i.toNat * 8)).block, (ad.add (i.toNat * 8)).off + 4, none⟩ = some (.int .i64 (rd_T26 xs i).f2) ∧ w.cell? ⟨(ad.add (i.toNat * 8)).block, (ad.add (i.toNat * 8)).off + 5, none⟩ = some (.int .i64 (rd_T26 xs i).f3.f0) ∧ w.cell? ⟨(ad.add (i.toNat * 8)).block, (ad.add (i.toNat * 8)).off + 6, none⟩ = some (.float .f64 (rd_T26 xs i).f3.f1) ∧ w.cell? ⟨(ad.add (i.toNat * 8)).block, (ad.add (i.toNat * 8)).off + 7, none⟩ = some (.string (rd_T26 xs i).f3.f2) := by
  obtain ⟨ad, c, e, _, hK, hc0⟩ := Kd.C_get h z26 i h0 h1
  have hc : ∀ j u, c[j]? = some u → w.cell? (ad.add (i.toNat * 8 + j)) = some u := hc0
  obtain rfl := k26_open hK
  exact ⟨ad, e, hc 0 _ rfl, by rw [← add_field _ _ 1 (by omega)]; exact hc 1 _ rfl, by rw [← add_field _ _ 2 (by omega)]; exact hc 2 _ rfl, by rw [← add_field _ _ 3 (by omega)]; exact hc 3 _ rfl, by rw [← add_field _ _ 4 (by omega)]; exact hc 4 _ rfl, by rw [← add_field _ _ 5 (by omega)]; exact hc 5 _ rfl, by rw [← add_field _ _ 6 (by omega)]; exact hc 6 _ rfl, by rw [← add_field _ _ 7 (by omega)]; exact hc 7 _ rfl⟩

end Go.Proofs.Ytjhbeaffcdkhcaa.P
