/- The law NodeOrder returns true for every input: the words, the walks and the plain statement that its row needs. No condition. (Merged by a program of this session out of its own texts.) -/
import Derived.Laws.BitsAllLaws
import Derived.ArgAppend
import Derived.Below
import Derived.BigQuiet
import Derived.Deep.AppendLies
import Derived.Deep.CutBlock
import Derived.Deep.DeepCutAuto
import Derived.Deep.Draws
import Derived.Deep.LoopGhost
import Derived.Deep.OwnRows
import Derived.Deep.QuietTactic
import Derived.Deep.RegionHeld3
import Derived.KernelRfl
import Derived.Laws.BitsLemmas
import Derived.Laws.BytesArg
import Derived.Laws.IdiomCopy
import Derived.Laws.MakeOwn
import Derived.Laws.OwnMore
import Derived.Laws.Rows
import Derived.Laws.Slices
import Derived.Lib.AppendStr
import Derived.Lib.ConvBytes
import Derived.Maps.AppendAt
import Derived.OrdersHeld
import Derived.OwnWalk
import Derived.RowKit
import Derived.RowKit3
import Derived.Tactics
import Derived.WalkKit
import Derived.WideLaws
import Derived.Test.YtmmjpieafbjggaaQNodeOrder2
section
set_option linter.unusedVariables false
set_option linter.unusedSimpArgs false
namespace Go.Proofs.Ytmmjpieafbjggaa.Pure
open Go.RowKit Go.Proofs.YtmmjpieafbjggaaW.PrintWords Go.Proofs.YtmmjpieafbjggaaW.PrintLast
/-- The n low bytes of u, the highest first. -/
def be:Nat→Nat→List Int
  | 0,_=>[]
  | n+1,u=>((u / 256 ^ n % 256:Nat):Int) :: be n u
theorem be_len (n u:Nat):(be n u).length=n:=by
  induction n with
  | zero=>rfl
  | succ n ih=>simp [be,ih]
theorem be_bytes (n u:Nat):∀ c∈be n u,0≤c∧c≤255:=by
  induction n with
  | zero=>intro c hc;cases hc
  | succ n ih =>
    intro c hc
    rcases List.mem_cons.1 hc with hc|hc
    · omega
    · exact ih c hc
end Go.Proofs.Ytmmjpieafbjggaa.Pure
end
section
set_option linter.unusedVariables false
set_option linter.unusedSimpArgs false
namespace Go.Proofs.Ytmmjpieafbjggaa.Pure
open Go.RowKit Go.Proofs.YtmmjpieafbjggaaW.PrintWords Go.Proofs.YtmmjpieafbjggaaW.PrintLast
/-- A number's place among the naturals: 0, -1, 1, -2, .. -/
def zz (n:Int):Nat:=if n<0 then (-2 * n - 1).toNat else (2 * n).toNat
theorem zz_lt {n:Int} (h:(Lit.int .i64 n).wf=true):zz n<18446744073709551616:=by
  have h1:-9223372036854775808≤n∧n≤9223372036854775807:=by simpa [Lit.wf,IntKind.min,IntKind.max,IntKind.signed,IntKind.bits] using h
  unfold zz
  split <;> omega
/-- The bytes of a natural number. -/
def enc (u:Nat):List Int:=if h:u<128 then [(u:Int)] else ((u % 128+128:Nat):Int) :: enc (u / 128)
termination_by u
theorem enc_lo {u:Nat} (h:u<128):enc u = [(u:Int)]:=by rw [enc,dif_pos h]
theorem enc_hi {u:Nat} (h:¬ u<128):enc u=((u % 128+128:Nat):Int) :: enc (u / 128):=by rw [enc,dif_neg h]
theorem enc_len (d:Nat):∀ u,u<128 ^ (d+1)→(enc u).length≤d+1∧1≤(enc u).length:=by
  induction d with
  | zero=>intro u h;rw [enc_lo (by simpa using h)];simp
  | succ d ih =>
    intro u h
    by_cases hu:u<128
    · rw [enc_lo hu];simp
    · rw [enc_hi hu]
      have:=ih (u / 128) (by rw [Nat.div_lt_iff_lt_mul (by omega)];rw [Nat.pow_succ] at h;exact h)
      simp only [List.length_cons]
      omega
theorem enc_bytes (d:Nat):∀ u,u<128 ^ (d+1)→∀ c∈enc u,0≤c∧c≤255:=by
  induction d with
  | zero =>
    intro u h c hc
    rw [enc_lo (by simpa using h)] at hc
    simp at hc h
    omega
  | succ d ih =>
    intro u h c hc
    by_cases hu:u<128
    · rw [enc_lo hu] at hc
      simp at hc
      omega
    · rw [enc_hi hu] at hc
      rcases List.mem_cons.1 hc with hc|hc
      · omega
      · exact ih (u / 128) (by rw [Nat.div_lt_iff_lt_mul (by omega)];rw [Nat.pow_succ] at h;exact h) c hc
theorem lt64 {u:Nat} (h:u<18446744073709551616):u<128 ^ (9+1):=Nat.lt_trans h (by decide)
/-- A number's bytes, and back. -/
def putN (n:Int):List Int:=enc (zz n)
theorem putN_len {n:Int} (h:(Lit.int .i64 n).wf=true):(putN n).length≤10∧1≤(putN n).length:=enc_len 9 _ (lt64 (zz_lt h))
theorem putN_bytes {n:Int} (h:(Lit.int .i64 n).wf=true):∀ c∈putN n,0≤c∧c≤255:=enc_bytes 9 _ (lt64 (zz_lt h))
/-- A text's bytes, and back. -/
def putS (s:ByteArray):List Int:=putN (s.size:Int)++bytesOf s
theorem size_wf {s:ByteArray} (h:s.size≤65536):(Lit.int .i64 (s.size:Int)).wf=true:=by
  simp [Lit.wf,IntKind.min,IntKind.max,IntKind.signed,IntKind.bits];omega
theorem bytesOf_len (s:ByteArray):(bytesOf s).length=s.size:=bytesOf_length s
end Go.Proofs.Ytmmjpieafbjggaa.Pure
end
