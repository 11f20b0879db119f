/- The law NodeAny returns true for every input: the words, the walks and the plain statement that its row needs. No condition. (Merged by a program of this session out of its own texts.) -/
import Derived.Laws.BitsAllLaws
import Derived.ArgAppend
import Derived.Below
import Derived.BigQuiet
import Derived.Deep.AppendLies
import Derived.Deep.CutBlock
import Derived.Deep.DeepCutAuto
import Derived.Deep.Draws
import Derived.Deep.LoopGhost
import Derived.Deep.OwnRows
import Derived.Deep.QuietTactic
import Derived.Deep.RegionHeld3
import Derived.KernelRfl
import Derived.Laws.BitsLemmas
import Derived.Laws.BytesArg
import Derived.Laws.IdiomCopy
import Derived.Laws.MakeOwn
import Derived.Laws.OwnMore
import Derived.Laws.Rows
import Derived.Laws.Slices
import Derived.Lib.AppendStr
import Derived.Lib.ConvBytes
import Derived.Maps.AppendAt
import Derived.OrdersHeld
import Derived.OwnWalk
import Derived.RowKit
import Derived.RowKit3
import Derived.Tactics
import Derived.WalkKit
import Derived.WideLaws
import Derived.Test.YtmmjpieafbjggaaQNodeAny2
section
set_option linter.unusedVariables false
set_option linter.unusedSimpArgs false
namespace Go.Proofs.Ytmmjpieafbjggaa.Pure
open Go.RowKit Go.Proofs.YtmmjpieafbjggaaW.PrintWords Go.Proofs.YtmmjpieafbjggaaW.PrintLast
/-- The n low bytes of u, the highest first. -/
def be:Nat→Nat→List Int
  | 0,_=>[]
  | n+1,u=>((u / 256 ^ n % 256:Nat):Int) :: be n u
theorem be_len (n u:Nat):(be n u).length=n:=by
  induction n with
  | zero=>rfl
  | succ n ih=>simp [be,ih]
theorem be_bytes (n u:Nat):∀ c∈be n u,0≤c∧c≤255:=by
  induction n with
  | zero=>intro c hc;cases hc
  | succ n ih =>
    intro c hc
    rcases List.mem_cons.1 hc with hc|hc
    · omega
    · exact ih c hc
/-- Back: the number of some bytes. -/
def unbe (l:List Int):Nat:=l.foldl (fun u c=>u * 256+c.toNat) 0
theorem foldl_unbe (l:List Int):∀ u:Nat,l.foldl (fun u c=>u * 256+c.toNat) u=u * 256 ^ l.length+unbe l:=by
  induction l with
  | nil=>intro u;simp [unbe]
  | cons c l ih =>
    intro u
    unfold unbe
    rw [List.foldl_cons,List.foldl_cons,ih,ih (0 * 256+c.toNat),List.length_cons,Nat.pow_succ]
    generalize 256 ^ l.length=p
    rw [Nat.add_mul,Nat.mul_assoc,Nat.mul_comm 256 p,Nat.zero_mul,Nat.zero_add,Nat.add_assoc]
theorem unbe_cons (c:Int) (l:List Int):unbe (c :: l)=c.toNat * 256 ^ l.length+unbe l:=by
  unfold unbe
  rw [List.foldl_cons,foldl_unbe]
  unfold unbe
  rw [Nat.zero_mul,Nat.zero_add]
theorem unbe_lt {l:List Int} (h:∀ c∈l,0≤c∧c≤255):unbe l<256 ^ l.length:=by
  induction l with
  | nil=>simp [unbe]
  | cons c l ih =>
    rw [unbe_cons,List.length_cons,Nat.pow_succ]
    have h1:=h c (by simp)
    have h2:=ih (fun d hd=>h d (by simp [hd]))
    have h3:c.toNat * 256 ^ l.length≤255 * 256 ^ l.length:=Nat.mul_le_mul_right _ (by omega)
    omega
end Go.Proofs.Ytmmjpieafbjggaa.Pure
end
section
set_option linter.unusedVariables false
set_option linter.unusedSimpArgs false
namespace Go.Proofs.Ytmmjpieafbjggaa.Pure
open Go.RowKit Go.Proofs.YtmmjpieafbjggaaW.PrintWords Go.Proofs.YtmmjpieafbjggaaW.PrintLast
/-- A number's place among the naturals: 0, -1, 1, -2, .. -/
def zz (n:Int):Nat:=if n<0 then (-2 * n - 1).toNat else (2 * n).toNat
/-- Back. -/
def unz (u:Nat):Int:=if u % 2=1 then -((u / 2:Nat):Int) - 1 else ((u / 2:Nat):Int)
theorem zz_lt {n:Int} (h:(Lit.int .i64 n).wf=true):zz n<18446744073709551616:=by
  have h1:-9223372036854775808≤n∧n≤9223372036854775807:=by simpa [Lit.wf,IntKind.min,IntKind.max,IntKind.signed,IntKind.bits] using h
  unfold zz
  split <;> omega
/-- The bytes of a natural number. -/
def enc (u:Nat):List Int:=if h:u<128 then [(u:Int)] else ((u % 128+128:Nat):Int) :: enc (u / 128)
termination_by u
theorem enc_lo {u:Nat} (h:u<128):enc u = [(u:Int)]:=by rw [enc,dif_pos h]
theorem enc_hi {u:Nat} (h:¬ u<128):enc u=((u % 128+128:Nat):Int) :: enc (u / 128):=by rw [enc,dif_neg h]
theorem enc_len (d:Nat):∀ u,u<128 ^ (d+1)→(enc u).length≤d+1∧1≤(enc u).length:=by
  induction d with
  | zero=>intro u h;rw [enc_lo (by simpa using h)];simp
  | succ d ih =>
    intro u h
    by_cases hu:u<128
    · rw [enc_lo hu];simp
    · rw [enc_hi hu]
      have:=ih (u / 128) (by rw [Nat.div_lt_iff_lt_mul (by omega)];rw [Nat.pow_succ] at h;exact h)
      simp only [List.length_cons]
      omega
theorem enc_bytes (d:Nat):∀ u,u<128 ^ (d+1)→∀ c∈enc u,0≤c∧c≤255:=by
  induction d with
  | zero =>
    intro u h c hc
    rw [enc_lo (by simpa using h)] at hc
    simp at hc h
    omega
  | succ d ih =>
    intro u h c hc
    by_cases hu:u<128
    · rw [enc_lo hu] at hc
      simp at hc
      omega
    · rw [enc_hi hu] at hc
      rcases List.mem_cons.1 hc with hc|hc
      · omega
      · exact ih (u / 128) (by rw [Nat.div_lt_iff_lt_mul (by omega)];rw [Nat.pow_succ] at h;exact h) c hc
theorem lt64 {u:Nat} (h:u<18446744073709551616):u<128 ^ (9+1):=Nat.lt_trans h (by decide)
/-- What the first bytes say: a number, how many bytes, what went wrong (1: no number's, 2: more is wanted). -/
def getL:Nat→Nat→List Int→Int × Int × Int
  | _,_,[]=>(0,0,2)
  | i,u,c :: cs =>
    if i=9∧c>1 then (0,0,1)
    else if c>127 then getL (i+1) (u+(c % 128).toNat * 128 ^ i) cs
    else if i>0∧c=0 then (0,0,1)
    else (unz (u+(c % 128).toNat * 128 ^ i),(i:Int)+1,0)
/-- A number's bytes, and back. -/
def putN (n:Int):List Int:=enc (zz n)
def getN (l:List Int):Int × Int × Int:=getL 0 0 l
theorem putN_len {n:Int} (h:(Lit.int .i64 n).wf=true):(putN n).length≤10∧1≤(putN n).length:=enc_len 9 _ (lt64 (zz_lt h))
theorem putN_bytes {n:Int} (h:(Lit.int .i64 n).wf=true):∀ c∈putN n,0≤c∧c≤255:=enc_bytes 9 _ (lt64 (zz_lt h))
/-- What getL answers lies within what it read. -/
theorem getL_in (l:List Int):∀ (i u:Nat),(getL i u l).2.2=0→(i:Int)+1≤(getL i u l).2.1∧(getL i u l).2.1≤(i:Int)+l.length:=by
  induction l with
  | nil=>intro i u h;simp [getL] at h
  | cons c cs ih =>
    intro i u h
    simp only [getL] at h ⊢
    split
    · rename_i h9;rw [if_pos h9] at h;simp at h
    · rename_i h9
      rw [if_neg h9] at h
      split
      · rename_i h1
        rw [if_pos h1] at h
        have:=ih _ _ h
        simp only [List.length_cons]
        omega
      · rename_i h1
        rw [if_neg h1] at h
        split
        · rename_i h2;rw [if_pos h2] at h;simp at h
        · simp only [List.length_cons];omega
theorem getN_in {l:List Int} (h:(getN l).2.2=0):1≤(getN l).2.1∧(getN l).2.1≤l.length:=by
  have:=getL_in l 0 0 h
  unfold getN
  omega
/-- A text's bytes, and back. -/
def putS (s:ByteArray):List Int:=putN (s.size:Int)++bytesOf s
def getS (l:List Int):ByteArray × Int × Int :=
  if (getN l).2.2≠0 then ((⟨#[]⟩:ByteArray),0,(getN l).2.2)
  else if (getN l).1<0∨(getN l).1>65536 then ((⟨#[]⟩:ByteArray),0,1)
  else if (getN l).1>(l.length:Int) - (getN l).2.1 then ((⟨#[]⟩:ByteArray),0,2)
  else (strOfNums ((l.take ((getN l).2.1+(getN l).1).toNat).drop (getN l).2.1.toNat),(getN l).2.1+(getN l).1,0)
theorem size_wf {s:ByteArray} (h:s.size≤65536):(Lit.int .i64 (s.size:Int)).wf=true:=by
  simp [Lit.wf,IntKind.min,IntKind.max,IntKind.signed,IntKind.bits];omega
theorem bytesOf_len (s:ByteArray):(bytesOf s).length=s.size:=bytesOf_length s
end Go.Proofs.Ytmmjpieafbjggaa.Pure
end
