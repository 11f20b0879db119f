/- The law NodeOrder returns true for every input: the words, the walks and the plain statement that its row needs. No condition. (Merged by a program of this session out of its own texts.) -/
import Derived.ArgAppend
import Derived.Below
import Derived.BigQuiet
import Derived.Deep.AppendLies
import Derived.Deep.CutBlock
import Derived.Deep.DeepCutAuto
import Derived.Deep.Draws
import Derived.Deep.LoopGhost
import Derived.Deep.OwnRows
import Derived.Deep.QuietTactic
import Derived.Deep.RegionHeld3
import Derived.KernelRfl
import Derived.Laws.BitsAllLaws
import Derived.Laws.BitsLemmas
import Derived.Laws.BytesArg
import Derived.Laws.Cover2
import Derived.Laws.Externs
import Derived.Laws.FloatArith
import Derived.Laws.IdiomCopy
import Derived.Laws.MakeOwn
import Derived.Laws.OwnMore
import Derived.Laws.Rows
import Derived.Laws.Slices
import Derived.Laws.StructEq
import Derived.Lib.AppendStr
import Derived.Lib.ConvBytes
import Derived.Maps.AppendAt
import Derived.OrdersHeld
import Derived.OwnWalk
import Derived.RowKit
import Derived.RowKit3
import Derived.Tactics
import Derived.Test.YtmmjpieafbjggaaProg
import Derived.WalkKit
import Derived.WideLaws
import Derived.Test.YtmmjpieafbjggaaQNodeOrder2
import Derived.Test.YtmmjpieafbjggaaQNodeOrder3
import Derived.Test.YtmmjpieafbjggaaQNodeOrder4
import Derived.Test.YtmmjpieafbjggaaQNodeOrder5
import Derived.Test.YtmmjpieafbjggaaQNodeOrder6
import Derived.Test.YtmmjpieafbjggaaQNodeOrder7
import Derived.Test.YtmmjpieafbjggaaQNodeOrder8
section
set_option linter.unusedVariables false
set_option linter.unusedSimpArgs false
namespace Go.Proofs.Ytmmjpieafbjggaa.Pure
open Go.RowKit Go.Proofs.Ytmmjpieafbjggaa.P Go.Proofs.YtmmjpieafbjggaaW.PrintWords Go.Proofs.YtmmjpieafbjggaaW.PrintLast Go.Proofs.YtmmjpieafbjggaaW.PrintMore
theorem clean_is (a:Nat):float_Clean.f a=some (if 9218868437227405312<a % 9223372036854775808 then 9221120237041090560 else a):=by
  unfold float_Clean.f math_IsNaN.f
  rw [self_ne]
  simp only [Option.bind_some,decide_eq_true_eq]
  split <;> rfl
theorem expo (a:Nat):a &&& 9218868437227405312=a % 9223372036854775808 / 4503599627370496 * 4503599627370496:=nat_midmask 63 52 a (by decide)
theorem rnan_is {a:Nat} (h:a<18446744073709551616):engrossref1_NaN.f a=some (decide (9218868437227405312<a % 9223372036854775808)):=by
  unfold engrossref1_NaN.f
  have e1:Go.bits .and .u64 (a:Int) 9218868437227405312=((a % 9223372036854775808 / 4503599627370496 * 4503599627370496:Nat):Int):=by
    have:=u64_and_nat a 9218868437227405312 h (by decide)
    rw [expo] at this
    exact this
  have e2:Go.bits .and .u64 (a:Int) 4503599627370495=((a % 4503599627370496:Nat):Int):=by
    have:=u64_and_nat a 4503599627370495 h (by decide)
    rw [nat_mask52] at this
    exact this
  rw [e1,e2]
  clear e1 e2
  by_cases h1:((a % 9223372036854775808 / 4503599627370496 * 4503599627370496:Nat):Int)=9218868437227405312
  · rw [if_pos h1]
    congr 1
    rw [Bool.eq_iff_iff]
    simp only [bne_iff_ne,ne_eq,decide_eq_true_eq]
    omega
  · rw [if_neg h1]
    congr 1
    rw [Bool.eq_iff_iff]
    simp only [Bool.false_eq_true,false_iff,decide_eq_true_eq]
    omega
theorem rclean_is {a:Nat} (h:a<18446744073709551616):engrossref1_Clean.f a=some (if 9218868437227405312<a % 9223372036854775808 then 9221120237041090560 else a):=by
  unfold engrossref1_Clean.f
  rw [rnan_is h]
  simp only [Option.bind_some,decide_eq_true_eq]
  split <;> rfl
theorem w64' {x:Int} (h:-9223372036854775808≤x∧x≤9223372036854775807):wrap64 x=x:=by unfold wrap64;omega
theorem not64' {a:Nat} (h1:a<18446744073709551616):Go.bits .xor .u64 18446744073709551615 (a:Int)=((18446744073709551615 - a:Nat):Int):=by
  have:=u64_xor_nat 18446744073709551615 a (by decide) h1
  have e2:18446744073709551615 ^^^ a=18446744073709551615 - a:=by
    rw [Nat.xor_comm]
    have e3:(18446744073709551615:Nat)=2 ^ 64 - 1:=rfl
    rw [e3]
    apply Nat.eq_of_testBit_eq
    intro i
    rw [Nat.testBit_xor,Nat.testBit_two_pow_sub_one]
    have hs:2 ^ 64 - 1 - a=2 ^ 64 - (a+1):=by omega
    rw [hs,Nat.testBit_two_pow_sub_succ (by omega)]
    by_cases h:i<64
    · simp [h]
    · have:a.testBit i=false:=Nat.testBit_lt_two_pow (Nat.lt_of_lt_of_le (show a<2 ^ 64 by omega) (Nat.pow_le_pow_right (by omega) (by omega)))
      simp [h,this]
  rw [e2] at this
  exact this
theorem and63 {a:Nat} (h:a<18446744073709551616):Go.bits .and .u64 (a:Int) 9223372036854775808=if a<9223372036854775808 then 0 else 9223372036854775808:=by
  have:=u64_and_nat a 9223372036854775808 h (by decide)
  rw [nat_hi64_63] at this
  have e:Go.bits .and .u64 (a:Int) 9223372036854775808=((a % 18446744073709551616 / 9223372036854775808 * 9223372036854775808:Nat):Int):=this
  rw [e]
  split <;> omega
theorem or63 {a:Nat} (h:a<9223372036854775808):Go.bits .or .u64 (a:Int) 9223372036854775808=((a+9223372036854775808:Nat):Int):=by
  have:=u64_or_nat a 9223372036854775808 (by omega) (by decide)
  have e:a ||| 9223372036854775808=a+9223372036854775808:=by
    rw [Nat.or_comm,nat_join 63 9223372036854775808 a (by decide) (by exact h),Nat.add_comm]
  rw [e] at this
  exact this
/-- A float's place in the order: 0: a NaN. -/
def pl (a:Nat):Nat:=if 9218868437227405312<a % 9223372036854775808 then 0 else if a<9223372036854775808 then a+9223372036854775808 else 18446744073709551615 - a
theorem place_is {a:Nat} (h:a<18446744073709551616):float_place.f a=some ((pl a:Nat):Int):=by
  unfold float_place.f math_IsNaN.f pl
  rw [self_ne]
  simp only [Option.bind_some,decide_eq_true_eq]
  by_cases hn:9218868437227405312<a % 9223372036854775808
  · rw [if_pos hn,if_pos hn];rfl
  · rw [if_neg hn,if_neg hn,and63 h]
    by_cases hs:a<9223372036854775808
    · rw [if_pos hs,if_pos rfl,if_pos hs,or63 hs]
    · rw [if_neg hs,if_neg (by decide),if_neg hs,not64' h]
theorem shr_is (u:Nat) {d:Nat} (hd:d≤7) {y:Int} (hy:y=8 * (d:Int)):shr .u64 (u:Int) y=((u / 256 ^ d:Nat):Int):=by
  subst hy
  unfold shr
  have e1:min (8 * (d:Int)).toNat (IntKind.bits .u64)=8 * d:=by
    simp only [IntKind.bits]
    omega
  rw [e1]
  have e2:(2:Int) ^ (8 * d)=((256 ^ d:Nat):Int):=by
    rw [Int.pow_mul,Int.natCast_pow]
    rfl
  rw [e2]
  rfl
theorem bytes_l0 (u:Nat) (d:Nat):∀ (k i:Nat) (acc:List Int),i+d=8→d<k→acc.length=i→float_Bytes.l0 k (u:Int) acc (i:Int)=some (acc++be d u):=by
  induction d with
  | zero =>
    intro k i acc hi hk ha
    obtain⟨k,rfl⟩:∃ m,k=m+1:=⟨k - 1,by omega⟩
    simp only [float_Bytes.l0]
    rw [if_neg (by omega)]
    simp [be]
  | succ d ih =>
    intro k i acc hi hk ha
    obtain⟨k,rfl⟩:∃ m,k=m+1:=⟨k - 1,by omega⟩
    simp only [float_Bytes.l0]
    rw [w64' (x:=7 - (i:Int)) (by omega),w64' (x:=8 * (7 - (i:Int))) (by omega),if_pos (by omega),if_pos (by omega),if_pos (by omega),shr_is u (d:=d) (by omega) (by omega),w64' (x:=(i:Int)+1) (by omega),show (i:Int)+1=((i+1:Nat):Int) from rfl]
    rw [ih k (i+1) _ (by omega) (by omega) (by simp only [List.length_append,List.length_cons,List.length_nil];omega),List.append_assoc]
    rfl
theorem bytes_is {a:Nat} (h:a<18446744073709551616) {k:Nat} (hk:10≤k):float_Bytes.f k a=some (be 8 (pl a)):=by
  unfold float_Bytes.f
  rw [place_is h]
  simp only [Option.bind_some]
  exact bytes_l0 (pl a) 8 k 0 [] (by omega) (by omega) rfl
theorem bits_is (a b:Nat):engrossref1_Bits.f a b=some (decide (a=b)):=by
  unfold engrossref1_Bits.f engrossref1_bits.f
  simp only [Option.bind_some,Option.some.injEq]
  rw [Bool.eq_iff_iff]
  simp only [beq_iff_eq,decide_eq_true_eq]
  omega
end Go.Proofs.Ytmmjpieafbjggaa.Pure
end
section
set_option linter.unusedVariables false
set_option linter.unusedSimpArgs false
namespace Go.Proofs.Ytmmjpieafbjggaa.Pure
open Go.RowKit Go.Proofs.Ytmmjpieafbjggaa.P Go.Proofs.YtmmjpieafbjggaaW.PrintWords Go.Proofs.YtmmjpieafbjggaaW.PrintLast Go.Proofs.YtmmjpieafbjggaaW.PrintMore
theorem or128 {a:Int} (h0:0≤a) (h1:a<256):Go.bits .or .u8 a 128=a % 128+128:=by
  rw [u8_or a 128 h0 h1 (by omega) (by omega)]
  have:∀ b:Nat,b<256→b ||| 128=b % 128+128:=by decide +kernel
  have e:=this a.toNat (by omega)
  have e2:(128:Int).toNat=128:=rfl
  rw [e2,e]
  omega
theorem not64 {a:Int} (h0:0≤a) (h1:a<18446744073709551616):Go.bits .xor .u64 18446744073709551615 a=18446744073709551615 - a:=by
  rw [u64_xor _ a (by omega) (by omega) h0 h1]
  have e2:(18446744073709551615:Int).toNat=2 ^ 64 - 1:=rfl
  rw [e2,Nat.xor_comm]
  have:a.toNat ^^^ (2 ^ 64 - 1)=2 ^ 64 - 1 - a.toNat:=by
    apply Nat.eq_of_testBit_eq
    intro i
    rw [Nat.testBit_xor,Nat.testBit_two_pow_sub_one]
    have hs:2 ^ 64 - 1 - a.toNat=2 ^ 64 - (a.toNat+1):=by omega
    rw [hs,Nat.testBit_two_pow_sub_succ (by omega)]
    by_cases h:i<64
    · simp [h]
    · have:a.toNat.testBit i=false:=Nat.testBit_lt_two_pow (Nat.lt_of_lt_of_le (show a.toNat<2 ^ 64 by omega) (Nat.pow_le_pow_right (by omega) (by omega)))
      simp [h,this]
  rw [this]
  omega
theorem zz_word {n:Int} (h:(Lit.int .i64 n).wf=true) :
    (n<0→Go.bits .xor .u64 18446744073709551615 (IntKind.u64.wrap ((IntKind.u64.wrap n) * 2))=(zz n:Int))∧(¬ n<0→IntKind.u64.wrap ((IntKind.u64.wrap n) * 2)=(zz n:Int)):=by
  have h1:-9223372036854775808≤n∧n≤9223372036854775807:=by simpa [Lit.wf,IntKind.min,IntKind.max,IntKind.signed,IntKind.bits] using h
  refine⟨fun hn=>?_,fun hn=>?_⟩
  · rw [not64 (by rw [IntKind.wrap_u64];omega) (by rw [IntKind.wrap_u64];omega),IntKind.wrap_u64,IntKind.wrap_u64]
    unfold zz
    rw [if_pos hn]
    omega
  · rw [IntKind.wrap_u64,IntKind.wrap_u64]
    unfold zz
    rw [if_neg hn]
    omega
theorem w64 {x:Int} (h:-9223372036854775808≤x∧x≤9223372036854775807):wrap64 x=x:=by unfold wrap64;omega
theorem put_l0 (d:Nat):∀ (k:Nat) (b:List Int) (u:Nat),u<128 ^ (d+1)→d<k→b.length+d+1≤140737488355328→num_Put.l0 k b (u:Int)=some (b++enc u):=by
  induction d with
  | zero =>
    intro k b u hu hk hb
    obtain⟨k,rfl⟩:∃ m,k=m+1:=⟨k - 1,by omega⟩
    have hu:u<128:=by simpa using hu
    simp only [num_Put.l0]
    rw [if_neg (by omega),if_pos (by omega),enc_lo hu]
    have e:(u:Int) % 256=u:=by omega
    rw [e]
  | succ d ih =>
    intro k b u hu hk hb
    obtain⟨k,rfl⟩:∃ m,k=m+1:=⟨k - 1,by omega⟩
    simp only [num_Put.l0]
    by_cases hlt:u<128
    · rw [if_neg (by omega),if_pos (by omega),enc_lo hlt]
      have e:(u:Int) % 256=u:=by omega
      rw [e]
    · rw [if_pos (by omega),if_pos (by omega),or128 (by omega) (by omega)]
      have e:((u:Int) / 128)=((u / 128:Nat):Int):=by omega
      rw [e,ih k _ (u / 128) (by rw [Nat.div_lt_iff_lt_mul (by omega)];rw [Nat.pow_succ] at hu;exact hu) (by omega) (by simp only [List.length_append,List.length_cons,List.length_nil];omega),enc_hi hlt,List.append_assoc]
      have e2:(u:Int) % 256 % 128+128=((u % 128+128:Nat):Int):=by omega
      rw [e2]
      rfl
theorem put_is {n:Int} (h:(Lit.int .i64 n).wf=true) {k:Nat} (hk:12≤k) {b:List Int} (hb:b.length+10≤140737488355328):num_Put.f k b n=some (b++putN n):=by
  obtain⟨h1,h2⟩:=zz_word h
  obtain⟨k,rfl⟩:∃ m,k=m+1:=⟨k - 1,by omega⟩
  unfold num_Put.f putN
  by_cases hn:n<0
  · rw [if_pos hn,h1 hn]
    simp only [num_Put.j0]
    exact put_l0 9 k b (zz n) (lt64 (zz_lt h)) (by omega) (by omega)
  · rw [if_neg hn,h2 hn]
    simp only [num_Put.j0]
    exact put_l0 9 k b (zz n) (lt64 (zz_lt h)) (by omega) (by omega)
theorem puttext_is {s:ByteArray} (h:s.size≤65536) {k:Nat} (hk:12≤k) {b:List Int} (hb:b.length+65546≤140737488355327):num_PutText.f k b s=some (b++putS s):=by
  unfold num_PutText.f
  have hl:=(putN_len (size_wf h)).1
  rw [put_is (size_wf h) hk (by omega)]
  simp only [Option.bind_some]
  rw [if_pos (by simp only [List.length_append];omega)]
  unfold putS
  rw [List.append_assoc]
end Go.Proofs.Ytmmjpieafbjggaa.Pure
end
section
set_option linter.unusedVariables false
set_option linter.unusedSimpArgs false
namespace Go.Proofs.Ytmmjpieafbjggaa.Pure
open Go.RowKit Go.Proofs.Ytmmjpieafbjggaa.P Go.Proofs.YtmmjpieafbjggaaW.PrintWords Go.Proofs.YtmmjpieafbjggaaW.PrintLast Go.Proofs.YtmmjpieafbjggaaW.PrintMore
theorem cut_is (s:ByteArray) {n:Nat} : ∃ t,engrosslaw1_Cut.f s (n:Int)=some t∧t.size≤n∧(s.size≤n→t=s):=by
  unfold engrosslaw1_Cut.f
  by_cases h:(s.size:Int)>n
  · rw [if_pos h,if_pos (by omega),if_pos (by omega)]
    refine⟨_,rfl,?_,fun h=>by omega⟩
    rw [ByteArray.size_extract]
    simp
    omega
  · rw [if_neg h]
    exact⟨s,rfl,by omega,fun _=>rfl⟩
theorem bytesOf_in (s:ByteArray):∀ c∈bytesOf s,0≤c∧c≤255:=by
  intro c hc
  unfold bytesOf at hc
  obtain⟨b,_,rfl⟩:=List.mem_map.1 hc
  have:=b.toNat_lt
  omega
theorem putS_bytes {s:ByteArray} (h:s.size≤65536):∀ c∈putS s,0≤c∧c≤255:=by
  intro c hc
  rcases List.mem_append.1 hc with hc|hc
  · exact putN_bytes (size_wf h) c hc
  · exact bytesOf_in s c hc
theorem putS_len {s:ByteArray} (h:s.size≤65536):(putS s).length≤s.size+10∧1≤(putS s).length:=by
  have:=putN_len (size_wf h)
  have h2:=bytesOf_len s
  unfold putS
  rw [List.length_append]
  omega
end Go.Proofs.Ytmmjpieafbjggaa.Pure
end
section
set_option linter.unusedVariables false
set_option linter.unusedSimpArgs false
namespace Go.Proofs.Ytmmjpieafbjggaa.Pure
open Go.RowKit Go.Proofs.Ytmmjpieafbjggaa.P Go.Proofs.YtmmjpieafbjggaaW.PrintWords Go.Proofs.YtmmjpieafbjggaaW.PrintLast Go.Proofs.YtmmjpieafbjggaaW.PrintMore
/-- All NaNs one. -/
def cl (f:Nat):Nat:=if 9218868437227405312<f % 9223372036854775808 then 9221120237041090560 else f
/-- May a value be? -/
def mayV (kd:Int) (f:Nat) (s:ByteArray):Bool :=
  if kd=0 then decide (f=0) && decide (s.toList = []) else if kd=1 then decide (s.toList = []) && decide (cl f=f) else if kd=2 then decide (f=0) && decide (s.size≤20) else false
theorem may_is (kd:Int) (f:Nat) (s:ByteArray):datum_May.f kd f s=some (mayV kd f s):=by
  unfold datum_May.f mayV datum_zero.f
  simp only [Option.bind_some]
  by_cases h0:kd=0
  · rw [if_pos h0,if_pos h0]
    by_cases hf:f=0
    · subst hf
      rw [if_pos (by rfl)]
      congr 1
      rw [Bool.eq_iff_iff]
      simp
    · rw [if_neg (by simp;omega)]
      simp [hf]
  · rw [if_neg h0,if_neg h0]
    by_cases h1:kd=1
    · rw [if_pos h1,if_pos h1]
      by_cases hs:s.toList = []
      · rw [if_pos hs,clean_is]
        simp only [Option.bind_some]
        congr 1
        rw [Bool.eq_iff_iff]
        unfold cl
        simp only [hs,decide_true,Bool.true_and,beq_iff_eq,decide_eq_true_eq]
        omega
      · rw [if_neg hs]
        simp [hs]
    · rw [if_neg h1,if_neg h1]
      by_cases h2:kd=2
      · rw [if_pos h2,if_pos h2]
        by_cases hf:f=0
        · subst hf
          rw [if_pos (by rfl)]
          congr 1
          rw [Bool.eq_iff_iff]
          simp
          omega
        · rw [if_neg (by simp;omega)]
          simp [hf]
      · rw [if_neg h2,if_neg h2]
theorem rmay_is (kd:Int) {f:Nat} (hf:f<18446744073709551616) (s:ByteArray):engrossref1_MayVal.f kd f s=some (mayV kd f s):=by
  unfold engrossref1_MayVal.f mayV engrossref1_bits.f
  simp only [Option.bind_some]
  by_cases h0:kd=0
  · rw [if_pos h0,if_pos h0]
    by_cases hf:f=0
    · subst hf
      rw [if_pos (by rfl)]
      congr 1
      rw [Bool.eq_iff_iff]
      simp
    · rw [if_neg (by omega)]
      simp [hf]
  · rw [if_neg h0,if_neg h0]
    by_cases h1:kd=1
    · rw [if_pos h1,if_pos h1]
      by_cases hs:s.toList = []
      · rw [if_pos hs,rclean_is hf]
        simp only [Option.bind_some]
        rw [bits_is]
        simp only [Option.bind_some]
        congr 1
        unfold cl
        simp [hs]
      · rw [if_neg hs]
        simp [hs]
    · rw [if_neg h1,if_neg h1]
      by_cases h2:kd=2
      · rw [if_pos h2,if_pos h2]
        by_cases hf:f=0
        · subst hf
          rw [if_pos (by rfl)]
          congr 1
          rw [Bool.eq_iff_iff]
          simp
          omega
        · rw [if_neg (by omega)]
          simp [hf]
      · rw [if_neg h2,if_neg h2]
/-- What follows a value's kind. -/
def tailV (kd:Int) (f:Nat) (s:ByteArray):List Int:=if kd=1 then be 8 (pl f) else if kd=2 then putS s else []
/-- A value's bytes. -/
def putV (kd:Int) (f:Nat) (s:ByteArray):List Int:=putN kd++tailV kd f s
theorem tailV_len (kd:Int) (f:Nat) {s:ByteArray} (hs:s.size≤65536):(tailV kd f s).length≤65546:=by
  unfold tailV
  have:=(putS_len hs).1
  split
  · rw [be_len];omega
  · split
    · omega
    · simp
theorem putV_len {kd:Int} (h:(Lit.int .i64 kd).wf=true) (f:Nat) {s:ByteArray} (hs:s.size≤65536):(putV kd f s).length≤65556:=by
  have h1:=(putN_len h).1
  have h2:=tailV_len kd f hs
  unfold putV
  rw [List.length_append]
  omega
theorem putV_bytes {kd:Int} (h:(Lit.int .i64 kd).wf=true) (f:Nat) {s:ByteArray} (hs:s.size≤65536):∀ c∈putV kd f s,0≤c∧c≤255:=by
  intro c hc
  rcases List.mem_append.1 hc with hc|hc
  · exact putN_bytes h c hc
  · unfold tailV at hc
    split at hc
    · exact be_bytes _ _ c hc
    · split at hc
      · exact putS_bytes hs c hc
      · cases hc
theorem dput_is {kd:Int} (h:(Lit.int .i64 kd).wf=true) {f:Nat} (hf:f<18446744073709551616) {s:ByteArray} (hs:s.size≤65536) {k:Nat} (hk:12≤k) {b:List Int} (hb:b.length+70000≤140737488355327):datum_Put.f k b kd f s=some (b++putV kd f s):=by
  unfold datum_Put.f putV tailV
  have h1:=(putN_len h).1
  rw [put_is h hk (by omega)]
  simp only [Option.bind_some]
  by_cases e1:kd=1
  · rw [if_pos e1,if_pos e1,bytes_is hf (by omega)]
    simp only [Option.bind_some]
    rw [if_pos (by rw [be_len,List.length_append];omega),List.append_assoc]
  · rw [if_neg e1,if_neg e1]
    by_cases e2:kd=2
    · rw [if_pos e2,if_pos e2,puttext_is hs hk (by rw [List.length_append];omega),List.append_assoc]
      rfl
    · rw [if_neg e2,if_neg e2,List.append_nil]
theorem cut_mid {l:List Int} {n:Nat} : (l.take (n+8)).drop n=(l.drop n).take 8:=by
  rw [List.drop_take]
  congr 1
  omega
theorem mayV_cases {kd:Int} {f:Nat} {s:ByteArray} (h:mayV kd f s=true):(kd=0∧f=0∧s.toList = [])∨(kd=1∧cl f=f∧s.toList = [])∨(kd=2∧f=0∧s.size≤20):=by
  unfold mayV at h
  split at h
  · rename_i h0
    simp at h
    exact .inl ⟨h0,h⟩
  · split at h
    · rename_i h1
      simp at h
      exact .inr (.inl ⟨h1,h.2,h.1⟩)
    · split at h
      · rename_i h2
        simp at h
        exact .inr (.inr ⟨h2,h⟩)
      · cases h
theorem app_in {a b:List Int} (h1:∀ c∈a,0≤c∧c≤255) (h2:∀ c∈b,0≤c∧c≤255):∀ c∈a++b,0≤c∧c≤255:=by
  intro c hc
  rcases List.mem_append.1 hc with hc|hc
  · exact h1 c hc
  · exact h2 c hc
end Go.Proofs.Ytmmjpieafbjggaa.Pure
end
section
set_option linter.unusedVariables false
set_option linter.unusedSimpArgs false
namespace Go.Proofs.Ytmmjpieafbjggaa.Pure
open Go.RowKit Go.Proofs.Ytmmjpieafbjggaa.P Go.Proofs.YtmmjpieafbjggaaW.PrintWords Go.Proofs.YtmmjpieafbjggaaW.PrintLast Go.Proofs.YtmmjpieafbjggaaW.PrintMore
/-- May a text be a key? -/
def mayK (s:ByteArray):Bool:=decide (1≤s.size) && decide (s.size≤16)
theorem list_nil_iff (s:ByteArray):s.toList=([]:List UInt8)↔s.size=0:=by
  rw [Go.ByteArray.toList_eq]
  constructor
  · intro h
    have:=congrArg List.length h
    rw [Array.length_toList] at this
    exact this
  · intro h
    refine List.eq_nil_of_length_eq_zero ?_
    rw [Array.length_toList]
    exact h
theorem maykey_is (s:ByteArray):key_May.f s=some (mayK s):=by
  unfold key_May.f mayK
  by_cases h:s.toList=([]:List UInt8)
  · rw [if_pos h]
    have:=(list_nil_iff s).1 h
    simp [this]
  · rw [if_neg h]
    have h0:¬ s.size=0:=fun e=>h ((list_nil_iff s).2 e)
    congr 1
    rw [Bool.eq_iff_iff]
    simp only [decide_eq_true_eq,Bool.and_eq_true]
    omega
theorem rmaykey_is (s:ByteArray):engrossref1_MayKey.f s=some (mayK s):=by
  unfold engrossref1_MayKey.f mayK
  by_cases h:(s.size:Int)≥1
  · rw [if_pos h]
    congr 1
    rw [Bool.eq_iff_iff]
    simp only [decide_eq_true_eq,Bool.and_eq_true]
    omega
  · rw [if_neg h]
    congr 1
    rw [Bool.eq_iff_iff]
    simp only [decide_eq_true_eq,Bool.and_eq_true,Bool.false_eq_true,false_iff]
    omega
/-- May a cell be? -/
def mayC (s:ByteArray) (kd:Int) (f:Nat) (t:ByteArray) (x:Int) (kd':Int) (f':Nat) (t':ByteArray):Bool :=
  mayK s && mayV kd f t && mayV kd' f' t' && decide (0≤x) && decide (x≤1099511627776) && (decide (0<x) || decide (kd'=0) && decide (kd≠0))
theorem maycell_is (s:ByteArray) (kd:Int) (f:Nat) (t:ByteArray) (x:Int) (kd':Int) (f':Nat) (t':ByteArray) {k:Nat} (hk:1≤k):cell_May.f k s kd f t x kd' f' t'=some (mayC s kd f t x kd' f' t'):=by
  obtain⟨k,rfl⟩:∃ m,k=m+1:=⟨k - 1,by omega⟩
  unfold cell_May.f mayC
  rw [maykey_is,may_is,may_is]
  simp only [Option.bind_some,cell_May.j0,cell_none.f]
  cases mayK s
  · simp
  · cases mayV kd f t
    · simp
    · cases mayV kd' f' t'
      · simp
      · simp only [if_true,Bool.true_and]
        by_cases h0:x<0
        · rw [if_pos h0,decide_eq_false (show ¬ 0≤x by omega)];simp
        · rw [if_neg h0,decide_eq_true (show 0≤x by omega)]
          by_cases h1:x>1099511627776
          · rw [decide_eq_true h1,decide_eq_false (show ¬ x≤1099511627776 by omega)];simp
          · rw [decide_eq_false h1,decide_eq_true (show x≤1099511627776 by omega)]
            by_cases h2:x>0
            · simp [h2]
            · rw [if_neg (by decide),if_neg h2,decide_eq_false (show ¬ 0<x by omega)]
              by_cases h3:kd'=0
              · simp only [h3,decide_true,Bool.true_and,Bool.false_or,if_true]
                by_cases h4:kd=0
                · simp [h4]
                · simp [h4]
              · simp [h3]
theorem rmaycell_is (s:ByteArray) (kd:Int) {f:Nat} (hf:f<18446744073709551616) (t:ByteArray) (x:Int) (kd':Int) {f':Nat} (hf':f'<18446744073709551616) (t':ByteArray):engrossref10_May.f s kd f t x kd' f' t'=some (mayC s kd f t x kd' f' t'):=by
  unfold engrossref10_May.f mayC
  rw [rmaykey_is,rmay_is kd hf,rmay_is kd' hf']
  simp only [Option.bind_some]
  cases mayK s
  · simp
  · cases mayV kd f t
    · simp
    · cases mayV kd' f' t'
      · simp
      · simp only [if_true,Bool.true_and]
        by_cases h0:x<0
        · rw [if_pos h0,decide_eq_false (show ¬ 0≤x by omega)];simp
        · rw [if_neg h0,decide_eq_true (show 0≤x by omega)]
          by_cases h1:x>1099511627776
          · rw [if_pos h1,decide_eq_false (show ¬ x≤1099511627776 by omega)];simp
          · rw [if_neg h1,decide_eq_true (show x≤1099511627776 by omega)]
            by_cases h2:x>0
            · simp [h2]
            · rw [if_neg h2,decide_eq_false (show ¬ 0<x by omega)]
              by_cases h3:kd'=0
              · simp only [h3,decide_true,Bool.true_and,Bool.false_or,if_true]
                by_cases h4:kd=0
                · simp [h4]
                · simp [h4]
              · simp [h3]
theorem mayC_cases {s:ByteArray} {kd:Int} {f:Nat} {t:ByteArray} {x:Int} {kd':Int} {f':Nat} {t':ByteArray} (h:mayC s kd f t x kd' f' t'=true) :
    (1≤s.size∧s.size≤16)∧mayV kd f t=true∧mayV kd' f' t'=true∧0≤x∧x≤1099511627776∧(0<x∨(kd'=0∧kd≠0)):=by
  unfold mayC mayK at h
  simp only [Bool.and_eq_true,Bool.or_eq_true,decide_eq_true_eq] at h
  obtain⟨⟨⟨⟨⟨h1,h2⟩,h3⟩,h4⟩,h5⟩,h6⟩:=h
  exact⟨h1,h2,h3,h4,h5,h6⟩
theorem mayV_wf {kd:Int} {f:Nat} {t:ByteArray} (h:mayV kd f t=true):(Lit.int .i64 kd).wf=true∧t.size≤20:=by
  rcases mayV_cases h with ⟨rfl,_,h2⟩ | ⟨rfl,_,h2⟩ | ⟨rfl,_,h2⟩
  · exact⟨by decide,by have:=(list_nil_iff t).1 h2;omega⟩
  · exact⟨by decide,by have:=(list_nil_iff t).1 h2;omega⟩
  · exact⟨by decide,h2⟩
theorem txn_wf {x:Int} (h0:0≤x) (h1:x≤1099511627776):(Lit.int .i64 x).wf=true:=by
  simp [Lit.wf,IntKind.min,IntKind.max,IntKind.signed,IntKind.bits]
  omega
/-- A cell's bytes. -/
def putC (s:ByteArray) (kd:Int) (f:Nat) (t:ByteArray) (x:Int) (kd':Int) (f':Nat) (t':ByteArray):List Int :=
  putS s++(putV kd f t++(putN x++(if x>0 then putV kd' f' t' else [])))
theorem tail_len {x:Int} {kd':Int} {f':Nat} {t':ByteArray} (h:(Lit.int .i64 kd').wf=true) (ht:t'.size≤65536):(if x>0 then putV kd' f' t' else []).length≤65556:=by
  have:=putV_len h f' ht
  split
  · omega
  · simp
theorem putcell_is {s:ByteArray} {kd:Int} {f:Nat} {t:ByteArray} {x:Int} {kd':Int} {f':Nat} {t':ByteArray} (hs:s.size≤65536) (hkd:(Lit.int .i64 kd).wf=true) (hf:f<18446744073709551616) (ht:t.size≤65536) (hx:(Lit.int .i64 x).wf=true) (hkd':(Lit.int .i64 kd').wf=true) (hf':f'<18446744073709551616) (ht':t'.size≤65536)
    {k:Nat} (hk:12≤k) {b:List Int} (hb:b.length+400000≤140737488355327):cell_Put.f k b s kd f t x kd' f' t'=some (b++putC s kd f t x kd' f' t'):=by
  unfold cell_Put.f putC
  have h1:=(putS_len hs).1
  have h2:=putV_len hkd f ht
  have h3:=(putN_len hx).1
  rw [puttext_is hs hk (by omega)]
  simp only [Option.bind_some]
  rw [dput_is hkd hf ht hk (by rw [List.length_append];omega)]
  simp only [Option.bind_some]
  rw [put_is hx hk (by simp only [List.length_append];omega)]
  simp only [Option.bind_some]
  by_cases h:x>0
  · rw [if_pos h,if_pos h,dput_is hkd' hf' ht' hk (by simp only [List.length_append];omega)]
    simp only [Option.bind_some,List.append_assoc]
  · rw [if_neg h,if_neg h]
    simp only [List.append_nil,List.append_assoc]
theorem putC_len {s:ByteArray} {kd:Int} {f:Nat} {t:ByteArray} {x:Int} {kd':Int} {f':Nat} {t':ByteArray} (hs:s.size≤65536) (hkd:(Lit.int .i64 kd).wf=true) (ht:t.size≤65536) (hx:(Lit.int .i64 x).wf=true) (hkd':(Lit.int .i64 kd').wf=true) (ht':t'.size≤65536) :
    (putC s kd f t x kd' f' t').length≤300000∧1≤(putC s kd f t x kd' f' t').length:=by
  have h1:=putS_len hs
  have h2:=putV_len hkd f ht
  have h3:=(putN_len hx).1
  have h4:=tail_len (x:=x) (f':=f') hkd' ht'
  unfold putC
  simp only [List.length_append]
  omega
theorem putC_bytes {s:ByteArray} {kd:Int} {f:Nat} {t:ByteArray} {x:Int} {kd':Int} {f':Nat} {t':ByteArray} (hs:s.size≤65536) (hkd:(Lit.int .i64 kd).wf=true) (ht:t.size≤65536) (hx:(Lit.int .i64 x).wf=true) (hkd':(Lit.int .i64 kd').wf=true) (ht':t'.size≤65536) :
    ∀ c∈putC s kd f t x kd' f' t',0≤c∧c≤255:=by
  unfold putC
  refine app_in (putS_bytes hs) (app_in (putV_bytes hkd f ht) (app_in (putN_bytes hx) ?_))
  split
  · exact putV_bytes hkd' f' ht'
  · intro c hc;cases hc
end Go.Proofs.Ytmmjpieafbjggaa.Pure
end
section
set_option linter.unusedVariables false
set_option linter.unusedSimpArgs false
namespace Go.Proofs.Ytmmjpieafbjggaa.Pure
open Go.RowKit Go.Proofs.Ytmmjpieafbjggaa.P Go.Proofs.YtmmjpieafbjggaaW.PrintWords Go.Proofs.YtmmjpieafbjggaaW.PrintLast Go.Proofs.YtmmjpieafbjggaaW.PrintMore
theorem drop_step {α:Type} {l:List α} {c:α} {cs:List α} {i:Nat} (h:l.drop i=c :: cs):∃ hlt:i<l.length,l[i]=c∧l.drop (i+1)=cs:=by
  have hlt:i<l.length:=by
    have:=congrArg List.length h
    simp at this
    omega
  have:=List.getElem_cons_drop hlt
  rw [h] at this
  exact⟨hlt,List.cons.inj this⟩
theorem drop_nil {α:Type} {l:List α} {i:Nat} (h:l.drop i = []):l.length≤i:=List.drop_eq_nil_iff.1 h
/-- What stands ahead of a place. -/
def prevO {α:Type} (l:List α) (i:Nat):Option α:=if i=0 then none else l[i - 1]?
theorem prevO_zero {α:Type} (l:List α):prevO l 0=none:=rfl
theorem prevO_succ {α:Type} {l:List α} {c:α} {cs:List α} {i:Nat} (h:l.drop i=c :: cs):prevO l (i+1)=some c:=by
  obtain⟨hlt,h1,_⟩:=drop_step h
  unfold prevO
  rw [if_neg (by omega),Nat.add_sub_cancel,List.getElem?_eq_getElem hlt,h1]
theorem prevO_pos {α:Type} {l:List α} {i:Nat} (h0:0<i) (h1:i≤l.length):∃ hlt:i - 1<l.length,prevO l i=some (l[i - 1]'hlt):=by
  refine⟨by omega,?_⟩
  unfold prevO
  rw [if_neg (by omega),List.getElem?_eq_getElem (by omega)]
theorem rd62 {l:List S62} {i:Nat} (h:i<l.length):rd_T62 l (i:Int)=l[i]:=by
  unfold rd_T62
  simp [List.getD,h]
theorem rd56 {l:List S56} {i:Nat} (h:i<l.length):rd_T56 l (i:Int)=l[i]:=by
  unfold rd_T56
  simp [List.getD,h]
theorem rdS {l:List ByteArray} {i:Nat} (h:i<l.length):rdOf ByteArray.empty l (i:Int)=l[i]:=by
  unfold rdOf
  simp [List.getD,h]
theorem rdI {l:List Int} {i:Nat} (h:i<l.length):rd l (i:Int)=l[i]:=by
  unfold rd
  simp [List.getD,h]
def mayCell (x:S62):Bool:=mayC x.f0 x.f1.f0 x.f1.f1 x.f1.f2 x.f2 x.f3.f0 x.f3.f1 x.f3.f2
/-- Below a key, if there is one ahead. -/
def ltO (p:Option ByteArray) (s:ByteArray):Bool:=match p with|none=>true|some q=>Op.bytesLess q.toList s.toList
def goodC:Option ByteArray→List S62→Bool
 | _,[]=>true
 | p,x :: xs=>mayCell x && (ltO p x.f0 && goodC (some x.f0) xs)
def goodK:Option ByteArray→List ByteArray→Bool
 | _,[]=>true
 | p,x :: xs=>mayK x && (ltO p x && goodK (some x) xs)
def goodI (l:List Int):Bool:=l.all fun n=>decide (2≤n) && decide (n<32)
/-- May a node be? -/
def mayN (leaf:Bool) (cs:List S62) (keys:List ByteArray) (kids:List Int):Bool :=
  if leaf=true then goodC none cs && (decide (keys.length=0) && decide (kids.length=0))
  else decide (cs.length=0) && (goodK none keys && (goodI kids && (decide (1≤kids.length) && (decide (kids.length≤32) && decide (keys.length+1=kids.length)))))
theorem mayn_l0 (l:List S62) (keys:List ByteArray) (kids:List Int) (hl:l.length≤1000) (cs:List S62):∀ (k i:Nat),l.drop i=cs→cs.length+10<k →
    node_May.l0 k l (l.length:Int) (i:Int) true l keys kids=some (goodC ((prevO l i).map S62.f0) cs && (decide (keys.length=0) && decide (kids.length=0))):=by
  induction cs with
  | nil =>
    intro k i hd hk
    obtain⟨k,rfl⟩:∃ m,k=m+1:=⟨k - 1,by omega⟩
    have hi:=drop_nil hd
    simp only [node_May.l0]
    rw [if_neg (by omega),if_pos trivial]
    simp only [goodC,Bool.true_and]
    by_cases h0:keys.length=0
    · rw [if_pos (by omega),decide_eq_true h0,Bool.true_and]
      congr 1
      rw [Bool.eq_iff_iff]
      simp only [beq_iff_eq,decide_eq_true_eq]
      omega
    · rw [if_neg (by omega),decide_eq_false h0,Bool.false_and]
  | cons c cs ih =>
    intro k i hd hk
    obtain⟨k,rfl⟩:∃ m,k=m+1:=⟨k - 1,by omega⟩
    obtain⟨hlt,hc,hd2⟩:=drop_step hd
    simp only [List.length_cons] at hk
    simp only [node_May.l0]
    rw [if_pos (by omega),if_pos (by omega),if_pos (by omega),if_pos trivial,rd62 hlt,hc,maycell_is _ _ _ _ _ _ _ _ (by omega),w64 (x:=(i:Int)+1) (by omega),show (i:Int)+1=((i+1:Nat):Int) from rfl]
    simp only [Option.bind_some,goodC]
    have hih:=ih k (i+1) hd2 (by omega)
    rw [prevO_succ hd] at hih
    show (if mayCell c=true then _ else _)=_
    cases hm:mayCell c
    · rw [if_neg (by decide)]
      simp
    · rw [if_pos rfl]
      by_cases h0:0<i
      · obtain⟨hlt',hp⟩:=prevO_pos (l:=l) h0 (by omega)
        rw [if_pos (by omega),w64 (x:=(i:Int) - 1) (by omega),show (i:Int) - 1=((i - 1:Nat):Int) by omega,if_pos (by omega),if_pos (by omega),rd62 hlt',hp]
        simp only [Option.map_some,ltO]
        by_cases hb:Op.bytesLess (l[i - 1].f0).toList (c.f0).toList=true
        · rw [if_pos hb,hih,hb]
          simp
        · rw [if_neg hb,Bool.eq_false_iff.2 hb]
          simp
      · have hi0:i=0:=by omega
        subst hi0
        rw [if_neg (by omega),hih,prevO_zero]
        simp [ltO]
theorem mayn_l2 (l:List Int) (keys:List ByteArray) (cs:List S62) (hl:l.length≤1000) (ks:List Int):∀ (k i:Nat),l.drop i=ks→ks.length+2<k →
    node_May.l2 k l (l.length:Int) (i:Int) false cs keys l=some (goodI ks && (decide (1≤l.length) && (decide (l.length≤32) && decide (keys.length+1=l.length)))):=by
  induction ks with
  | nil =>
    intro k i hd hk
    obtain⟨k,rfl⟩:∃ m,k=m+1:=⟨k - 1,by omega⟩
    have hi:=drop_nil hd
    simp only [node_May.l2]
    rw [if_neg (by omega),w64 (x:=(l.length:Int) - 1) (by omega)]
    simp only [goodI,List.all_nil,Bool.true_and]
    by_cases h1:1≤l.length
    · rw [if_pos (by omega),decide_eq_true h1,Bool.true_and]
      by_cases h2:l.length≤32
      · rw [if_pos (by omega),decide_eq_true h2,Bool.true_and]
        congr 1
        rw [Bool.eq_iff_iff]
        simp only [beq_iff_eq,decide_eq_true_eq]
        omega
      · rw [if_neg (by omega),decide_eq_false h2,Bool.false_and]
    · rw [if_neg (by omega),decide_eq_false h1,Bool.false_and]
  | cons c ks ih =>
    intro k i hd hk
    obtain⟨k,rfl⟩:∃ m,k=m+1:=⟨k - 1,by omega⟩
    obtain⟨hlt,hc,hd2⟩:=drop_step hd
    simp only [List.length_cons] at hk
    simp only [node_May.l2]
    have hih:=ih k (i+1) hd2 (by omega)
    rw [if_pos (by omega),if_pos (by omega),if_pos (by omega),rdI hlt,hc,w64 (x:=(i:Int)+1) (by omega),show (i:Int)+1=((i+1:Nat):Int) from rfl,hih]
    simp only [goodI,List.all_cons]
    by_cases h2:c<2
    · rw [if_pos h2,decide_eq_false (show ¬ 2≤c by omega)]
      simp
    · rw [if_neg h2,decide_eq_true (show 2≤c by omega)]
      by_cases h3:c≥32
      · rw [if_pos h3,decide_eq_false (show ¬ c<32 by omega)]
        simp
      · rw [if_neg h3,decide_eq_true (show c<32 by omega)]
        simp
theorem mayn_l1 (l:List ByteArray) (kids:List Int) (cs:List S62) (hl:l.length≤1000) (hl2:kids.length≤1000) (ks:List ByteArray):∀ (k i:Nat),l.drop i=ks→ks.length+kids.length+10<k →
    node_May.l1 k l (l.length:Int) (i:Int) false cs l kids=some (goodK (prevO l i) ks && (goodI kids && (decide (1≤kids.length) && (decide (kids.length≤32) && decide (l.length+1=kids.length))))):=by
  induction ks with
  | nil =>
    intro k i hd hk
    obtain⟨k,rfl⟩:∃ m,k=m+1:=⟨k - 1,by omega⟩
    have hi:=drop_nil hd
    simp only [node_May.l1]
    rw [if_neg (by omega)]
    have h:=mayn_l2 kids l cs hl2 kids k 0 rfl (by omega)
    rw [show ((0:Nat):Int)=0 from rfl] at h
    rw [h]
    simp [goodK]
  | cons c ks ih =>
    intro k i hd hk
    obtain⟨k,rfl⟩:∃ m,k=m+1:=⟨k - 1,by omega⟩
    obtain⟨hlt,hc,hd2⟩:=drop_step hd
    simp only [List.length_cons] at hk
    simp only [node_May.l1]
    have hih:=ih k (i+1) hd2 (by omega)
    rw [prevO_succ hd] at hih
    rw [if_pos (by omega),if_pos (by omega),if_pos (by omega),rdS hlt,hc,maykey_is,w64 (x:=(i:Int)+1) (by omega),show (i:Int)+1=((i+1:Nat):Int) from rfl]
    simp only [Option.bind_some,goodK]
    cases hm:mayK c
    · rw [if_neg (by decide)]
      simp
    · rw [if_pos rfl]
      by_cases h0:0<i
      · obtain⟨hlt',hp⟩:=prevO_pos (l:=l) h0 (by omega)
        rw [if_pos (by omega),w64 (x:=(i:Int) - 1) (by omega),show (i:Int) - 1=((i - 1:Nat):Int) by omega,if_pos (by omega),if_pos (by omega),rdS hlt',hp]
        simp only [ltO]
        by_cases hb:Op.bytesLess (l[i - 1]).toList c.toList=true
        · rw [if_pos hb,hih,hb]
          simp
        · rw [if_neg hb,Bool.eq_false_iff.2 hb]
          simp
      · have hi0:i=0:=by omega
        subst hi0
        rw [if_neg (by omega),hih,prevO_zero]
        simp [ltO]
theorem maynode_is (leaf:Bool) (cs:List S62) (keys:List ByteArray) (kids:List Int) (h1:cs.length≤1000) (h2:keys.length≤1000) (h3:kids.length≤1000) {k:Nat} (hk:4000≤k) :
    node_May.f k leaf cs keys kids=some (mayN leaf cs keys kids):=by
  unfold node_May.f mayN
  cases leaf
  · rw [if_neg (by decide)]
    obtain⟨k,rfl⟩:∃ m,k=m+1:=⟨k - 1,by omega⟩
    cases cs with
    | nil =>
      simp only [node_May.l0,List.length_nil]
      rw [if_neg (by decide),if_neg (by decide)]
      have h:=mayn_l1 keys kids [] h2 h3 keys k 0 rfl (by omega)
      rw [show ((0:Nat):Int)=0 from rfl,prevO_zero] at h
      rw [h]
      simp
    | cons c cs =>
      simp only [node_May.l0]
      rw [if_pos (by simp only [List.length_cons];omega),if_pos (by decide),if_pos (by simp only [List.length_cons];omega),if_neg (by decide)]
      simp
  · rw [if_pos rfl]
    have h:=mayn_l0 cs keys kids h1 cs k 0 rfl (by omega)
    rw [show ((0:Nat):Int)=0 from rfl,prevO_zero] at h
    exact h
def putCell (x:S62):List Int:=putC x.f0 x.f1.f0 x.f1.f1 x.f1.f2 x.f2 x.f3.f0 x.f3.f1 x.f3.f2
def bytesN (leaf:Bool) (cs:List S62) (keys:List ByteArray) (kids:List Int):List Int :=
  if leaf=true then [1]++putN (cs.length:Int)++cs.flatMap putCell
  else [2]++putN (kids.length:Int)++kids.flatMap putN++keys.flatMap putS
/-- The floats of cells are 64 bits. -/
def FC (x:S62):Prop:=x.f1.f1<18446744073709551616∧x.f3.f1<18446744073709551616
theorem good_cells:∀ {cs:List S62} {p:Option ByteArray},goodC p cs=true→∀ x∈cs,mayCell x=true
 | [],_,_,x,hx=>by cases hx
 | c :: cs,p,h,x,hx=>by
  simp only [goodC,Bool.and_eq_true] at h
  rcases List.mem_cons.1 hx with e|hx
  · rw [e];exact h.1
  · exact good_cells h.2.2 x hx
theorem good_keys:∀ {ks:List ByteArray} {p:Option ByteArray},goodK p ks=true→∀ x∈ks,1≤x.size∧x.size≤16
 | [],_,_,x,hx=>by cases hx
 | c :: cs,p,h,x,hx=>by
  simp only [goodK,Bool.and_eq_true] at h
  rcases List.mem_cons.1 hx with e|hx
  · rw [e]
    have:=h.1
    unfold mayK at this
    simpa using this
  · exact good_keys h.2.2 x hx
theorem good_kids {l:List Int} (h:goodI l=true):∀ x∈l,2≤x∧x<32:=by
  intro x hx
  have:=List.all_eq_true.1 h x hx
  simpa using this
theorem cell_parts {x:S62} (h:mayCell x=true):x.f0.size≤16∧(Lit.int .i64 x.f1.f0).wf=true∧x.f1.f2.size≤20∧(Lit.int .i64 x.f2).wf=true∧(Lit.int .i64 x.f3.f0).wf=true∧x.f3.f2.size≤20:=by
  obtain⟨⟨_,k1⟩,v1,w1,z0,z1,_⟩:=mayC_cases h
  exact⟨k1,(mayV_wf v1).1,(mayV_wf v1).2,txn_wf z0 z1,(mayV_wf w1).1,(mayV_wf w1).2⟩
theorem putCell_len {x:S62} (h:mayCell x=true):(putCell x).length≤300000∧∀ c∈putCell x,0≤c∧c≤255:=by
  obtain⟨a,b,c,d,e,f⟩:=cell_parts h
  exact⟨(putC_len (by omega) b (by omega) d e (by omega)).1,putC_bytes (by omega) b (by omega) d e (by omega)⟩
theorem bytn_l0 (l:List S62) (hg:∀ x∈l,mayCell x=true) (hf:∀ x∈l,FC x) (hl:l.length≤1000) (cs:List S62):∀ (k i:Nat) (b:List Int),l.drop i=cs→cs.length+20<k→b.length≤1000000000+300000 * i →
    node_bytesOf.l0 k b l (l.length:Int) (i:Int)=some (b++cs.flatMap putCell):=by
  induction cs with
  | nil =>
    intro k i b hd hk hb
    obtain⟨k,rfl⟩:∃ m,k=m+1:=⟨k - 1,by omega⟩
    have hi:=drop_nil hd
    simp only [node_bytesOf.l0]
    rw [if_neg (by omega)]
    simp
  | cons c cs ih =>
    intro k i b hd hk hb
    obtain⟨k,rfl⟩:∃ m,k=m+1:=⟨k - 1,by omega⟩
    obtain⟨hlt,hc,hd2⟩:=drop_step hd
    simp only [List.length_cons] at hk
    have hm:c∈l:=by rw [← hc];exact List.getElem_mem hlt
    obtain⟨p1,p2,p3,p4,p5,p6⟩:=cell_parts (hg c hm)
    obtain⟨f1,f2⟩:=hf c hm
    have hlen:=(putCell_len (hg c hm)).1
    simp only [node_bytesOf.l0]
    rw [if_pos (by omega),if_pos (by omega),if_pos (by omega),rd62 hlt,hc,putcell_is (by omega) p2 f1 (by omega) p4 p5 f2 (by omega) (by omega) (by omega),w64 (x:=(i:Int)+1) (by omega),show (i:Int)+1=((i+1:Nat):Int) from rfl]
    simp only [Option.bind_some]
    have:=ih k (i+1) (b++putCell c) hd2 (by omega) (by rw [List.length_append];omega)
    rw [show putC c.f0 c.f1.f0 c.f1.f1 c.f1.f2 c.f2 c.f3.f0 c.f3.f1 c.f3.f2=putCell c from rfl,this,List.flatMap_cons,List.append_assoc]
theorem bytn_l2 (l:List ByteArray) (hg:∀ x∈l,x.size≤16) (hl:l.length≤1000) (ks:List ByteArray):∀ (k i:Nat) (b:List Int),l.drop i=ks→ks.length+20<k→b.length≤1000000000+300000 * i →
    node_bytesOf.l2 k b l (l.length:Int) (i:Int)=some (b++ks.flatMap putS):=by
  induction ks with
  | nil =>
    intro k i b hd hk hb
    obtain⟨k,rfl⟩:∃ m,k=m+1:=⟨k - 1,by omega⟩
    have hi:=drop_nil hd
    simp only [node_bytesOf.l2]
    rw [if_neg (by omega)]
    simp
  | cons c ks ih =>
    intro k i b hd hk hb
    obtain⟨k,rfl⟩:∃ m,k=m+1:=⟨k - 1,by omega⟩
    obtain⟨hlt,hc,hd2⟩:=drop_step hd
    simp only [List.length_cons] at hk
    have hm:c∈l:=by rw [← hc];exact List.getElem_mem hlt
    have hs:=hg c hm
    have hlen:=(putS_len (s:=c) (by omega)).1
    simp only [node_bytesOf.l2]
    rw [if_pos (by omega),if_pos (by omega),if_pos (by omega),rdS hlt,hc,puttext_is (by omega) (by omega) (by omega),w64 (x:=(i:Int)+1) (by omega),show (i:Int)+1=((i+1:Nat):Int) from rfl]
    simp only [Option.bind_some]
    have:=ih k (i+1) (b++putS c) hd2 (by omega) (by rw [List.length_append];omega)
    rw [this,List.flatMap_cons,List.append_assoc]
theorem kid_wf {x:Int} (h:2≤x∧x<32):(Lit.int .i64 x).wf=true:=txn_wf (by omega) (by omega)
theorem bytn_l1 (l:List Int) (keys:List ByteArray) (cs:List S62) (hg:∀ x∈l,2≤x∧x<32) (hk2:∀ x∈keys,x.size≤16) (hl:l.length≤1000) (hl2:keys.length≤1000) (ks:List Int):∀ (k i:Nat) (b:List Int),l.drop i=ks→ks.length+keys.length+40<k→b.length≤1000000+300000 * i→i≤l.length →
    node_bytesOf.l1 k b l (l.length:Int) (i:Int) false cs keys l=some (b++ks.flatMap putN++keys.flatMap putS):=by
  induction ks with
  | nil =>
    intro k i b hd hk hb hil
    obtain⟨k,rfl⟩:∃ m,k=m+1:=⟨k - 1,by omega⟩
    have hi:=drop_nil hd
    simp only [node_bytesOf.l1]
    rw [if_neg (by omega)]
    have h:=bytn_l2 keys hk2 hl2 keys k 0 b rfl (by omega) (by omega)
    rw [show ((0:Nat):Int)=0 from rfl] at h
    rw [h]
    simp
  | cons c ks ih =>
    intro k i b hd hk hb hil
    obtain⟨k,rfl⟩:∃ m,k=m+1:=⟨k - 1,by omega⟩
    obtain⟨hlt,hc,hd2⟩:=drop_step hd
    simp only [List.length_cons] at hk
    have hm:c∈l:=by rw [← hc];exact List.getElem_mem hlt
    have hw:=kid_wf (hg c hm)
    have hlen:=(putN_len hw).1
    simp only [node_bytesOf.l1]
    rw [if_pos (by omega),if_pos (by omega),if_pos (by omega),rdI hlt,hc,put_is hw (by omega) (by omega),w64 (x:=(i:Int)+1) (by omega),show (i:Int)+1=((i+1:Nat):Int) from rfl]
    simp only [Option.bind_some]
    have:=ih k (i+1) (b++putN c) hd2 (by omega) (by rw [List.length_append];omega) (by omega)
    rw [this,List.flatMap_cons,List.append_assoc b (putN c)]
theorem len_wf {n:Nat} (h:n≤1000):(Lit.int .i64 (n:Int)).wf=true:=txn_wf (by omega) (by omega)
theorem mayN_leaf {cs:List S62} {keys:List ByteArray} {kids:List Int} (h:mayN true cs keys kids=true):goodC none cs=true∧keys = []∧kids = []:=by
  unfold mayN at h
  rw [if_pos rfl] at h
  simp only [Bool.and_eq_true,decide_eq_true_eq] at h
  exact⟨h.1,List.eq_nil_of_length_eq_zero h.2.1,List.eq_nil_of_length_eq_zero h.2.2⟩
theorem mayN_inner {cs:List S62} {keys:List ByteArray} {kids:List Int} (h:mayN false cs keys kids=true):cs = []∧goodK none keys=true∧goodI kids=true∧1≤kids.length∧kids.length≤32∧keys.length+1=kids.length:=by
  unfold mayN at h
  rw [if_neg (by decide)] at h
  simp only [Bool.and_eq_true,decide_eq_true_eq] at h
  exact⟨List.eq_nil_of_length_eq_zero h.1,h.2.1,h.2.2.1,h.2.2.2.1,h.2.2.2.2.1,h.2.2.2.2.2⟩
theorem bytesnode_is {leaf:Bool} {cs:List S62} {keys:List ByteArray} {kids:List Int} (hm:mayN leaf cs keys kids=true) (hf:∀ x∈cs,FC x) (h1:cs.length≤1000) {k:Nat} (hk:4000≤k) :
    node_bytesOf.f k leaf cs keys kids=some (bytesN leaf cs keys kids):=by
  unfold node_bytesOf.f bytesN
  cases leaf
  · obtain⟨rfl,g1,g2,n1,n2,n3⟩:=mayN_inner hm
    rw [if_neg (by decide),if_neg (by decide),put_is (len_wf (by omega)) (by omega) (by simp)]
    simp only [Option.bind_some]
    have hl:=(putN_len (len_wf (n:=kids.length) (by omega))).1
    have h:=bytn_l1 kids keys [] (good_kids g2) (fun x hx=>(good_keys g1 x hx).2) (by omega) (by omega) kids k 0 ([2]++putN (kids.length:Int)) rfl (by omega) (by simp only [List.length_append,List.length_cons,List.length_nil];omega) (by omega)
    rw [show ((0:Nat):Int)=0 from rfl] at h
    exact h
  · obtain⟨g1,rfl,rfl⟩:=mayN_leaf hm
    rw [if_pos rfl,if_pos rfl,put_is (len_wf h1) (by omega) (by simp)]
    simp only [Option.bind_some]
    have hl:=(putN_len (len_wf h1)).1
    have h:=bytn_l0 cs (good_cells g1) hf h1 cs k 0 ([1]++putN (cs.length:Int)) rfl (by omega) (by simp only [List.length_append,List.length_cons,List.length_nil];omega)
    rw [show ((0:Nat):Int)=0 from rfl] at h
    exact h
/-- Bytes, and noughts up to 256. -/
def padN (b:List Int):List Int:=b++List.replicate (256 - b.length) 0
/-- What a node goes to. -/
def encN (leaf:Bool) (cs:List S62) (keys:List ByteArray) (kids:List Int):List Int × Int :=
  if mayN leaf cs keys kids=true then (if (bytesN leaf cs keys kids).length>256 then ([],4) else (padN (bytesN leaf cs keys kids),0)) else ([],1)
theorem encode_is {leaf:Bool} {cs:List S62} {keys:List ByteArray} {kids:List Int} (hf:∀ x∈cs,FC x) (h1:cs.length≤1000) (h2:keys.length≤1000) (h3:kids.length≤1000) {k:Nat} (hk:4000≤k) :
    node_Encode.f k leaf cs keys kids=some (encN leaf cs keys kids):=by
  unfold node_Encode.f encN
  rw [maynode_is leaf cs keys kids h1 h2 h3 hk]
  simp only [Option.bind_some]
  by_cases hm:mayN leaf cs keys kids=true
  · rw [if_pos hm,if_pos hm,bytesnode_is hm hf h1 hk]
    simp only [Option.bind_some]
    by_cases hl:(bytesN leaf cs keys kids).length>256
    · rw [if_pos (by omega),if_pos hl]
    · rw [if_neg (by omega),if_neg hl,w64 (x:=256 - ((bytesN leaf cs keys kids).length:Int)) (by omega),if_pos (by omega),if_pos (by omega)]
      unfold padN
      rw [show (256 - ((bytesN leaf cs keys kids).length:Int)).toNat=256 - (bytesN leaf cs keys kids).length by omega]
  · rw [if_neg hm,if_neg hm]
def toC (x:S56):S62:=⟨x.f0,x.f1,x.f2,x.f3⟩
theorem ofn_l0 (leaf:Bool) (l:List S56) (keys:List ByteArray) (kids:List Int) (hl:l.length≤1000) (cs:List S56):∀ (k i:Nat) (acc:List S62),l.drop i=cs→cs.length+2<k→acc.length≤i →
    engrosslaw11_Of.l0 k (i:Int) leaf l keys kids leaf acc keys kids=some (leaf,acc++cs.map toC,keys,kids):=by
  induction cs with
  | nil =>
    intro k i acc hd hk ha
    obtain⟨k,rfl⟩:∃ m,k=m+1:=⟨k - 1,by omega⟩
    have hi:=drop_nil hd
    simp only [engrosslaw11_Of.l0]
    rw [if_neg (by omega)]
    simp
  | cons c cs ih =>
    intro k i acc hd hk ha
    obtain⟨k,rfl⟩:∃ m,k=m+1:=⟨k - 1,by omega⟩
    obtain⟨hlt,hc,hd2⟩:=drop_step hd
    simp only [List.length_cons] at hk
    simp only [engrosslaw11_Of.l0]
    rw [if_pos (by omega),if_pos (by omega),rd56 hlt,hc]
    simp only [engrosslaw10_Of.f,Option.bind_some]
    rw [if_pos (by omega),w64 (x:=(i:Int)+1) (by omega),show (i:Int)+1=((i+1:Nat):Int) from rfl]
    have:=ih k (i+1) (acc++[toC c]) hd2 (by omega) (by rw [List.length_append];simp;omega)
    rw [show (⟨c.f0,(⟨c.f1.f0,c.f1.f1,c.f1.f2⟩:S54),c.f2,(⟨c.f3.f0,c.f3.f1,c.f3.f2⟩:S54)⟩:S62)=toC c from rfl,this]
    simp
theorem ofn_is (leaf:Bool) (l:List S56) (keys:List ByteArray) (kids:List Int) (hl:l.length≤1000) {k:Nat} (hk:1010≤k):engrosslaw11_Of.f k leaf l keys kids=some (leaf,l.map toC,keys,kids):=by
  unfold engrosslaw11_Of.f
  have:=ofn_l0 leaf l keys kids hl l k 0 [] rfl (by omega) (by simp)
  rw [show ((0:Nat):Int)=0 from rfl] at this
  rw [this]
  simp
end Go.Proofs.Ytmmjpieafbjggaa.Pure
end
section
set_option linter.unusedVariables false
set_option linter.unusedSimpArgs false
namespace Go.Proofs.Ytmmjpieafbjggaa.Pure
open Go.RowKit Go.Proofs.Ytmmjpieafbjggaa.P Go.Proofs.YtmmjpieafbjggaaW.PrintWords Go.Proofs.YtmmjpieafbjggaaW.PrintLast Go.Proofs.YtmmjpieafbjggaaW.PrintMore
theorem val10 (kd:Int) (f:Nat) (s:ByteArray):∃ t:ByteArray,engrosslaw10_Val.f kd f s=some (kd,f,t)∧t.size≤25:=by
  unfold engrosslaw10_Val.f
  obtain⟨t,e,h,_⟩:=cut_is s (n:=25)
  rw [show (25:Int)=((25:Nat):Int) from rfl,e]
  exact⟨t,rfl,h⟩
theorem cut10 (s:ByteArray) (kd:Int) (f:Nat) (t:ByteArray) (x:Int) (kd':Int) (f':Nat) (t':ByteArray) :
    ∃ s2 t2 t2':ByteArray,engrosslaw10_Cut.f s kd f t x kd' f' t'=some (s2,kd,f,t2,x,kd',f',t2')∧s2.size≤20∧t2.size≤25∧t2'.size≤25:=by
  unfold engrosslaw10_Cut.f
  obtain⟨s2,e,h,_⟩:=cut_is s (n:=20)
  obtain⟨t2,e2,h2⟩:=val10 kd f t
  obtain⟨t3,e3,h3⟩:=val10 kd' f' t'
  rw [show (20:Int)=((20:Nat):Int) from rfl,e,e2,e3]
  exact⟨s2,t2,t3,rfl,h,h2,h3⟩
end Go.Proofs.Ytmmjpieafbjggaa.Pure
end
section
set_option linter.unusedVariables false
set_option linter.unusedSimpArgs false
namespace Go.Proofs.Ytmmjpieafbjggaa.Pure
open Go.RowKit Go.Proofs.Ytmmjpieafbjggaa.P Go.Proofs.YtmmjpieafbjggaaW.PrintWords Go.Proofs.YtmmjpieafbjggaaW.PrintLast Go.Proofs.YtmmjpieafbjggaaW.PrintMore
theorem nat_succ (i:Nat):(i:Int)+1=((i+1:Nat):Int):=rfl
/-- The floats of cells are 64 bits. -/
def FL (l:List S56):Prop:=∀ x∈l,FC (toC x)
theorem rmayn_l0 (leaf:Bool) (l:List S56) (hf:FL l) (keys:List ByteArray) (kids:List Int) (hl:l.length≤1000) (cs:List S56):∀ (k i:Nat),l.drop i=cs→cs.length<k →
    engrossref10_MayNode.l0 k (i:Int) leaf l keys kids=some (goodC ((prevO l i).map S56.f0) (cs.map toC) && (decide (keys.length=0) && decide (kids.length=0))):=by
  induction cs with
  | nil =>
    intro k i hd hk
    obtain⟨k,rfl⟩:∃ m,k=m+1:=⟨k - 1,by omega⟩
    have hi:=drop_nil hd
    simp only [engrossref10_MayNode.l0]
    rw [if_neg (by omega)]
    simp only [goodC,List.map_nil,Bool.true_and]
    by_cases h0:keys.length=0
    · rw [if_pos (by omega),decide_eq_true h0,Bool.true_and]
      congr 1
      rw [Bool.eq_iff_iff]
      simp only [beq_iff_eq,decide_eq_true_eq]
      omega
    · rw [if_neg (by omega),decide_eq_false h0,Bool.false_and]
  | cons c cs ih =>
    intro k i hd hk
    obtain⟨k,rfl⟩:∃ m,k=m+1:=⟨k - 1,by omega⟩
    obtain⟨hlt,hc,hd2⟩:=drop_step hd
    simp only [List.length_cons] at hk
    have hm:c∈l:=by rw [← hc];exact List.getElem_mem hlt
    have hfc:=hf c hm
    have hm0:engrossref10_May.f c.f0 c.f1.f0 c.f1.f1 c.f1.f2 c.f2 c.f3.f0 c.f3.f1 c.f3.f2=some (mayCell (toC c)):=rmaycell_is _ _ hfc.1 _ _ _ hfc.2 _
    simp only [engrossref10_MayNode.l0]
    rw [if_pos (by omega),if_pos (by omega),rd56 hlt,hc,hm0,w64 (x:=(i:Int)+1) (by omega),nat_succ]
    simp only [Option.bind_some,goodC,List.map_cons]
    have hih:=ih k (i+1) hd2 (by omega)
    rw [prevO_succ hd] at hih
    cases hm:mayCell (toC c)
    · rw [if_neg (by decide)]
      simp
    · rw [if_pos rfl]
      by_cases h0:0<i
      · obtain⟨hlt',hp⟩:=prevO_pos (l:=l) h0 (by omega)
        rw [if_pos (by omega),w64 (x:=(i:Int) - 1) (by omega),show (i:Int) - 1=((i - 1:Nat):Int) by omega,if_pos (by omega),if_pos (by omega),rd56 hlt',hp]
        simp only [Option.map_some,ltO]
        by_cases hb:Op.bytesLess (l[i - 1].f0).toList (c.f0).toList=true
        · rw [if_pos hb,hih,show (toC c).f0=c.f0 from rfl,hb]
          simp
        · rw [if_neg hb,show (toC c).f0=c.f0 from rfl,Bool.eq_false_iff.2 hb]
          simp
      · have hi0:i=0:=by omega
        subst hi0
        rw [if_neg (by omega),hih,prevO_zero]
        simp [ltO,toC]
theorem rmayn_l2 (leaf:Bool) (l:List ByteArray) (kids:List Int) (cs:List S56) (hl:l.length≤1000) (ks:List ByteArray):∀ (k i:Nat),l.drop i=ks→ks.length<k →
    engrossref10_MayNode.l2 k (i:Int) leaf cs l kids=some (goodK (prevO l i) ks):=by
  induction ks with
  | nil =>
    intro k i hd hk
    obtain⟨k,rfl⟩:∃ m,k=m+1:=⟨k - 1,by omega⟩
    have hi:=drop_nil hd
    simp only [engrossref10_MayNode.l2]
    rw [if_neg (by omega)]
    simp [goodK]
  | cons c ks ih =>
    intro k i hd hk
    obtain⟨k,rfl⟩:∃ m,k=m+1:=⟨k - 1,by omega⟩
    obtain⟨hlt,hc,hd2⟩:=drop_step hd
    simp only [List.length_cons] at hk
    simp only [engrossref10_MayNode.l2]
    have hih:=ih k (i+1) hd2 (by omega)
    rw [prevO_succ hd] at hih
    rw [if_pos (by omega),if_pos (by omega),rdS hlt,hc,rmaykey_is,w64 (x:=(i:Int)+1) (by omega),nat_succ]
    simp only [Option.bind_some,goodK]
    cases hm:mayK c
    · rw [if_neg (by decide)]
      simp
    · rw [if_pos rfl]
      by_cases h0:0<i
      · obtain⟨hlt',hp⟩:=prevO_pos (l:=l) h0 (by omega)
        rw [if_pos (by omega),w64 (x:=(i:Int) - 1) (by omega),show (i:Int) - 1=((i - 1:Nat):Int) by omega,if_pos (by omega),if_pos (by omega),rdS hlt',hp]
        simp only [ltO]
        by_cases hb:Op.bytesLess (l[i - 1]).toList c.toList=true
        · rw [if_pos hb,hih,hb]
          simp
        · rw [if_neg hb,Bool.eq_false_iff.2 hb]
          simp
      · have hi0:i=0:=by omega
        subst hi0
        rw [if_neg (by omega),hih,prevO_zero]
        simp [ltO]
theorem rmayn_l1 (leaf:Bool) (l:List Int) (keys:List ByteArray) (cs:List S56) (hl:l.length≤1000) (hl2:keys.length≤1000) (ks:List Int):∀ (k i:Nat),l.drop i=ks→ks.length+keys.length+2<k →
    engrossref10_MayNode.l1 k (i:Int) leaf cs keys l=some (goodI ks && goodK none keys):=by
  induction ks with
  | nil =>
    intro k i hd hk
    obtain⟨k,rfl⟩:∃ m,k=m+1:=⟨k - 1,by omega⟩
    have hi:=drop_nil hd
    simp only [engrossref10_MayNode.l1]
    rw [if_neg (by omega)]
    have h:=rmayn_l2 leaf keys l cs hl2 keys k 0 rfl (by omega)
    rw [show ((0:Nat):Int)=0 from rfl,prevO_zero] at h
    rw [h]
    simp [goodI]
  | cons c ks ih =>
    intro k i hd hk
    obtain⟨k,rfl⟩:∃ m,k=m+1:=⟨k - 1,by omega⟩
    obtain⟨hlt,hc,hd2⟩:=drop_step hd
    simp only [List.length_cons] at hk
    simp only [engrossref10_MayNode.l1]
    have hih:=ih k (i+1) hd2 (by omega)
    rw [if_pos (by omega),if_pos (by omega),rdI hlt,hc,w64 (x:=(i:Int)+1) (by omega),nat_succ,hih]
    simp only [goodI,List.all_cons]
    by_cases h2:c<2
    · rw [if_pos h2,decide_eq_false (show ¬ 2≤c by omega)]
      simp
    · rw [if_neg h2,decide_eq_true (show 2≤c by omega)]
      by_cases h3:c>31
      · rw [if_pos h3,decide_eq_false (show ¬ c<32 by omega)]
        simp
      · rw [if_neg h3,decide_eq_true (show c<32 by omega)]
        simp
theorem rmaynode_is (leaf:Bool) (l:List S56) (hf:FL l) (keys:List ByteArray) (kids:List Int) (h1:l.length≤1000) (h2:keys.length≤1000) (h3:kids.length≤1000) {k:Nat} (hk:4000≤k) :
    engrossref10_MayNode.f k leaf l keys kids=some (mayN leaf (l.map toC) keys kids):=by
  unfold engrossref10_MayNode.f mayN
  cases leaf
  · obtain⟨k,rfl⟩:∃ m,k=m+1:=⟨k - 1,by omega⟩
    have hff:¬ (false=true):=by decide
    rw [if_neg hff,if_neg hff,List.length_map]
    simp only [engrossref10_MayNode.j1]
    have h:=rmayn_l1 false kids keys l h3 h2 kids k 0 rfl (by omega)
    rw [show ((0:Nat):Int)=0 from rfl] at h
    rw [h]
    by_cases c0:l.length=0
    · rw [if_pos (by omega),decide_eq_true c0,Bool.true_and]
      by_cases c1:kids.length<1
      · rw [if_pos (by omega),if_pos trivial,decide_eq_false (show ¬ 1≤kids.length by omega)]
        simp
      · rw [if_neg (by omega),decide_eq_true (show 1≤kids.length by omega)]
        by_cases c2:kids.length>32
        · rw [if_pos (by omega),if_pos trivial,decide_eq_false (show ¬ kids.length≤32 by omega)]
          simp
        · rw [if_neg (by omega),decide_eq_true (show kids.length≤32 by omega),w64 (x:=(kids.length:Int) - 1) (by omega)]
          by_cases c3:keys.length+1=kids.length
          · rw [if_neg (by simp only [bne_iff_ne,ne_eq,Decidable.not_not];omega),decide_eq_true c3,Bool.and_comm]
            simp
          · rw [if_pos (by simp only [bne_iff_ne,ne_eq];omega),decide_eq_false c3]
            simp
    · rw [if_neg (by omega),if_pos trivial,decide_eq_false c0,Bool.false_and]
  · rw [if_pos rfl,if_pos rfl]
    have h:=rmayn_l0 true l hf keys kids h1 l k 0 rfl (by omega)
    rw [show ((0:Nat):Int)=0 from rfl,prevO_zero] at h
    exact h
theorem cutn_l2 (leaf:Bool) (l:List S56) (keys:List ByteArray) (kids:List Int) (r:Bool) (xs:List S56) (ys:List ByteArray) (d:Nat):∀ (k i:Nat) (zs:List Int),41 - i≤d→d<k→zs.length≤i→i≤40 →
    ∃ zs':List Int,engrosslaw11_Cut.l2 k (i:Int) leaf l keys kids r xs ys zs=some (r,xs,ys,zs')∧zs'.length≤40:=by
  induction d with
  | zero=>intro k i zs h;omega
  | succ d ih =>
    intro k i zs hd hk hz hi
    obtain⟨k,rfl⟩:∃ m,k=m+1:=⟨k - 1,by omega⟩
    simp only [engrosslaw11_Cut.l2]
    by_cases h1:(i:Int)<(kids.length:Int)
    · rw [if_pos h1]
      by_cases h2:(i:Int)<40
      · rw [if_pos h2,if_pos (by omega),if_pos (by omega),w64 (x:=(i:Int)+1) (by omega),nat_succ]
        exact ih k (i+1) _ (by omega) (by omega) (by rw [List.length_append];simp;omega) (by omega)
      · rw [if_neg h2]
        exact⟨zs,rfl,by omega⟩
    · rw [if_neg h1]
      exact⟨zs,rfl,by omega⟩
theorem cutn_l1 (leaf:Bool) (l:List S56) (keys:List ByteArray) (kids:List Int) (r:Bool) (xs:List S56) (d:Nat):∀ (k i:Nat) (ys:List ByteArray),41 - i≤d→d+50<k→ys.length≤i→i≤40 →
    ∃ (ys':List ByteArray) (zs':List Int),engrosslaw11_Cut.l1 k (i:Int) leaf l keys kids r xs ys=some (r,xs,ys',zs')∧ys'.length≤40∧zs'.length≤40:=by
  induction d with
  | zero=>intro k i zs h;omega
  | succ d ih =>
    intro k i ys hd hk hy hi
    obtain⟨k,rfl⟩:∃ m,k=m+1:=⟨k - 1,by omega⟩
    have fin:∃ (ys':List ByteArray) (zs':List Int),engrosslaw11_Cut.j3 k leaf l keys kids r xs ys=some (r,xs,ys',zs')∧ys'.length≤40∧zs'.length≤40:=by
      obtain⟨k,rfl⟩:∃ m,k=m+1:=⟨k - 1,by omega⟩
      simp only [engrosslaw11_Cut.j3]
      obtain⟨zs',e,h⟩:=cutn_l2 leaf l keys kids r xs ys 41 k 0 [] (by omega) (by omega) (by simp) (by omega)
      rw [show ((0:Nat):Int)=0 from rfl] at e
      exact⟨ys,zs',e,by omega,h⟩
    simp only [engrosslaw11_Cut.l1]
    by_cases h1:(i:Int)<(keys.length:Int)
    · rw [if_pos h1]
      by_cases h2:(i:Int)<40
      · obtain⟨t,e,h,_⟩:=cut_is (rdOf ByteArray.empty keys (i:Int)) (n:=20)
        rw [show ((20:Nat):Int)=20 from rfl] at e
        rw [if_pos h2,if_pos (by omega),e,w64 (x:=(i:Int)+1) (by omega),nat_succ]
        simp only [Option.bind_some]
        rw [if_pos (by omega)]
        exact ih k (i+1) _ (by omega) (by omega) (by rw [List.length_append];simp;omega) (by omega)
      · rw [if_neg h2]
        exact fin
    · rw [if_neg h1]
      exact fin
theorem rd56_in {l:List S56} (hf:FL l) {i:Int} (h0:0≤i) (h:i<(l.length:Int)):FC (toC (rd_T56 l i)):=by
  obtain⟨n,rfl⟩:∃ n:Nat,i=(n:Int):=⟨i.toNat,by omega⟩
  rw [rd56 (show n<l.length by omega)]
  exact hf _ (List.getElem_mem _)
theorem cutn_l0 (leaf:Bool) (l:List S56) (hf:FL l) (keys:List ByteArray) (kids:List Int) (r:Bool) (d:Nat):∀ (k i:Nat) (xs:List S56),41 - i≤d→d+100<k→xs.length≤i→i≤40→FL xs →
    ∃ (xs':List S56) (ys':List ByteArray) (zs':List Int),engrosslaw11_Cut.l0 k (i:Int) leaf l keys kids r xs=some (r,xs',ys',zs')∧FL xs'∧xs'.length≤40∧ys'.length≤40∧zs'.length≤40:=by
  induction d with
  | zero=>intro k i zs h;omega
  | succ d ih =>
    intro k i xs hd hk hx hi hfx
    obtain⟨k,rfl⟩:∃ m,k=m+1:=⟨k - 1,by omega⟩
    have fin:∃ (xs':List S56) (ys':List ByteArray) (zs':List Int),engrosslaw11_Cut.j1 k leaf l keys kids r xs=some (r,xs',ys',zs')∧FL xs'∧xs'.length≤40∧ys'.length≤40∧zs'.length≤40:=by
      obtain⟨k,rfl⟩:∃ m,k=m+1:=⟨k - 1,by omega⟩
      simp only [engrosslaw11_Cut.j1]
      obtain⟨ys',zs',e,h,h2⟩:=cutn_l1 leaf l keys kids r xs 41 k 0 [] (by omega) (by omega) (by simp) (by omega)
      rw [show ((0:Nat):Int)=0 from rfl] at e
      exact⟨xs,ys',zs',e,hfx,by omega,h,h2⟩
    simp only [engrosslaw11_Cut.l0]
    by_cases h1:(i:Int)<(l.length:Int)
    · rw [if_pos h1]
      by_cases h2:(i:Int)<40
      · have hfi:=rd56_in hf (by omega:0≤(i:Int)) h1
        generalize hc:rd_T56 l (i:Int)=c at hfi
        obtain⟨s2,t2,t3,e,_⟩:=cut10 c.f0 c.f1.f0 c.f1.f1 c.f1.f2 c.f2 c.f3.f0 c.f3.f1 c.f3.f2
        rw [if_pos h2,if_pos (by omega),e,w64 (x:=(i:Int)+1) (by omega),nat_succ]
        simp only [Option.bind_some]
        rw [if_pos (by omega)]
        refine ih k (i+1) _ (by omega) (by omega) (by rw [List.length_append];simp;omega) (by omega) ?_
        intro x hx
        rcases List.mem_append.1 hx with hx|hx
        · exact hfx x hx
        · rw [List.mem_singleton.1 hx]
          exact hfi
      · rw [if_neg h2]
        exact fin
    · rw [if_neg h1]
      exact fin
theorem cutnode (leaf:Bool) (l:List S56) (hf:FL l) (keys:List ByteArray) (kids:List Int) {k:Nat} (hk:200≤k) :
    ∃ (xs':List S56) (ys':List ByteArray) (zs':List Int),engrosslaw11_Cut.f k leaf l keys kids=some (leaf,xs',ys',zs')∧FL xs'∧xs'.length≤40∧ys'.length≤40∧zs'.length≤40:=by
  have:=cutn_l0 leaf l hf keys kids leaf 41 k 0 [] (by omega) (by omega) (by simp) (by omega) (fun x hx=>by cases hx)
  rw [show ((0:Nat):Int)=0 from rfl] at this
  exact this
end Go.Proofs.Ytmmjpieafbjggaa.Pure
end
section
set_option linter.unusedVariables false
set_option linter.unusedSimpArgs false
namespace Go.Proofs.Ytmmjpieafbjggaa.Pure
open Go.RowKit Go.Proofs.Ytmmjpieafbjggaa.P Go.Proofs.YtmmjpieafbjggaaW.PrintWords Go.Proofs.YtmmjpieafbjggaaW.PrintLast Go.Proofs.YtmmjpieafbjggaaW.PrintMore
theorem wf_FL {x:S26} (h:wf26 x):FL x.f1:=fun y hy=>⟨(h.2.1.2 y hy).2.1.2.1,(h.2.1.2 y hy).2.2.2.2.1⟩
theorem FL_map {l:List S56} (h:FL l):∀ x∈l.map toC,FC x:=by
  intro x hx
  obtain⟨y,hy,rfl⟩:=List.mem_map.1 hx
  exact h y hy
end Go.Proofs.Ytmmjpieafbjggaa.Pure
end
section
set_option linter.unusedVariables false
set_option linter.unusedSimpArgs false
namespace Go.Proofs.Ytmmjpieafbjggaa.Pure
open Go.RowKit Go.Proofs.Ytmmjpieafbjggaa.P Go.Proofs.YtmmjpieafbjggaaW.PrintWords Go.Proofs.YtmmjpieafbjggaaW.PrintLast Go.Proofs.YtmmjpieafbjggaaW.PrintMore
/-- Texts, each below the next ones. -/
def Rise (l:List ByteArray):Prop:=∀ (i j:Nat) (hi:i<l.length) (hj:j<l.length),i<j→Op.bytesLess l[i].toList l[j].toList=true
theorem rise_cons {c:ByteArray} {cs:List ByteArray} (h:∀ x∈cs,Op.bytesLess c.toList x.toList=true) (hr:Rise cs):Rise (c :: cs):=by
  intro i j hi hj hij
  cases j with
  | zero=>omega
  | succ j =>
    simp only [List.length_cons] at hi hj
    cases i with
    | zero=>exact h _ (List.getElem_mem (by omega))
    | succ i=>exact hr i j (by omega) (by omega) (by omega)
theorem good_rise:∀ {l:List ByteArray} {p:Option ByteArray},goodK p l=true→Rise l∧∀ q,p=some q→∀ x∈l,Op.bytesLess q.toList x.toList=true
 | [],_,_=>⟨fun i j hi=>by simp at hi,fun q _ x hx=>by cases hx⟩
 | c :: cs,p,h=>by
  simp only [goodK,Bool.and_eq_true] at h
  obtain⟨_,h2,h3⟩:=h
  obtain⟨r1,r2⟩:=good_rise h3
  refine⟨rise_cons (r2 c rfl) r1,fun q hq x hx=>?_⟩
  subst hq
  simp only [ltO] at h2
  rcases List.mem_cons.1 hx with e|hx
  · rw [e];exact h2
  · exact less_trans _ _ _ h2 (r2 c rfl x hx)
end Go.Proofs.Ytmmjpieafbjggaa.Pure
end
section
set_option linter.unusedVariables false
set_option linter.unusedSimpArgs false
namespace Go.Proofs.Ytmmjpieafbjggaa.Pure
open Go.RowKit Go.Proofs.Ytmmjpieafbjggaa.P Go.Proofs.YtmmjpieafbjggaaW.PrintWords Go.Proofs.YtmmjpieafbjggaaW.PrintLast Go.Proofs.YtmmjpieafbjggaaW.PrintMore
theorem cid (s:ByteArray) {n:Nat} (h:s.size≤n):engrosslaw1_Cut.f s (n:Int)=some s:=by
  obtain⟨t,e,_,he⟩:=cut_is s (n:=n)
  rw [e,he h]
theorem cid10 (s:ByteArray) (kd:Int) (f:Nat) (t:ByteArray) (x:Int) (kd':Int) (f':Nat) (t':ByteArray) (h:s.size≤20) (h1:t.size≤25) (h2:t'.size≤25) :
    engrosslaw10_Cut.f s kd f t x kd' f' t'=some (s,kd,f,t,x,kd',f',t'):=by
  have v1:engrosslaw10_Val.f kd f t=some (kd,f,t):=by
    unfold engrosslaw10_Val.f
    rw [show (25:Int)=((25:Nat):Int) from rfl,cid t h1]
    rfl
  have v2:engrosslaw10_Val.f kd' f' t'=some (kd',f',t'):=by
    unfold engrosslaw10_Val.f
    rw [show (25:Int)=((25:Nat):Int) from rfl,cid t' h2]
    rfl
  unfold engrosslaw10_Cut.f
  rw [show (20:Int)=((20:Nat):Int) from rfl,cid s h,v1,v2]
  rfl
theorem cid_l2 (leaf:Bool) (l:List S56) (keys:List ByteArray) (kids:List Int) (hl:kids.length≤40) (r:Bool) (xs:List S56) (ys:List ByteArray) (cs:List Int):∀ (k i:Nat) (zs:List Int),kids.drop i=cs→cs.length<k→zs.length≤i →
    engrosslaw11_Cut.l2 k (i:Int) leaf l keys kids r xs ys zs=some (r,xs,ys,zs++cs):=by
  induction cs with
  | nil =>
    intro k i zs hd hk hz
    obtain⟨k,rfl⟩:∃ m,k=m+1:=⟨k - 1,by simp at hk;omega⟩
    have:=drop_nil hd
    simp only [engrosslaw11_Cut.l2]
    rw [if_neg (by omega),List.append_nil]
  | cons c cs ih =>
    intro k i zs hd hk hz
    simp only [List.length_cons] at hk
    obtain⟨k,rfl⟩:∃ m,k=m+1:=⟨k - 1,by omega⟩
    obtain⟨hlt,h1,h2⟩:=drop_step hd
    simp only [engrosslaw11_Cut.l2]
    rw [if_pos (by omega),if_pos (by omega),if_pos (by omega),if_pos (by omega),rdI hlt,h1,w64 (x:=(i:Int)+1) (by omega),nat_succ,ih k (i+1) _ h2 (by omega) (by rw [List.length_append];simp;omega),List.append_assoc]
    rfl
theorem cid_l1 (leaf:Bool) (l:List S56) (keys:List ByteArray) (kids:List Int) (hl:keys.length≤40) (hl2:kids.length≤40) (hs:∀ x∈keys,x.size≤20) (r:Bool) (xs:List S56) (cs:List ByteArray):∀ (k i:Nat) (ys:List ByteArray),keys.drop i=cs→cs.length+50<k→ys.length≤i →
    engrosslaw11_Cut.l1 k (i:Int) leaf l keys kids r xs ys=some (r,xs,ys++cs,kids):=by
  induction cs with
  | nil =>
    intro k i ys hd hk hz
    obtain⟨k,rfl⟩:∃ m,k=m+2:=⟨k - 2,by simp at hk;omega⟩
    have:=drop_nil hd
    simp only [engrosslaw11_Cut.l1]
    rw [if_neg (by omega),List.append_nil]
    simp only [engrosslaw11_Cut.j3]
    have e:=cid_l2 leaf l keys kids hl2 r xs ys kids k 0 [] rfl (by simp at hk;omega) (by simp)
    rw [show ((0:Nat):Int)=0 from rfl] at e
    rw [e,List.nil_append]
  | cons c cs ih =>
    intro k i ys hd hk hz
    simp only [List.length_cons] at hk
    obtain⟨k,rfl⟩:∃ m,k=m+1:=⟨k - 1,by omega⟩
    obtain⟨hlt,h1,h2⟩:=drop_step hd
    have hc:c.size≤20:=by rw [← h1];exact hs _ (List.getElem_mem _)
    simp only [engrosslaw11_Cut.l1]
    rw [if_pos (by omega),if_pos (by omega),if_pos (by omega),rdS hlt,h1,show (20:Int)=((20:Nat):Int) from rfl,cid c hc]
    simp only [Option.bind_some]
    rw [if_pos (by omega),w64 (x:=(i:Int)+1) (by omega),nat_succ,ih k (i+1) _ h2 (by omega) (by rw [List.length_append];simp;omega),List.append_assoc]
    rfl
theorem cid_l0 (leaf:Bool) (l:List S56) (keys:List ByteArray) (kids:List Int) (h0:l.length≤40) (hl:keys.length≤40) (hl2:kids.length≤40) (hc:∀ x∈l,x.f0.size≤20∧x.f1.f2.size≤25∧x.f3.f2.size≤25) (hs:∀ x∈keys,x.size≤20) (r:Bool) (cs:List S56):∀ (k i:Nat) (xs:List S56),l.drop i=cs→cs.length+100<k→xs.length≤i →
    engrosslaw11_Cut.l0 k (i:Int) leaf l keys kids r xs=some (r,xs++cs,keys,kids):=by
  induction cs with
  | nil =>
    intro k i xs hd hk hz
    obtain⟨k,rfl⟩:∃ m,k=m+2:=⟨k - 2,by simp at hk;omega⟩
    have:=drop_nil hd
    simp only [engrosslaw11_Cut.l0]
    rw [if_neg (by omega),List.append_nil]
    simp only [engrosslaw11_Cut.j1]
    have e:=cid_l1 leaf l keys kids hl hl2 hs r xs keys k 0 [] rfl (by simp at hk;omega) (by simp)
    rw [show ((0:Nat):Int)=0 from rfl] at e
    rw [e,List.nil_append]
  | cons c cs ih =>
    intro k i xs hd hk hz
    simp only [List.length_cons] at hk
    obtain⟨k,rfl⟩:∃ m,k=m+1:=⟨k - 1,by omega⟩
    obtain⟨hlt,h1,h2⟩:=drop_step hd
    have hcc:=hc _ (List.getElem_mem hlt)
    rw [h1] at hcc
    simp only [engrosslaw11_Cut.l0]
    rw [if_pos (by omega),if_pos (by omega),if_pos (by omega),rd56 hlt,h1,cid10 c.f0 c.f1.f0 c.f1.f1 c.f1.f2 c.f2 c.f3.f0 c.f3.f1 c.f3.f2 hcc.1 hcc.2.1 hcc.2.2]
    simp only [Option.bind_some]
    rw [if_pos (by omega),w64 (x:=(i:Int)+1) (by omega),nat_succ,ih k (i+1) _ h2 (by omega) (by rw [List.length_append];simp;omega),List.append_assoc]
    rfl
theorem cidnode (leaf:Bool) (l:List S56) (keys:List ByteArray) (kids:List Int) (h0:l.length≤40) (hl:keys.length≤40) (hl2:kids.length≤40) (hm:mayN leaf (l.map toC) keys kids=true) {k:Nat} (hk:200≤k) :
    engrosslaw11_Cut.f k leaf l keys kids=some (leaf,l,keys,kids):=by
  have hc:∀ x∈l,x.f0.size≤20∧x.f1.f2.size≤25∧x.f3.f2.size≤25:=by
    intro x hx
    have:mayCell (toC x)=true:=by
      cases leaf
      · have:=(mayN_inner hm).1
        have:l = []:=by simpa using this
        rw [this] at hx
        cases hx
      · exact good_cells (mayN_leaf hm).1 _ (List.mem_map_of_mem hx)
    obtain⟨a,_,b,_,_,c⟩:=cell_parts this
    exact⟨Nat.le_trans a (by decide),Nat.le_trans b (by decide),Nat.le_trans c (by decide)⟩
  have hs:∀ x∈keys,x.size≤20:=by
    intro x hx
    cases leaf
    · have:=(good_keys (mayN_inner hm).2.1 x hx).2
      omega
    · rw [(mayN_leaf hm).2.1] at hx
      cases hx
  have:=cid_l0 leaf l keys kids h0 hl hl2 hc hs leaf l k 0 [] rfl (by omega) (by simp)
  rw [show ((0:Nat):Int)=0 from rfl] at this
  exact this
def swp {α:Type} (l:List α) (a b:Nat) (ha:a<l.length) (hb:b<l.length):List α:=(l.set a l[b]).set b l[a]
theorem swp_same {α:Type} (l:List α) (a:Nat) (ha:a<l.length):swp l a a ha ha=l:=by
  unfold swp
  rw [List.set_set,List.set_getElem_self]
theorem swp_rise {l:List ByteArray} (hr:Rise l) {a b:Nat} (ha:a<l.length) (hb:b<l.length) (hab:a≠b):¬ Rise (swp l a b ha hb):=by
  intro h
  have la:a<(swp l a b ha hb).length:=by simp [swp,ha]
  have lb:b<(swp l a b ha hb).length:=by simp [swp,hb]
  have ea:(swp l a b ha hb)[a]=l[b]:=by simp [swp,List.getElem_set,Ne.symm hab]
  have eb:(swp l a b ha hb)[b]=l[a]:=by simp [swp,List.getElem_set]
  rcases Nat.lt_or_gt_of_ne hab with g|g
  · have h1:=h a b la lb g
    rw [ea,eb,less_asym (hr a b ha hb g)] at h1
    cases h1
  · have h1:=h b a lb la g
    rw [ea,eb,less_asym (hr b a hb ha g)] at h1
    cases h1
theorem good_riseC:∀ {l:List S62} {p:Option ByteArray},goodC p l=true→Rise (l.map S62.f0)∧∀ q,p=some q→∀ x∈l.map S62.f0,Op.bytesLess q.toList x.toList=true
 | [],_,_=>⟨fun i j hi=>by simp at hi,fun q _ x hx=>by cases hx⟩
 | c :: cs,p,h=>by
  simp only [goodC,Bool.and_eq_true] at h
  obtain⟨_,h2,h3⟩:=h
  obtain⟨r1,r2⟩:=good_riseC h3
  rw [List.map_cons]
  refine⟨rise_cons (r2 c.f0 rfl) r1,fun q hq x hx=>?_⟩
  subst hq
  simp only [ltO] at h2
  rcases List.mem_cons.1 hx with e|hx
  · rw [e];exact h2
  · exact less_trans _ _ _ h2 (r2 c.f0 rfl x hx)
theorem map_swp {α β:Type} (f:α→β) (l:List α) (a b:Nat) (ha:a<l.length) (hb:b<l.length):(swp l a b ha hb).map f=swp (l.map f) a b (by rw [List.length_map];exact ha) (by rw [List.length_map];exact hb):=by
  simp [swp,List.map_set]
/-- Cells swapped: still a node just if nothing changed. -/
theorem may_swpC {l:List S56} {keys:List ByteArray} {kids:List Int} (hm:mayN true (l.map toC) keys kids=true) {a b:Nat} (ha:a<l.length) (hb:b<l.length) :
    mayN true ((swp l a b ha hb).map toC) keys kids=decide (a=b):=by
  by_cases hab:a=b
  · subst hab
    rw [swp_same,hm,decide_eq_true rfl]
  · rw [decide_eq_false hab]
    refine Bool.eq_false_iff.2 fun h=>?_
    have g:=(good_riseC (mayN_leaf h).1).1
    have g0:=(good_riseC (mayN_leaf hm).1).1
    rw [map_swp,map_swp] at g
    exact swp_rise g0 _ _ hab g
theorem may_swpK {cs:List S62} {keys:List ByteArray} {kids:List Int} (hm:mayN false cs keys kids=true) {a b:Nat} (ha:a<keys.length) (hb:b<keys.length) :
    mayN false cs (swp keys a b ha hb) kids=decide (a=b):=by
  by_cases hab:a=b
  · subst hab
    rw [swp_same,hm,decide_eq_true rfl]
  · rw [decide_eq_false hab]
    refine Bool.eq_false_iff.2 fun h=>?_
    have g:=(good_rise (mayN_inner h).2.1).1
    exact swp_rise (good_rise (mayN_inner hm).2.1).1 _ _ hab g
theorem ord_j2 {leaf:Bool} {l:List S56} {ks:List ByteArray} {ids:List Int} (hf:FL l) (h1:l.length≤40) (h2:ks.length≤40) (h3:ids.length≤40) (x:Bool) (hx:mayN leaf (l.map toC) ks ids=x) {k:Nat} (hk:5000≤k) :
    engrosslaw11_NodeOrder.j2 k x leaf l ks ids=some true:=by
  obtain⟨k,rfl⟩:∃ m,k=m+1:=⟨k - 1,by omega⟩
  have hl:(l.map toC).length≤1000:=by rw [List.length_map];omega
  simp only [engrosslaw11_NodeOrder.j2]
  rw [ofn_is leaf l ks ids (by omega) (by omega)]
  simp only [Option.bind_some]
  rw [encode_is (FL_map hf) hl (by omega) (by omega) (by omega),maynode_is leaf (l.map toC) ks ids hl (by omega) (by omega) (by omega)]
  simp only [Option.bind_some]
  rw [hx,if_pos (by simp)]
  cases x
  · rw [if_neg (by decide)]
    unfold encN
    rw [if_neg (by rw [hx];decide)]
    rfl
  · rw [if_pos rfl]
theorem FL_swp {l:List S56} (hf:FL l) {a b:Nat} (ha:a<l.length) (hb:b<l.length):FL (swp l a b ha hb):=by
  intro x hx
  unfold swp at hx
  rcases List.mem_or_eq_of_mem_set hx with hx|rfl
  · rcases List.mem_or_eq_of_mem_set hx with hx|rfl
    · exact hf x hx
    · exact hf _ (List.getElem_mem _)
  · exact hf _ (List.getElem_mem _)
theorem ord_j1 {leaf:Bool} {l:List S56} {ks:List ByteArray} {ids:List Int} (hf:FL l) (h1:l.length≤40) (h2:ks.length≤40) (h3:ids.length≤40) (hm:mayN leaf (l.map toC) ks ids=true) (i j:Nat) {k:Nat} (hk:5001≤k) :
    engrosslaw11_NodeOrder.j1 k (i:Int) (j:Int) true (leaf && decide ((l.length:Int)>1)) leaf l ks ids leaf l ks ids=some true:=by
  obtain⟨k,rfl⟩:∃ m,k=m+1:=⟨k - 1,by omega⟩
  have md:∀ (x n:Nat),Int.tmod (x:Int) (n:Int)=((x % n:Nat):Int):=fun x n=>by rw [Int.ofNat_tmod]
  simp only [engrosslaw11_NodeOrder.j1]
  by_cases g:(leaf && decide ((l.length:Int)>1))=true
  · rw [if_pos g]
    simp only [Bool.and_eq_true,decide_eq_true_eq] at g
    obtain⟨rfl,g⟩:=g
    have ha:i % l.length<l.length:=Nat.mod_lt _ (by omega)
    have hb:j % l.length<l.length:=Nat.mod_lt _ (by omega)
    rw [if_neg (by omega)]
    simp only [md]
    rw [if_pos (by omega),if_pos (by omega),if_pos (by omega),if_pos (by omega),rd56 ha,rd56 hb,Int.toNat_natCast,Int.toNat_natCast]
    refine (ord_j2 (l:=swp l (i % l.length) (j % l.length) ha hb) (FL_swp hf ha hb) (by simp [swp];omega) h2 h3 _ ?_ (by omega))
    rw [may_swpC hm ha hb]
    rw [Bool.eq_iff_iff]
    simp
    omega
  · rw [if_neg g]
    by_cases g2:(ks.length:Int)>1
    · cases leaf
      · have ha:i % ks.length<ks.length:=Nat.mod_lt _ (by omega)
        have hb:j % ks.length<ks.length:=Nat.mod_lt _ (by omega)
        rw [if_pos g2,if_neg (by omega)]
        simp only [md]
        rw [if_pos (by omega),if_pos (by omega),if_pos (by omega),if_pos (by omega),rdS ha,rdS hb,Int.toNat_natCast,Int.toNat_natCast]
        refine (ord_j2 (ks:=swp ks (i % ks.length) (j % ks.length) ha hb) hf h1 (by simp [swp];omega) h3 _ ?_ (by omega))
        rw [may_swpK hm ha hb]
        rw [Bool.eq_iff_iff]
        simp
        omega
      · have:=(mayN_leaf hm).2.1
        rw [this] at g2
        simp at g2
    · rw [if_neg g2]
      exact ord_j2 hf h1 h2 h3 true hm (by omega)
theorem NodeOrder:engrosslaw11_NodeOrder.Pure:=by
  intro x0 a1 a2 w0 _ _
  obtain⟨k,hk⟩:∃ k:Nat,6000≤k:=⟨6000,Nat.le_refl _⟩
  refine⟨k,?_⟩
  unfold engrosslaw11_NodeOrder.f
  rw [begun11 (by omega)]
  simp only [Option.bind_some]
  rw [if_pos trivial]
  obtain⟨l,ks,ids,e,hf,h1,h2,h3⟩:=cutnode x0.f0 x0.f1 (wf_FL w0) x0.f2 x0.f3 (k:=k) (by omega)
  generalize x0.f0=leaf at e
  rw [e]
  simp only [Option.bind_some]
  rw [rmaynode_is leaf l hf ks ids (by omega) (by omega) (by omega) (by omega)]
  simp only [Option.bind_some]
  obtain⟨k,rfl⟩:∃ m,k=m+1:=⟨k - 1,by omega⟩
  have out:∀ x:Bool,x=true→engrosslaw11_NodeOrder.j0 (k+1) a1 a2 x leaf l ks ids=some true:=by
    intro x hx
    simp only [engrosslaw11_NodeOrder.j0]
    rw [if_pos hx]
  by_cases hm:mayN leaf (l.map toC) ks ids=true
  · rw [if_pos hm]
    by_cases g:a1<0
    · rw [if_pos g]
      exact out true rfl
    · rw [if_neg g]
      by_cases g2:a2<0
      · exact out _ (decide_eq_true g2)
      · rw [decide_eq_false g2]
        obtain⟨i,rfl⟩:∃ i:Nat,a1=(i:Int):=⟨a1.toNat,by omega⟩
        obtain⟨j,rfl⟩:∃ j:Nat,a2=(j:Int):=⟨a2.toNat,by omega⟩
        simp only [engrosslaw11_NodeOrder.j0]
        rw [if_neg (by decide),cidnode leaf l ks ids h1 h2 h3 hm (by omega)]
        simp only [Option.bind_some]
        have:=ord_j1 hf h1 h2 h3 hm i j (k:=k) (by omega)
        cases leaf
        · rw [if_neg (by decide)]
          exact this
        · rw [if_pos rfl]
          exact this
  · rw [if_neg hm]
    exact out true rfl
end Go.Proofs.Ytmmjpieafbjggaa.Pure
end
