/- The law NodeAny returns true for every input: the words, the walks and the plain statement that its row needs. No condition. (Merged by a program of this session out of its own texts.) -/
import Derived.ArgAppend
import Derived.Below
import Derived.BigQuiet
import Derived.Deep.AppendLies
import Derived.Deep.CutBlock
import Derived.Deep.DeepCutAuto
import Derived.Deep.Draws
import Derived.Deep.LoopGhost
import Derived.Deep.OwnRows
import Derived.Deep.QuietTactic
import Derived.Deep.RegionHeld3
import Derived.KernelRfl
import Derived.Laws.BitsAllLaws
import Derived.Laws.BitsLemmas
import Derived.Laws.BytesArg
import Derived.Laws.Cover2
import Derived.Laws.Externs
import Derived.Laws.FloatArith
import Derived.Laws.IdiomCopy
import Derived.Laws.MakeOwn
import Derived.Laws.OwnMore
import Derived.Laws.Rows
import Derived.Laws.Slices
import Derived.Laws.StructEq
import Derived.Lib.AppendStr
import Derived.Lib.ConvBytes
import Derived.Maps.AppendAt
import Derived.OrdersHeld
import Derived.OwnWalk
import Derived.RowKit
import Derived.RowKit3
import Derived.Tactics
import Derived.Test.YtmmjpieafbjggaaProg
import Derived.WalkKit
import Derived.WideLaws
import Derived.Test.YtmmjpieafbjggaaQNodeAny3
import Derived.Test.YtmmjpieafbjggaaQNodeAny4
import Derived.Test.YtmmjpieafbjggaaQNodeAny5
import Derived.Test.YtmmjpieafbjggaaQNodeAny6
import Derived.Test.YtmmjpieafbjggaaQNodeAny7
import Derived.Test.YtmmjpieafbjggaaQNodeAny8
import Derived.Test.YtmmjpieafbjggaaQNodeAny9
section
set_option linter.unusedVariables false
set_option linter.unusedSimpArgs false
namespace Go.Proofs.Ytmmjpieafbjggaa.Pure
open Go.RowKit Go.Proofs.Ytmmjpieafbjggaa.P Go.Proofs.YtmmjpieafbjggaaW.PrintWords Go.Proofs.YtmmjpieafbjggaaW.PrintLast Go.Proofs.YtmmjpieafbjggaaW.PrintMore
theorem clean_is (a:Nat):float_Clean.f a=some (if 9218868437227405312<a % 9223372036854775808 then 9221120237041090560 else a):=by
  unfold float_Clean.f math_IsNaN.f
  rw [self_ne]
  simp only [Option.bind_some,decide_eq_true_eq]
  split <;> rfl
theorem expo (a:Nat):a &&& 9218868437227405312=a % 9223372036854775808 / 4503599627370496 * 4503599627370496:=nat_midmask 63 52 a (by decide)
theorem rnan_is {a:Nat} (h:a<18446744073709551616):engrossref1_NaN.f a=some (decide (9218868437227405312<a % 9223372036854775808)):=by
  unfold engrossref1_NaN.f
  have e1:Go.bits .and .u64 (a:Int) 9218868437227405312=((a % 9223372036854775808 / 4503599627370496 * 4503599627370496:Nat):Int):=by
    have:=u64_and_nat a 9218868437227405312 h (by decide)
    rw [expo] at this
    exact this
  have e2:Go.bits .and .u64 (a:Int) 4503599627370495=((a % 4503599627370496:Nat):Int):=by
    have:=u64_and_nat a 4503599627370495 h (by decide)
    rw [nat_mask52] at this
    exact this
  rw [e1,e2]
  clear e1 e2
  by_cases h1:((a % 9223372036854775808 / 4503599627370496 * 4503599627370496:Nat):Int)=9218868437227405312
  · rw [if_pos h1]
    congr 1
    rw [Bool.eq_iff_iff]
    simp only [bne_iff_ne,ne_eq,decide_eq_true_eq]
    omega
  · rw [if_neg h1]
    congr 1
    rw [Bool.eq_iff_iff]
    simp only [Bool.false_eq_true,false_iff,decide_eq_true_eq]
    omega
theorem rclean_is {a:Nat} (h:a<18446744073709551616):engrossref1_Clean.f a=some (if 9218868437227405312<a % 9223372036854775808 then 9221120237041090560 else a):=by
  unfold engrossref1_Clean.f
  rw [rnan_is h]
  simp only [Option.bind_some,decide_eq_true_eq]
  split <;> rfl
theorem w64' {x:Int} (h:-9223372036854775808≤x∧x≤9223372036854775807):wrap64 x=x:=by unfold wrap64;omega
theorem not64' {a:Nat} (h1:a<18446744073709551616):Go.bits .xor .u64 18446744073709551615 (a:Int)=((18446744073709551615 - a:Nat):Int):=by
  have:=u64_xor_nat 18446744073709551615 a (by decide) h1
  have e2:18446744073709551615 ^^^ a=18446744073709551615 - a:=by
    rw [Nat.xor_comm]
    have e3:(18446744073709551615:Nat)=2 ^ 64 - 1:=rfl
    rw [e3]
    apply Nat.eq_of_testBit_eq
    intro i
    rw [Nat.testBit_xor,Nat.testBit_two_pow_sub_one]
    have hs:2 ^ 64 - 1 - a=2 ^ 64 - (a+1):=by omega
    rw [hs,Nat.testBit_two_pow_sub_succ (by omega)]
    by_cases h:i<64
    · simp [h]
    · have:a.testBit i=false:=Nat.testBit_lt_two_pow (Nat.lt_of_lt_of_le (show a<2 ^ 64 by omega) (Nat.pow_le_pow_right (by omega) (by omega)))
      simp [h,this]
  rw [e2] at this
  exact this
theorem and63 {a:Nat} (h:a<18446744073709551616):Go.bits .and .u64 (a:Int) 9223372036854775808=if a<9223372036854775808 then 0 else 9223372036854775808:=by
  have:=u64_and_nat a 9223372036854775808 h (by decide)
  rw [nat_hi64_63] at this
  have e:Go.bits .and .u64 (a:Int) 9223372036854775808=((a % 18446744073709551616 / 9223372036854775808 * 9223372036854775808:Nat):Int):=this
  rw [e]
  split <;> omega
theorem or63 {a:Nat} (h:a<9223372036854775808):Go.bits .or .u64 (a:Int) 9223372036854775808=((a+9223372036854775808:Nat):Int):=by
  have:=u64_or_nat a 9223372036854775808 (by omega) (by decide)
  have e:a ||| 9223372036854775808=a+9223372036854775808:=by
    rw [Nat.or_comm,nat_join 63 9223372036854775808 a (by decide) (by exact h),Nat.add_comm]
  rw [e] at this
  exact this
/-- A float's place in the order: 0: a NaN. -/
def pl (a:Nat):Nat:=if 9218868437227405312<a % 9223372036854775808 then 0 else if a<9223372036854775808 then a+9223372036854775808 else 18446744073709551615 - a
theorem pl_lt {a:Nat} (h:a<18446744073709551616):pl a<18446744073709551616:=by
  unfold pl
  split
  · omega
  · split <;> omega
theorem place_is {a:Nat} (h:a<18446744073709551616):float_place.f a=some ((pl a:Nat):Int):=by
  unfold float_place.f math_IsNaN.f pl
  rw [self_ne]
  simp only [Option.bind_some,decide_eq_true_eq]
  by_cases hn:9218868437227405312<a % 9223372036854775808
  · rw [if_pos hn,if_pos hn];rfl
  · rw [if_neg hn,if_neg hn,and63 h]
    by_cases hs:a<9223372036854775808
    · rw [if_pos hs,if_pos rfl,if_pos hs,or63 hs]
    · rw [if_neg hs,if_neg (by decide),if_neg hs,not64' h]
theorem rplace_is {a:Nat} (h:a<18446744073709551616):engrossref1_Place.f a=some ((pl a:Int) - 9223372036854775808):=by
  unfold engrossref1_Place.f pl
  rw [rnan_is h]
  simp only [Option.bind_some,decide_eq_true_eq]
  by_cases hn:9218868437227405312<a % 9223372036854775808
  · rw [if_pos hn,if_pos hn];rfl
  · rw [if_neg hn,if_neg hn]
    have e2:Go.bits .and .u64 (a:Int) 9223372036854775807=((a % 9223372036854775808:Nat):Int):=by
      have:=u64_and_nat a 9223372036854775807 h (by decide)
      rw [nat_mask63] at this
      exact this
    by_cases hs:a<9223372036854775808
    · rw [if_neg (by omega),if_pos hs]
      exact congrArg some (by unfold wrap64;omega)
    · rw [if_pos (by omega),if_neg hs,e2]
      exact congrArg some (by unfold wrap64;omega)
theorem shr_is (u:Nat) {d:Nat} (hd:d≤7) {y:Int} (hy:y=8 * (d:Int)):shr .u64 (u:Int) y=((u / 256 ^ d:Nat):Int):=by
  subst hy
  unfold shr
  have e1:min (8 * (d:Int)).toNat (IntKind.bits .u64)=8 * d:=by
    simp only [IntKind.bits]
    omega
  rw [e1]
  have e2:(2:Int) ^ (8 * d)=((256 ^ d:Nat):Int):=by
    rw [Int.pow_mul,Int.natCast_pow]
    rfl
  rw [e2]
  rfl
theorem bytes_l0 (u:Nat) (d:Nat):∀ (k i:Nat) (acc:List Int),i+d=8→d<k→acc.length=i→float_Bytes.l0 k (u:Int) acc (i:Int)=some (acc++be d u):=by
  induction d with
  | zero =>
    intro k i acc hi hk ha
    obtain⟨k,rfl⟩:∃ m,k=m+1:=⟨k - 1,by omega⟩
    simp only [float_Bytes.l0]
    rw [if_neg (by omega)]
    simp [be]
  | succ d ih =>
    intro k i acc hi hk ha
    obtain⟨k,rfl⟩:∃ m,k=m+1:=⟨k - 1,by omega⟩
    simp only [float_Bytes.l0]
    rw [w64' (x:=7 - (i:Int)) (by omega),w64' (x:=8 * (7 - (i:Int))) (by omega),if_pos (by omega),if_pos (by omega),if_pos (by omega),shr_is u (d:=d) (by omega) (by omega),w64' (x:=(i:Int)+1) (by omega),show (i:Int)+1=((i+1:Nat):Int) from rfl]
    rw [ih k (i+1) _ (by omega) (by omega) (by simp only [List.length_append,List.length_cons,List.length_nil];omega),List.append_assoc]
    rfl
theorem bytes_is {a:Nat} (h:a<18446744073709551616) {k:Nat} (hk:10≤k):float_Bytes.f k a=some (be 8 (pl a)):=by
  unfold float_Bytes.f
  rw [place_is h]
  simp only [Option.bind_some]
  exact bytes_l0 (pl a) 8 k 0 [] (by omega) (by omega) rfl
theorem rbytes_l0 (u:Nat) (d:Nat):∀ (k i:Nat) (acc:List Int),i+d=8→d+1<k→acc.length=i→engrossref1_FloatBytes.l0 k (u:Int) acc (8 * (d:Int) - 8)=some (acc++be d u):=by
  induction d with
  | zero =>
    intro k i acc hi hk ha
    obtain⟨k,rfl⟩:∃ m,k=m+1:=⟨k - 1,by omega⟩
    simp only [engrossref1_FloatBytes.l0]
    rw [if_neg (by omega)]
    simp [be]
  | succ d ih =>
    intro k i acc hi hk ha
    obtain⟨k,rfl⟩:∃ m,k=m+1:=⟨k - 1,by omega⟩
    have ew:IntKind.u64.wrap (8 * ((d+1:Nat):Int) - 8)=8 * (d:Int):=by rw [IntKind.wrap_u64];omega
    simp only [engrossref1_FloatBytes.l0]
    rw [if_pos (by omega),ew,if_pos (by omega),if_pos (by omega),shr_is u (d:=d) (by omega) rfl]
    clear ew
    rw [w64' (x:=8 * ((d+1:Nat):Int) - 8 - 8) (by omega),show 8 * ((d+1:Nat):Int) - 8 - 8=8 * (d:Int) - 8 by omega]
    rw [ih k (i+1) _ (by omega) (by omega) (by simp only [List.length_append,List.length_cons,List.length_nil];omega),List.append_assoc]
    rfl
theorem rbytes_is {a:Nat} (h:a<18446744073709551616) {k:Nat} (hk:12≤k):engrossref1_FloatBytes.f k a=some (be 8 (pl a)):=by
  obtain⟨k,rfl⟩:∃ m,k=m+1:=⟨k - 1,by omega⟩
  unfold engrossref1_FloatBytes.f
  rw [rplace_is h,rnan_is h]
  simp only [Option.bind_some,decide_eq_true_eq]
  have key:∀ u:Nat,engrossref1_FloatBytes.j0 (k+1) (u:Int)=some (be 8 u):=by
    intro u
    simp only [engrossref1_FloatBytes.j0]
    exact rbytes_l0 u 8 k 0 [] (by omega) (by omega) rfl
  have hp:=pl_lt h
  by_cases hn:9218868437227405312<a % 9223372036854775808
  · rw [if_pos hn]
    have:pl a=0:=by unfold pl;rw [if_pos hn]
    rw [this]
    exact key 0
  · rw [if_neg hn]
    have e:IntKind.u64.wrap (IntKind.u64.wrap ((pl a:Int) - 9223372036854775808)+9223372036854775808)=((pl a:Nat):Int):=by
      rw [IntKind.wrap_u64,IntKind.wrap_u64]
      omega
    rw [e]
    exact key _
/-- The float of a place. -/
def fo (u:Nat):Nat:=if u=0 then 9221120237041090560 else if u<9223372036854775808 then 18446744073709551615 - u else u - 9223372036854775808
theorem fo_lt {u:Nat} (h:u<18446744073709551616):fo u<18446744073709551616:=by
  unfold fo
  split
  · omega
  · split <;> omega
/-- What eight bytes say. -/
def ofL (l:List Int):Nat × Bool:=if l.length=8 then (if pl (fo (unbe l))=unbe l then (fo (unbe l),true) else (0,false)) else (0,false)
theorem rd_drop {l cs:List Int} {c:Int} {i:Nat} (hd:l.drop i=c :: cs):i<l.length∧rd l (i:Int)=c∧l.drop (i+1)=cs∧c∈l:=by
  have hlt:i<l.length:=by
    have:=congrArg List.length hd
    simp at this
    omega
  have:=List.getElem_cons_drop hlt
  rw [hd] at this
  obtain⟨h1,h2⟩:=List.cons.inj this
  refine⟨hlt,?_,h2,?_⟩
  · unfold rd
    rw [← h1]
    simp [List.getD,hlt]
  · rw [← h1];exact List.getElem_mem hlt
theorem andnot63 {u:Nat} (hu:u<18446744073709551616) (hs:9223372036854775808≤u):Go.bits .andNot .u64 (u:Int) 9223372036854775808=((u - 9223372036854775808:Nat):Int):=by
  have h1:=u64_andNot_nat u 9223372036854775808 hu (by decide)
  have e0:(18446744073709551615 - 9223372036854775808:Nat)=9223372036854775807:=by decide
  have e2:u % 9223372036854775808=u - 9223372036854775808:=by omega
  rw [e0,nat_mask63,e2] at h1
  exact h1
theorem of_tail {y u:Nat} (hy:y<18446744073709551616):((float_place.f y).bind fun t=>if t=(u:Int) then some (y,true) else some (0,false))=some (if pl y=u then (y,true) else (0,false)):=by
  rw [place_is hy]
  simp only [Option.bind_some]
  by_cases hp:pl y=u
  · rw [if_pos (by omega),if_pos hp]
  · rw [if_neg (by omega),if_neg hp]
theorem of_end {l:List Int} {u:Nat} (hu:u<18446744073709551616) (k:Nat) (i:Nat) (hi:l.length≤i) :
    float_Of.l0 (k+1) (u:Int) l (l.length:Int) (i:Int)=some (if pl (fo u)=u then (fo u,true) else (0,false)):=by
  simp only [float_Of.l0]
  rw [if_neg (by omega)]
  unfold math_NaN.f fo
  simp only [Option.bind_some]
  by_cases h0:u=0
  · subst h0
    have e0:pl 9221120237041090560=0:=by unfold pl;rw [if_pos (by decide)]
    rw [if_pos (show ((0:Nat):Int)=0 from rfl),clean_is,if_pos (show 9218868437227405312<9221120237041090561 % 9223372036854775808 by decide)]
    simp only [Option.bind_some,if_true]
    rw [if_pos e0]
  · rw [if_neg (by omega),if_neg h0,and63 hu]
    by_cases hs:u<9223372036854775808
    · rw [if_pos hs,if_pos rfl,if_pos hs,not64' hu,Int.toNat_natCast]
      exact of_tail (by omega)
    · rw [if_neg hs,if_neg (by decide),if_neg hs]
      rw [andnot63 hu (by omega),Int.toNat_natCast]
      exact of_tail (by omega)
theorem pow_of (i:Nat) (h:i≤7):256 ^ i * 256≤18446744073709551616:=by
  have h1:(256:Nat) ^ i≤256 ^ 7:=Nat.pow_le_pow_right (by omega) h
  have h2:(256:Nat) ^ 7=72057594037927936:=by decide
  omega
theorem of_l0 {l:List Int} (hb:∀ c∈l,0≤c∧c≤255) (h8:l.length=8) (d:Nat):∀ (k i u:Nat) (cs:List Int),l.drop i=cs→i+d=8→d<k→u<256 ^ i →
    float_Of.l0 k (u:Int) l (l.length:Int) (i:Int)=some (if pl (fo (cs.foldl (fun u c=>u * 256+c.toNat) u))=cs.foldl (fun u c=>u * 256+c.toNat) u then (fo (cs.foldl (fun u c=>u * 256+c.toNat) u),true) else (0,false)):=by
  induction d with
  | zero =>
    intro k i u cs hd hi hk hu
    obtain⟨k,rfl⟩:∃ m,k=m+1:=⟨k - 1,by omega⟩
    have:cs = []:=by rw [← hd];exact List.drop_eq_nil_of_le (by omega)
    subst this
    obtain rfl:i=8:=by omega
    exact of_end (by simpa using hu) k 8 (by omega)
  | succ d ih =>
    intro k i u cs hd hi hk hu
    obtain⟨k,rfl⟩:∃ m,k=m+1:=⟨k - 1,by omega⟩
    cases cs with
    | nil =>
      have:=congrArg List.length hd
      simp at this
      omega
    | cons c cs =>
      obtain⟨hlt,hr,hd2,hm⟩:=rd_drop hd
      have hc:=hb c hm
      have hp:=pow_of i (by omega)
      simp only [float_Of.l0]
      rw [if_pos (by omega),if_pos (by omega),if_pos (by omega),hr]
      have e1:IntKind.u64.wrap ((u:Int) * 256)=((u * 256:Nat):Int):=by rw [IntKind.wrap_u64];omega
      have e2:IntKind.u64.wrap c=((c.toNat:Nat):Int):=by rw [IntKind.wrap_u64];omega
      have e3:u * 256 ||| c.toNat=u * 256+c.toNat:=nat_join 8 _ _ (by omega) (by omega)
      rw [e1,e2,u64_or_nat _ _ (by omega) (by omega),e3,w64' (x:=(i:Int)+1) (by omega),show (i:Int)+1=((i+1:Nat):Int) from rfl]
      exact ih k (i+1) _ cs hd2 (by omega) (by omega) (by rw [Nat.pow_succ];omega)
theorem of_is {l:List Int} (hb:∀ c∈l,0≤c∧c≤255) {k:Nat} (hk:10≤k):float_Of.f k l=some (ofL l):=by
  unfold float_Of.f ofL
  by_cases h8:l.length=8
  · rw [if_pos (by omega),if_pos h8]
    exact of_l0 hb h8 8 k 0 0 l rfl (by omega) (by omega) (by decide)
  · rw [if_neg (by omega),if_neg h8]
theorem bits_is (a b:Nat):engrossref1_Bits.f a b=some (decide (a=b)):=by
  unfold engrossref1_Bits.f engrossref1_bits.f
  simp only [Option.bind_some,Option.some.injEq]
  rw [Bool.eq_iff_iff]
  simp only [beq_iff_eq,decide_eq_true_eq]
  omega
theorem wf_u64 {x:Int} (h:(Lit.int .u64 x).wf=true):0≤x∧x<18446744073709551616:=by
  have:0≤x∧x≤18446744073709551615:=by simpa [Lit.wf,IntKind.min,IntKind.max,IntKind.signed,IntKind.bits] using h
  omega
end Go.Proofs.Ytmmjpieafbjggaa.Pure
end
section
set_option linter.unusedVariables false
set_option linter.unusedSimpArgs false
namespace Go.Proofs.Ytmmjpieafbjggaa.Pure
open Go.RowKit Go.Proofs.Ytmmjpieafbjggaa.P Go.Proofs.YtmmjpieafbjggaaW.PrintWords Go.Proofs.YtmmjpieafbjggaaW.PrintLast Go.Proofs.YtmmjpieafbjggaaW.PrintMore
theorem or128 {a:Int} (h0:0≤a) (h1:a<256):Go.bits .or .u8 a 128=a % 128+128:=by
  rw [u8_or a 128 h0 h1 (by omega) (by omega)]
  have:∀ b:Nat,b<256→b ||| 128=b % 128+128:=by decide +kernel
  have e:=this a.toNat (by omega)
  have e2:(128:Int).toNat=128:=rfl
  rw [e2,e]
  omega
theorem and127 {a:Int} (h0:0≤a) (h1:a<256):Go.bits .and .u8 a 127=a % 128:=by
  rw [u8_and a 127 h0 h1 (by omega) (by omega)]
  have e2:(127:Int).toNat=127:=rfl
  rw [e2,nat_mask7]
  omega
theorem not64 {a:Int} (h0:0≤a) (h1:a<18446744073709551616):Go.bits .xor .u64 18446744073709551615 a=18446744073709551615 - a:=by
  rw [u64_xor _ a (by omega) (by omega) h0 h1]
  have e2:(18446744073709551615:Int).toNat=2 ^ 64 - 1:=rfl
  rw [e2,Nat.xor_comm]
  have:a.toNat ^^^ (2 ^ 64 - 1)=2 ^ 64 - 1 - a.toNat:=by
    apply Nat.eq_of_testBit_eq
    intro i
    rw [Nat.testBit_xor,Nat.testBit_two_pow_sub_one]
    have hs:2 ^ 64 - 1 - a.toNat=2 ^ 64 - (a.toNat+1):=by omega
    rw [hs,Nat.testBit_two_pow_sub_succ (by omega)]
    by_cases h:i<64
    · simp [h]
    · have:a.toNat.testBit i=false:=Nat.testBit_lt_two_pow (Nat.lt_of_lt_of_le (show a.toNat<2 ^ 64 by omega) (Nat.pow_le_pow_right (by omega) (by omega)))
      simp [h,this]
  rw [this]
  omega
theorem zz_word {n:Int} (h:(Lit.int .i64 n).wf=true) :
    (n<0→Go.bits .xor .u64 18446744073709551615 (IntKind.u64.wrap ((IntKind.u64.wrap n) * 2))=(zz n:Int))∧(¬ n<0→IntKind.u64.wrap ((IntKind.u64.wrap n) * 2)=(zz n:Int)):=by
  have h1:-9223372036854775808≤n∧n≤9223372036854775807:=by simpa [Lit.wf,IntKind.min,IntKind.max,IntKind.signed,IntKind.bits] using h
  refine⟨fun hn=>?_,fun hn=>?_⟩
  · rw [not64 (by rw [IntKind.wrap_u64];omega) (by rw [IntKind.wrap_u64];omega),IntKind.wrap_u64,IntKind.wrap_u64]
    unfold zz
    rw [if_pos hn]
    omega
  · rw [IntKind.wrap_u64,IntKind.wrap_u64]
    unfold zz
    rw [if_neg hn]
    omega
theorem w64 {x:Int} (h:-9223372036854775808≤x∧x≤9223372036854775807):wrap64 x=x:=by unfold wrap64;omega
theorem put_l0 (d:Nat):∀ (k:Nat) (b:List Int) (u:Nat),u<128 ^ (d+1)→d<k→b.length+d+1≤140737488355328→num_Put.l0 k b (u:Int)=some (b++enc u):=by
  induction d with
  | zero =>
    intro k b u hu hk hb
    obtain⟨k,rfl⟩:∃ m,k=m+1:=⟨k - 1,by omega⟩
    have hu:u<128:=by simpa using hu
    simp only [num_Put.l0]
    rw [if_neg (by omega),if_pos (by omega),enc_lo hu]
    have e:(u:Int) % 256=u:=by omega
    rw [e]
  | succ d ih =>
    intro k b u hu hk hb
    obtain⟨k,rfl⟩:∃ m,k=m+1:=⟨k - 1,by omega⟩
    simp only [num_Put.l0]
    by_cases hlt:u<128
    · rw [if_neg (by omega),if_pos (by omega),enc_lo hlt]
      have e:(u:Int) % 256=u:=by omega
      rw [e]
    · rw [if_pos (by omega),if_pos (by omega),or128 (by omega) (by omega)]
      have e:((u:Int) / 128)=((u / 128:Nat):Int):=by omega
      rw [e,ih k _ (u / 128) (by rw [Nat.div_lt_iff_lt_mul (by omega)];rw [Nat.pow_succ] at hu;exact hu) (by omega) (by simp only [List.length_append,List.length_cons,List.length_nil];omega),enc_hi hlt,List.append_assoc]
      have e2:(u:Int) % 256 % 128+128=((u % 128+128:Nat):Int):=by omega
      rw [e2]
      rfl
theorem put_is {n:Int} (h:(Lit.int .i64 n).wf=true) {k:Nat} (hk:12≤k) {b:List Int} (hb:b.length+10≤140737488355328):num_Put.f k b n=some (b++putN n):=by
  obtain⟨h1,h2⟩:=zz_word h
  obtain⟨k,rfl⟩:∃ m,k=m+1:=⟨k - 1,by omega⟩
  unfold num_Put.f putN
  by_cases hn:n<0
  · rw [if_pos hn,h1 hn]
    simp only [num_Put.j0]
    exact put_l0 9 k b (zz n) (lt64 (zz_lt h)) (by omega) (by omega)
  · rw [if_neg hn,h2 hn]
    simp only [num_Put.j0]
    exact put_l0 9 k b (zz n) (lt64 (zz_lt h)) (by omega) (by omega)
theorem puttext_is {s:ByteArray} (h:s.size≤65536) {k:Nat} (hk:12≤k) {b:List Int} (hb:b.length+65546≤140737488355327):num_PutText.f k b s=some (b++putS s):=by
  unfold num_PutText.f
  have hl:=(putN_len (size_wf h)).1
  rw [put_is (size_wf h) hk (by omega)]
  simp only [Option.bind_some]
  rw [if_pos (by simp only [List.length_append];omega)]
  unfold putS
  rw [List.append_assoc]
theorem and1 {U:Nat} (h:U<18446744073709551616):Go.bits .and .u64 (U:Int) 1=((U % 2:Nat):Int):=by
  have:=u64_and_nat U 1 h (by omega)
  rw [nat_mask1] at this
  exact this
theorem notI64 {v:Nat} (hv:v<9223372036854775808):Go.bits .xor .i64 (-1) (v:Int) = -(v:Int) - 1:=by
  unfold Go.bits
  rw [IntKind.wrap_i64]
  have e5:(BitVec.ofInt (IntKind.bits .i64) (-1) ^^^ BitVec.ofInt (IntKind.bits .i64) (v:Int)).toNat=18446744073709551615 - v:=by
    show (BitVec.ofInt 64 (-1) ^^^ BitVec.ofInt 64 (v:Int)).toNat=18446744073709551615 - v
    have e6:BitVec.ofInt 64 (-1)=BitVec.allOnes 64:=by decide
    have e7:(BitVec.ofInt 64 (v:Int)).toNat=v:=by
      rw [BitVec.toNat_ofInt]
      omega
    rw [e6,BitVec.allOnes_xor,BitVec.toNat_not,e7]
  simp only [e5]
  omega
theorem get_j2 {U i:Nat} {c:Int} (hU:U<18446744073709551616) (hi:i≤9) {k:Nat} (y:Bool) (hy:y=true↔(i>0∧c=0)) :
    num_Get.j2 (k+1) (U:Int) (i:Int) y=some (if i>0∧c=0 then (0,0,1) else (unz U,(i:Int)+1,0)):=by
  simp only [num_Get.j2]
  by_cases h0:i>0∧c=0
  · rw [if_pos (hy.2 h0),if_pos h0]
  · rw [if_neg (fun h=>h0 (hy.1 h)),if_neg h0,and1 hU]
    rw [w64 (x:=(U:Int) / 2) (by omega),w64 (x:=(i:Int)+1) (by omega),show (U:Int) / 2=((U / 2:Nat):Int) from rfl]
    unfold unz
    by_cases hodd:U % 2=1
    · rw [if_pos (by omega),if_pos hodd,notI64 (by omega)]
    · rw [if_neg (by omega),if_neg hodd]
theorem pow9:(128:Nat) ^ 9=9223372036854775808:=by decide
theorem pow8 {i:Nat} (h8:i≤8):(128:Nat) ^ i≤72057594037927936:=by
  have:(128:Nat) ^ 8=72057594037927936:=by decide
  rw [← this]
  exact Nat.pow_le_pow_right (by omega) h8
theorem get_sum {i u:Nat} {c:Int} (hb:0≤c∧c≤255) (hi:i≤9) (hu:u<128 ^ i) (h:¬ (i=9∧c>1)) :
    (c % 128).toNat * 128 ^ i<18446744073709551616∧u+(c % 128).toNat * 128 ^ i<18446744073709551616∧128 ^ i<18446744073709551616:=by
  rcases Nat.lt_or_ge 8 i with h8|h8
  · have:i=9:=by omega
    subst this
    rw [pow9] at hu ⊢
    have:c≤1:=by omega
    omega
  · have:=pow8 h8
    have h2:(c % 128).toNat * 128 ^ i≤127 * 72057594037927936:=Nat.mul_le_mul (by omega) this
    omega
theorem get_word {i u:Nat} {c:Int} (hb:0≤c∧c≤255) (hi:i≤9) (hu:u<128 ^ i) (h:¬ (i=9∧c>1)) :
    Go.bits .or .u64 (u:Int) (shl .u64 (IntKind.u64.wrap (Go.bits .and .u8 c 127)) (7 * (i:Int)))=((u+(c % 128).toNat * 128 ^ i:Nat):Int):=by
  obtain⟨h1,h2,h3⟩:=get_sum hb hi hu h
  have hs:shl .u64 (IntKind.u64.wrap (Go.bits .and .u8 c 127)) (7 * (i:Int))=(((c % 128).toNat * 128 ^ i:Nat):Int):=by
    unfold shl
    rw [and127 hb.1 (by omega),IntKind.wrap_u64,IntKind.wrap_u64]
    have e1:min (7 * (i:Int)).toNat (IntKind.bits .u64)=7 * i:=by
      simp only [IntKind.bits]
      omega
    rw [e1]
    have e2:(2:Int) ^ (7 * i)=((128 ^ i:Nat):Int):=by
      rw [Int.pow_mul]
      push_cast
      rfl
    rw [e2]
    have e3:c % 128 % 18446744073709551616=(((c % 128).toNat:Nat):Int):=by omega
    rw [e3,← Int.natCast_mul]
    generalize (c % 128).toNat * 128 ^ i=q at h1
    omega
  rw [hs,u64_or_nat _ _ (by omega) h1]
  have e:u ||| (c % 128).toNat * 128 ^ i=u+(c % 128).toNat * 128 ^ i:=by
    rw [Nat.or_comm,nat_join (7 * i) _ _ (by rw [Nat.pow_mul];exact Nat.mul_mod_left _ _) (by rw [Nat.pow_mul];exact hu),Nat.add_comm]
  rw [e]
theorem get_l0 (l:List Int) (hl:∀ c∈l,0≤c∧c≤255) (hn:l.length≤140737488355328) (d:Nat):∀ (k i u:Nat) (cs:List Int),l.drop i=cs→i≤l.length→10 - i≤d→i≤9∨cs = []→2 * d+2<k→u<128 ^ i →
    num_Get.l0 k (u:Int) l (l.length:Int) (i:Int)=some (getL i u cs):=by
  induction d with
  | zero =>
    intro k i u cs hd hi hdi h9 hk hu
    obtain⟨k,rfl⟩:∃ m,k=m+1:=⟨k - 1,by omega⟩
    rcases h9 with h9|h9
    · omega
    · have:i=l.length:=by
        rw [h9] at hd
        have:=congrArg List.length hd
        simp at this
        omega
      simp only [num_Get.l0]
      rw [if_neg (by omega),h9]
      simp [getL]
  | succ d ih =>
    intro k i u cs hd hi hdi h9 hk hu
    obtain⟨k,rfl⟩:∃ m,k=m+1:=⟨k - 1,by omega⟩
    cases cs with
    | nil =>
      have:i=l.length:=by
        have:=congrArg List.length hd
        simp at this
        omega
      simp only [num_Get.l0]
      rw [if_neg (by omega)]
      simp [getL]
    | cons c cs =>
      have h9:i≤9:=by
        rcases h9 with h9|h9
        · exact h9
        · cases h9
      have hlt:i<l.length:=by
        have:=congrArg List.length hd
        simp at this
        omega
      have hcd:l[i]=c∧l.drop (i+1)=cs:=by
        have:=List.getElem_cons_drop hlt
        rw [hd] at this
        exact List.cons.inj this
      have hr:rd l (i:Int)=c:=by
        unfold rd
        rw [← hcd.1]
        simp [List.getD,hlt]
      have hb:=hl c (by rw [← hcd.1];exact List.getElem_mem hlt)
      obtain⟨k,rfl⟩:∃ m,k=m+1:=⟨k - 1,by omega⟩
      have hk2:2 * d+2<k:=by omega
      simp only [num_Get.l0]
      rw [if_pos (by omega),if_pos (by omega),if_pos (by omega),hr]
      have key:∀ x:Bool,(x=true↔(i=9∧c>1))→num_Get.j1 (k+1) (u:Int) (i:Int) c l (l.length:Int) (i:Int) x=some (getL i u (c :: cs)):=by
        intro x hx
        simp only [num_Get.j1,getL]
        by_cases h91:i=9∧c>1
        · rw [if_pos (hx.2 h91),if_pos h91]
        · obtain⟨_,hsum,_⟩:=get_sum hb h9 hu h91
          rw [if_neg (fun h=>h91 (hx.1 h)),if_neg h91,w64 (x:=7 * (i:Int)) (by omega),if_pos (by omega),get_word hb h9 hu h91]
          by_cases h127:c>127
          · rw [if_pos h127,if_pos h127,w64 (x:=(i:Int)+1) (by omega),show (i:Int)+1=((i+1:Nat):Int) from rfl]
            have hi8:i≤8:=by
              rcases Nat.lt_or_ge 8 i with h8|h8
              · exfalso;apply h91;omega
              · exact h8
            refine ih k (i+1) _ cs hcd.2 (by omega) (by omega) (.inl (by omega)) hk2 ?_
            rw [Nat.pow_succ]
            have h3:(c % 128).toNat * 128 ^ i≤127 * 128 ^ i:=Nat.mul_le_mul_right _ (by omega)
            omega
          · rw [if_neg h127,if_neg h127]
            obtain⟨k,rfl⟩:∃ m,k=m+1:=⟨k - 1,by omega⟩
            have hc1:((c == 0)=true)↔c=0:=by simp
            by_cases h0:(i:Int)>0
            · rw [if_pos h0]
              exact get_j2 (c:=c) hsum h9 (c == 0) (by rw [hc1];omega)
            · rw [if_neg h0]
              exact get_j2 (c:=c) hsum h9 false (by simp only [Bool.false_eq_true,false_iff];omega)
      by_cases hi9:(i:Int)=9
      · rw [if_pos hi9]
        exact key _ (by simp only [decide_eq_true_eq];omega)
      · rw [if_neg hi9]
        exact key _ (by simp only [Bool.false_eq_true,false_iff];omega)
theorem get_is {l:List Int} (hl:∀ c∈l,0≤c∧c≤255) (hn:l.length≤140737488355328) {k:Nat} (hk:24≤k):num_Get.f k l=some (getN l):=by
  unfold num_Get.f getN
  exact get_l0 l hl hn 10 k 0 0 l rfl (by omega) (by omega) (.inl (by omega)) (by omega) (by decide)
theorem gettext_is {l:List Int} (hl:∀ c∈l,0≤c∧c≤255) (hn:l.length≤140737488355328) {k:Nat} (hk:24≤k):num_GetText.f k l=some (getS l):=by
  obtain⟨k,rfl⟩:∃ m,k=m+1:=⟨k - 1,by omega⟩
  unfold num_GetText.f getS
  rw [get_is hl hn hk]
  simp only [Option.bind_some]
  by_cases h0:(getN l).2.2=0
  · have hin:=getN_in h0
    rw [if_pos h0,if_neg (show ¬ (getN l).2.2≠0 by simp [h0])]
    by_cases hneg:(getN l).1<0
    · rw [if_pos hneg,if_pos (.inl hneg)]
      simp only [num_GetText.j0]
      rw [if_pos trivial]
    · rw [if_neg hneg]
      simp only [num_GetText.j0,decide_eq_true_eq]
      by_cases hbig:(getN l).1>65536
      · rw [if_pos hbig,if_pos (.inr hbig)]
      · rw [if_neg hbig,if_neg (show ¬ ((getN l).1<0∨(getN l).1>65536) by omega),w64 (x:=(l.length:Int) - (getN l).2.1) (by omega),w64 (x:=(getN l).2.1+(getN l).1) (by omega)]
        by_cases hm:(getN l).1>(l.length:Int) - (getN l).2.1
        · rw [if_pos hm,if_pos hm]
        · rw [if_neg hm,if_neg hm,if_pos (by omega),if_pos (by omega),if_pos (by omega)]
  · rw [if_neg h0,if_pos (show (getN l).2.2≠0 from h0)]
end Go.Proofs.Ytmmjpieafbjggaa.Pure
end
section
set_option linter.unusedVariables false
set_option linter.unusedSimpArgs false
namespace Go.Proofs.Ytmmjpieafbjggaa.Pure
open Go.RowKit Go.Proofs.Ytmmjpieafbjggaa.P Go.Proofs.YtmmjpieafbjggaaW.PrintWords Go.Proofs.YtmmjpieafbjggaaW.PrintLast Go.Proofs.YtmmjpieafbjggaaW.PrintMore
theorem short_is (l:List Int) {n:Nat} : engrosslaw1_Short.f l (n:Int)=some (l.take n):=by
  unfold engrosslaw1_Short.f
  by_cases h:(l.length:Int)>n
  · rw [if_pos h,if_pos (by omega),if_pos (by omega)]
    simp
  · rw [if_neg h,List.take_of_length_le (by omega)]
theorem cut_is (s:ByteArray) {n:Nat} : ∃ t,engrosslaw1_Cut.f s (n:Int)=some t∧t.size≤n∧(s.size≤n→t=s):=by
  unfold engrosslaw1_Cut.f
  by_cases h:(s.size:Int)>n
  · rw [if_pos h,if_pos (by omega),if_pos (by omega)]
    refine⟨_,rfl,?_,fun h=>by omega⟩
    rw [ByteArray.size_extract]
    simp
    omega
  · rw [if_neg h]
    exact⟨s,rfl,by omega,fun _=>rfl⟩
theorem rput_l0 (d:Nat):∀ (k:Nat) (b:List Int) (u:Nat),u<128 ^ (d+1)→u<18446744073709551616→d<k→b.length+d+1≤140737488355328→engrossref1_Put.l0 k (u:Int) b=some (b++enc u):=by
  induction d with
  | zero =>
    intro k b u hu hw hk hb
    obtain⟨k,rfl⟩:∃ m,k=m+1:=⟨k - 1,by omega⟩
    have hu:u<128:=by simpa using hu
    simp only [engrossref1_Put.l0]
    rw [if_neg (by omega),if_pos (by omega),enc_lo hu]
    have e:(u:Int) % 256=u:=by omega
    rw [e]
  | succ d ih =>
    intro k b u hu hw hk hb
    obtain⟨k,rfl⟩:∃ m,k=m+1:=⟨k - 1,by omega⟩
    simp only [engrossref1_Put.l0]
    by_cases hlt:u<128
    · rw [if_neg (by omega),if_pos (by omega),enc_lo hlt]
      have e:(u:Int) % 256=u:=by omega
      rw [e]
    · rw [if_pos (by omega),if_pos (by omega)]
      have e1:IntKind.u64.wrap (Int.tdiv (u:Int) 128)=((u / 128:Nat):Int):=by
        rw [IntWalk.u64_quo _ _ (by omega)]
        omega
      have e2:(IntKind.u64.wrap (Int.tmod (u:Int) 128+128)) % 256=((u % 128+128:Nat):Int):=by
        rw [Int.tmod_eq_emod_of_nonneg (by omega),IntKind.wrap_u64]
        omega
      rw [e1,e2,ih k _ (u / 128) (by rw [Nat.div_lt_iff_lt_mul (by omega)];rw [Nat.pow_succ] at hu;exact hu) (by omega) (by omega) (by simp only [List.length_append,List.length_cons,List.length_nil];omega),enc_hi hlt,List.append_assoc]
      rfl
theorem rput_is {n:Int} (h:(Lit.int .i64 n).wf=true) {k:Nat} (hk:12≤k):engrossref1_Put.f k n=some (putN n):=by
  obtain⟨h1,h2⟩:=zz_word h
  obtain⟨k,rfl⟩:∃ m,k=m+1:=⟨k - 1,by omega⟩
  unfold engrossref1_Put.f putN
  by_cases hn:n<0
  · rw [if_pos hn,h1 hn]
    simp only [engrossref1_Put.j0]
    exact rput_l0 9 k [] (zz n) (lt64 (zz_lt h)) (zz_lt h) (by omega) (by simp)
  · rw [if_neg hn,h2 hn]
    simp only [engrossref1_Put.j0]
    exact rput_l0 9 k [] (zz n) (lt64 (zz_lt h)) (zz_lt h) (by omega) (by simp)
theorem rputtext_is {s:ByteArray} (h:s.size≤65536) {k:Nat} (hk:12≤k):engrossref1_PutText.f k s=some (putS s):=by
  unfold engrossref1_PutText.f
  have hl:=(putN_len (size_wf h)).1
  rw [rput_is (size_wf h) hk]
  simp only [Option.bind_some]
  rw [if_pos (by omega)]
  rfl
theorem wf_u8 {x:Int} (h:(Lit.int .u8 x).wf=true):0≤x∧x≤255:=by
  simpa [Lit.wf,IntKind.min,IntKind.max,IntKind.signed,IntKind.bits] using h
theorem bytesOf_in (s:ByteArray):∀ c∈bytesOf s,0≤c∧c≤255:=by
  intro c hc
  unfold bytesOf at hc
  obtain⟨b,_,rfl⟩:=List.mem_map.1 hc
  have:=b.toNat_lt
  omega
theorem putS_bytes {s:ByteArray} (h:s.size≤65536):∀ c∈putS s,0≤c∧c≤255:=by
  intro c hc
  rcases List.mem_append.1 hc with hc|hc
  · exact putN_bytes (size_wf h) c hc
  · exact bytesOf_in s c hc
theorem putS_len {s:ByteArray} (h:s.size≤65536):(putS s).length≤s.size+10∧1≤(putS s).length:=by
  have:=putN_len (size_wf h)
  have h2:=bytesOf_len s
  unfold putS
  rw [List.length_append]
  omega
end Go.Proofs.Ytmmjpieafbjggaa.Pure
end
section
set_option linter.unusedVariables false
set_option linter.unusedSimpArgs false
namespace Go.Proofs.Ytmmjpieafbjggaa.Pure
open Go.RowKit Go.Proofs.Ytmmjpieafbjggaa.P Go.Proofs.YtmmjpieafbjggaaW.PrintWords Go.Proofs.YtmmjpieafbjggaaW.PrintLast Go.Proofs.YtmmjpieafbjggaaW.PrintMore
/-- All NaNs one. -/
def cl (f:Nat):Nat:=if 9218868437227405312<f % 9223372036854775808 then 9221120237041090560 else f
/-- May a value be? -/
def mayV (kd:Int) (f:Nat) (s:ByteArray):Bool :=
  if kd=0 then decide (f=0) && decide (s.toList = []) else if kd=1 then decide (s.toList = []) && decide (cl f=f) else if kd=2 then decide (f=0) && decide (s.size≤20) else false
theorem may_is (kd:Int) (f:Nat) (s:ByteArray):datum_May.f kd f s=some (mayV kd f s):=by
  unfold datum_May.f mayV datum_zero.f
  simp only [Option.bind_some]
  by_cases h0:kd=0
  · rw [if_pos h0,if_pos h0]
    by_cases hf:f=0
    · subst hf
      rw [if_pos (by rfl)]
      congr 1
      rw [Bool.eq_iff_iff]
      simp
    · rw [if_neg (by simp;omega)]
      simp [hf]
  · rw [if_neg h0,if_neg h0]
    by_cases h1:kd=1
    · rw [if_pos h1,if_pos h1]
      by_cases hs:s.toList = []
      · rw [if_pos hs,clean_is]
        simp only [Option.bind_some]
        congr 1
        rw [Bool.eq_iff_iff]
        unfold cl
        simp only [hs,decide_true,Bool.true_and,beq_iff_eq,decide_eq_true_eq]
        omega
      · rw [if_neg hs]
        simp [hs]
    · rw [if_neg h1,if_neg h1]
      by_cases h2:kd=2
      · rw [if_pos h2,if_pos h2]
        by_cases hf:f=0
        · subst hf
          rw [if_pos (by rfl)]
          congr 1
          rw [Bool.eq_iff_iff]
          simp
          omega
        · rw [if_neg (by simp;omega)]
          simp [hf]
      · rw [if_neg h2,if_neg h2]
theorem rmay_is (kd:Int) {f:Nat} (hf:f<18446744073709551616) (s:ByteArray):engrossref1_MayVal.f kd f s=some (mayV kd f s):=by
  unfold engrossref1_MayVal.f mayV engrossref1_bits.f
  simp only [Option.bind_some]
  by_cases h0:kd=0
  · rw [if_pos h0,if_pos h0]
    by_cases hf:f=0
    · subst hf
      rw [if_pos (by rfl)]
      congr 1
      rw [Bool.eq_iff_iff]
      simp
    · rw [if_neg (by omega)]
      simp [hf]
  · rw [if_neg h0,if_neg h0]
    by_cases h1:kd=1
    · rw [if_pos h1,if_pos h1]
      by_cases hs:s.toList = []
      · rw [if_pos hs,rclean_is hf]
        simp only [Option.bind_some]
        rw [bits_is]
        simp only [Option.bind_some]
        congr 1
        unfold cl
        simp [hs]
      · rw [if_neg hs]
        simp [hs]
    · rw [if_neg h1,if_neg h1]
      by_cases h2:kd=2
      · rw [if_pos h2,if_pos h2]
        by_cases hf:f=0
        · subst hf
          rw [if_pos (by rfl)]
          congr 1
          rw [Bool.eq_iff_iff]
          simp
          omega
        · rw [if_neg (by omega)]
          simp [hf]
      · rw [if_neg h2,if_neg h2]
/-- What follows a value's kind. -/
def tailV (kd:Int) (f:Nat) (s:ByteArray):List Int:=if kd=1 then be 8 (pl f) else if kd=2 then putS s else []
/-- A value's bytes. -/
def putV (kd:Int) (f:Nat) (s:ByteArray):List Int:=putN kd++tailV kd f s
theorem tailV_len (kd:Int) (f:Nat) {s:ByteArray} (hs:s.size≤65536):(tailV kd f s).length≤65546:=by
  unfold tailV
  have:=(putS_len hs).1
  split
  · rw [be_len];omega
  · split
    · omega
    · simp
theorem putV_len {kd:Int} (h:(Lit.int .i64 kd).wf=true) (f:Nat) {s:ByteArray} (hs:s.size≤65536):(putV kd f s).length≤65556:=by
  have h1:=(putN_len h).1
  have h2:=tailV_len kd f hs
  unfold putV
  rw [List.length_append]
  omega
theorem putV_bytes {kd:Int} (h:(Lit.int .i64 kd).wf=true) (f:Nat) {s:ByteArray} (hs:s.size≤65536):∀ c∈putV kd f s,0≤c∧c≤255:=by
  intro c hc
  rcases List.mem_append.1 hc with hc|hc
  · exact putN_bytes h c hc
  · unfold tailV at hc
    split at hc
    · exact be_bytes _ _ c hc
    · split at hc
      · exact putS_bytes hs c hc
      · cases hc
theorem dput_is {kd:Int} (h:(Lit.int .i64 kd).wf=true) {f:Nat} (hf:f<18446744073709551616) {s:ByteArray} (hs:s.size≤65536) {k:Nat} (hk:12≤k) {b:List Int} (hb:b.length+70000≤140737488355327):datum_Put.f k b kd f s=some (b++putV kd f s):=by
  unfold datum_Put.f putV tailV
  have h1:=(putN_len h).1
  rw [put_is h hk (by omega)]
  simp only [Option.bind_some]
  by_cases e1:kd=1
  · rw [if_pos e1,if_pos e1,bytes_is hf (by omega)]
    simp only [Option.bind_some]
    rw [if_pos (by rw [be_len,List.length_append];omega),List.append_assoc]
  · rw [if_neg e1,if_neg e1]
    by_cases e2:kd=2
    · rw [if_pos e2,if_pos e2,puttext_is hs hk (by rw [List.length_append];omega),List.append_assoc]
      rfl
    · rw [if_neg e2,if_neg e2,List.append_nil]
theorem rput_val {kd:Int} (h:(Lit.int .i64 kd).wf=true) {f:Nat} (hf:f<18446744073709551616) {s:ByteArray} (hs:s.size≤65536) {k:Nat} (hk:12≤k):engrossref1_PutVal.f k kd f s=some (putV kd f s):=by
  unfold engrossref1_PutVal.f putV tailV
  have h1:=(putN_len h).1
  have h2:=(putS_len hs).1
  rw [rput_is h hk]
  simp only [Option.bind_some]
  by_cases e1:kd=1
  · rw [if_pos e1,if_pos e1,rbytes_is hf (by omega)]
    simp only [Option.bind_some]
    rw [if_pos (by rw [be_len];omega)]
  · rw [if_neg e1,if_neg e1]
    by_cases e2:kd=2
    · rw [if_pos e2,if_pos e2,rputtext_is hs hk]
      simp only [Option.bind_some]
      rw [if_pos (by omega)]
    · rw [if_neg e2,if_neg e2,List.append_nil]
/-- What the first bytes say: a value, how many bytes, what went wrong. -/
def getV (l:List Int):Int × Nat × ByteArray × Int × Int :=
  if (getN l).2.2≠0 then (0,0,(⟨#[]⟩:ByteArray),0,(getN l).2.2)
  else if (getN l).1=0 then (0,0,(⟨#[]⟩:ByteArray),(getN l).2.1,0)
  else if (getN l).1=1 then (if (l.length:Int) - (getN l).2.1<8 then (0,0,(⟨#[]⟩:ByteArray),0,2)
    else if (ofL ((l.drop (getN l).2.1.toNat).take 8)).2=true then (1,(ofL ((l.drop (getN l).2.1.toNat).take 8)).1,(⟨#[]⟩:ByteArray),(getN l).2.1+8,0) else (0,0,(⟨#[]⟩:ByteArray),0,1))
  else if (getN l).1=2 then (if (getS (l.drop (getN l).2.1.toNat)).2.2≠0 then (0,0,(⟨#[]⟩:ByteArray),0,(getS (l.drop (getN l).2.1.toNat)).2.2)
    else if (getS (l.drop (getN l).2.1.toNat)).1.size≤20 then (2,0,(getS (l.drop (getN l).2.1.toNat)).1,(getN l).2.1+(getS (l.drop (getN l).2.1.toNat)).2.1,0) else (0,0,(⟨#[]⟩:ByteArray),0,1))
  else (0,0,(⟨#[]⟩:ByteArray),0,1)
theorem nil_list:(⟨#[]⟩:ByteArray).toList = []:=by rw [Go.ByteArray.toList_eq]
theorem ofL_clean {l:List Int} (h:(ofL l).2=true):cl (ofL l).1=(ofL l).1:=by
  unfold ofL at h ⊢
  split at h
  · rename_i h8
    rw [if_pos h8]
    split at h
    · rename_i hp
      rw [if_pos hp]
      show cl (fo (unbe l))=fo (unbe l)
      unfold cl
      by_cases hn:9218868437227405312<fo (unbe l) % 9223372036854775808
      · rw [if_pos hn]
        have:pl (fo (unbe l))=0:=by unfold pl;rw [if_pos hn]
        rw [this] at hp
        rw [← hp]
        rfl
      · rw [if_neg hn]
    · cases h
  · cases h
theorem ofL_lt {l:List Int} (hb:∀ c∈l,0≤c∧c≤255):(ofL l).1<18446744073709551616:=by
  unfold ofL
  split
  · rename_i h8
    split
    · have:=unbe_lt hb
      rw [h8] at this
      exact fo_lt (by simpa using this)
    · omega
  · omega
theorem cut_mid {l:List Int} {n:Nat} : (l.take (n+8)).drop n=(l.drop n).take 8:=by
  rw [List.drop_take]
  congr 1
  omega
theorem getS_in {l:List Int} (h:(getS l).2.2=0):0≤(getS l).2.1∧(getS l).2.1≤l.length:=by
  unfold getS at h ⊢
  by_cases h1:(getN l).2.2≠0
  · rw [if_pos h1] at h;exact absurd h h1
  · rw [if_neg h1] at h ⊢
    have:=getN_in (show (getN l).2.2=0 by omega)
    by_cases h2:(getN l).1<0∨(getN l).1>65536
    · rw [if_pos h2] at h;cases h
    · rw [if_neg h2] at h ⊢
      by_cases h3:(getN l).1>(l.length:Int) - (getN l).2.1
      · rw [if_pos h3] at h;cases h
      · rw [if_neg h3]
        dsimp only
        omega
theorem dget_is {l:List Int} (hl:∀ c∈l,0≤c∧c≤255) (hn:l.length≤140737488355328) {k:Nat} (hk:60≤k):datum_Get.f k l=some (getV l):=by
  unfold datum_Get.f getV
  rw [get_is hl hn (by omega)]
  simp only [Option.bind_some]
  by_cases h0:(getN l).2.2=0
  · have hin:=getN_in h0
    rw [if_pos h0,if_neg (show ¬ (getN l).2.2≠0 by simp [h0])]
    obtain⟨n,en⟩:∃ n:Nat,(getN l).2.1=n:=⟨(getN l).2.1.toNat,by omega⟩
    rw [en] at hin ⊢
    rw [Int.toNat_natCast]
    by_cases k0:(getN l).1=0
    · rw [if_pos k0,if_pos k0,k0,may_is]
      simp only [Option.bind_some]
      rw [if_pos (by unfold mayV;rw [if_pos rfl,nil_list];rfl),w64 (x:=(n:Int)+0) (by omega),Int.add_zero]
    · rw [if_neg k0,if_neg k0]
      by_cases k1:(getN l).1=1
      · rw [if_pos k1,if_pos k1,w64 (x:=(l.length:Int) - n) (by omega)]
        by_cases h8:(l.length:Int) - n<8
        · rw [if_pos h8,if_pos h8]
        · rw [if_neg h8,if_neg h8,w64 (x:=(n:Int)+8) (by omega),if_pos (by omega),if_pos (by omega),if_pos (by omega)]
          rw [show ((n:Int)+8).toNat=n+8 by omega,cut_mid]
          have hb:∀ c∈(l.drop n).take 8,0≤c∧c≤255:=fun c hc=>hl c (List.mem_of_mem_drop (List.mem_of_mem_take hc))
          rw [of_is hb (by omega)]
          simp only [Option.bind_some]
          by_cases ho:(ofL ((l.drop n).take 8)).2=true
          · rw [if_pos ho,if_pos ho,k1,may_is]
            simp only [Option.bind_some]
            rw [if_pos (by unfold mayV;rw [if_neg (by decide),if_pos rfl,nil_list,ofL_clean ho];simp)]
          · rw [if_neg ho,if_neg ho]
      · rw [if_neg k1,if_neg k1]
        by_cases k2:(getN l).1=2
        · rw [if_pos k2,if_pos k2,if_pos (by omega),if_pos (by omega)]
          rw [gettext_is (fun c hc=>hl c (List.mem_of_mem_drop hc)) (by rw [List.length_drop];omega) (by omega)]
          simp only [Option.bind_some]
          by_cases hs:(getS (l.drop n)).2.2=0
          · have hsi:=getS_in hs
            rw [List.length_drop] at hsi
            rw [if_pos hs,if_neg (show ¬ (getS (l.drop n)).2.2≠0 by simp [hs]),k2,may_is]
            simp only [Option.bind_some]
            by_cases h20:(getS (l.drop n)).1.size≤20
            · rw [if_pos (by unfold mayV;simp [h20]),if_pos h20,w64 (x:=(n:Int)+(getS (l.drop n)).2.1) (by omega)]
            · rw [if_neg (by unfold mayV;simp;omega),if_neg h20]
          · rw [if_neg hs,if_pos (show (getS (l.drop n)).2.2≠0 from hs)]
        · rw [if_neg k2,if_neg k2]
  · rw [if_neg h0,if_pos (show (getN l).2.2≠0 from h0)]
theorem getV_lt {l:List Int} (hl:∀ c∈l,0≤c∧c≤255):(getV l).2.1<18446744073709551616:=by
  unfold getV
  split
  · dsimp only;omega
  · split
    · dsimp only;omega
    · split
      · split
        · dsimp only;omega
        · split
          · exact ofL_lt (fun c hc=>hl c (List.mem_of_mem_drop (List.mem_of_mem_take hc)))
          · dsimp only;omega
      · split
        · split
          · dsimp only;omega
          · split
            · dsimp only;omega
            · dsimp only;omega
        · dsimp only;omega
theorem mayV_cases {kd:Int} {f:Nat} {s:ByteArray} (h:mayV kd f s=true):(kd=0∧f=0∧s.toList = [])∨(kd=1∧cl f=f∧s.toList = [])∨(kd=2∧f=0∧s.size≤20):=by
  unfold mayV at h
  split at h
  · rename_i h0
    simp at h
    exact .inl ⟨h0,h⟩
  · split at h
    · rename_i h1
      simp at h
      exact .inr (.inl ⟨h1,h.2,h.1⟩)
    · split at h
      · rename_i h2
        simp at h
        exact .inr (.inr ⟨h2,h⟩)
      · cases h
theorem toNat_lt {x:Int} (h:(Lit.int .u64 x).wf=true):x.toNat<18446744073709551616:=by have:=wf_u64 h;omega
theorem app_in {a b:List Int} (h1:∀ c∈a,0≤c∧c≤255) (h2:∀ c∈b,0≤c∧c≤255):∀ c∈a++b,0≤c∧c≤255:=by
  intro c hc
  rcases List.mem_append.1 hc with hc|hc
  · exact h1 c hc
  · exact h2 c hc
end Go.Proofs.Ytmmjpieafbjggaa.Pure
end
section
set_option linter.unusedVariables false
set_option linter.unusedSimpArgs false
namespace Go.Proofs.Ytmmjpieafbjggaa.Pure
open Go.RowKit Go.Proofs.Ytmmjpieafbjggaa.P Go.Proofs.YtmmjpieafbjggaaW.PrintWords Go.Proofs.YtmmjpieafbjggaaW.PrintLast Go.Proofs.YtmmjpieafbjggaaW.PrintMore
/-- May a text be a key? -/
def mayK (s:ByteArray):Bool:=decide (1≤s.size) && decide (s.size≤16)
theorem list_nil_iff (s:ByteArray):s.toList=([]:List UInt8)↔s.size=0:=by
  rw [Go.ByteArray.toList_eq]
  constructor
  · intro h
    have:=congrArg List.length h
    rw [Array.length_toList] at this
    exact this
  · intro h
    refine List.eq_nil_of_length_eq_zero ?_
    rw [Array.length_toList]
    exact h
theorem maykey_is (s:ByteArray):key_May.f s=some (mayK s):=by
  unfold key_May.f mayK
  by_cases h:s.toList=([]:List UInt8)
  · rw [if_pos h]
    have:=(list_nil_iff s).1 h
    simp [this]
  · rw [if_neg h]
    have h0:¬ s.size=0:=fun e=>h ((list_nil_iff s).2 e)
    congr 1
    rw [Bool.eq_iff_iff]
    simp only [decide_eq_true_eq,Bool.and_eq_true]
    omega
theorem rmaykey_is (s:ByteArray):engrossref1_MayKey.f s=some (mayK s):=by
  unfold engrossref1_MayKey.f mayK
  by_cases h:(s.size:Int)≥1
  · rw [if_pos h]
    congr 1
    rw [Bool.eq_iff_iff]
    simp only [decide_eq_true_eq,Bool.and_eq_true]
    omega
  · rw [if_neg h]
    congr 1
    rw [Bool.eq_iff_iff]
    simp only [decide_eq_true_eq,Bool.and_eq_true,Bool.false_eq_true,false_iff]
    omega
/-- May a cell be? -/
def mayC (s:ByteArray) (kd:Int) (f:Nat) (t:ByteArray) (x:Int) (kd':Int) (f':Nat) (t':ByteArray):Bool :=
  mayK s && mayV kd f t && mayV kd' f' t' && decide (0≤x) && decide (x≤1099511627776) && (decide (0<x) || decide (kd'=0) && decide (kd≠0))
theorem maycell_is (s:ByteArray) (kd:Int) (f:Nat) (t:ByteArray) (x:Int) (kd':Int) (f':Nat) (t':ByteArray) {k:Nat} (hk:1≤k):cell_May.f k s kd f t x kd' f' t'=some (mayC s kd f t x kd' f' t'):=by
  obtain⟨k,rfl⟩:∃ m,k=m+1:=⟨k - 1,by omega⟩
  unfold cell_May.f mayC
  rw [maykey_is,may_is,may_is]
  simp only [Option.bind_some,cell_May.j0,cell_none.f]
  cases mayK s
  · simp
  · cases mayV kd f t
    · simp
    · cases mayV kd' f' t'
      · simp
      · simp only [if_true,Bool.true_and]
        by_cases h0:x<0
        · rw [if_pos h0,decide_eq_false (show ¬ 0≤x by omega)];simp
        · rw [if_neg h0,decide_eq_true (show 0≤x by omega)]
          by_cases h1:x>1099511627776
          · rw [decide_eq_true h1,decide_eq_false (show ¬ x≤1099511627776 by omega)];simp
          · rw [decide_eq_false h1,decide_eq_true (show x≤1099511627776 by omega)]
            by_cases h2:x>0
            · simp [h2]
            · rw [if_neg (by decide),if_neg h2,decide_eq_false (show ¬ 0<x by omega)]
              by_cases h3:kd'=0
              · simp only [h3,decide_true,Bool.true_and,Bool.false_or,if_true]
                by_cases h4:kd=0
                · simp [h4]
                · simp [h4]
              · simp [h3]
theorem rmaycell_is (s:ByteArray) (kd:Int) {f:Nat} (hf:f<18446744073709551616) (t:ByteArray) (x:Int) (kd':Int) {f':Nat} (hf':f'<18446744073709551616) (t':ByteArray):engrossref10_May.f s kd f t x kd' f' t'=some (mayC s kd f t x kd' f' t'):=by
  unfold engrossref10_May.f mayC
  rw [rmaykey_is,rmay_is kd hf,rmay_is kd' hf']
  simp only [Option.bind_some]
  cases mayK s
  · simp
  · cases mayV kd f t
    · simp
    · cases mayV kd' f' t'
      · simp
      · simp only [if_true,Bool.true_and]
        by_cases h0:x<0
        · rw [if_pos h0,decide_eq_false (show ¬ 0≤x by omega)];simp
        · rw [if_neg h0,decide_eq_true (show 0≤x by omega)]
          by_cases h1:x>1099511627776
          · rw [if_pos h1,decide_eq_false (show ¬ x≤1099511627776 by omega)];simp
          · rw [if_neg h1,decide_eq_true (show x≤1099511627776 by omega)]
            by_cases h2:x>0
            · simp [h2]
            · rw [if_neg h2,decide_eq_false (show ¬ 0<x by omega)]
              by_cases h3:kd'=0
              · simp only [h3,decide_true,Bool.true_and,Bool.false_or,if_true]
                by_cases h4:kd=0
                · simp [h4]
                · simp [h4]
              · simp [h3]
theorem mayC_cases {s:ByteArray} {kd:Int} {f:Nat} {t:ByteArray} {x:Int} {kd':Int} {f':Nat} {t':ByteArray} (h:mayC s kd f t x kd' f' t'=true) :
    (1≤s.size∧s.size≤16)∧mayV kd f t=true∧mayV kd' f' t'=true∧0≤x∧x≤1099511627776∧(0<x∨(kd'=0∧kd≠0)):=by
  unfold mayC mayK at h
  simp only [Bool.and_eq_true,Bool.or_eq_true,decide_eq_true_eq] at h
  obtain⟨⟨⟨⟨⟨h1,h2⟩,h3⟩,h4⟩,h5⟩,h6⟩:=h
  exact⟨h1,h2,h3,h4,h5,h6⟩
theorem mayV_wf {kd:Int} {f:Nat} {t:ByteArray} (h:mayV kd f t=true):(Lit.int .i64 kd).wf=true∧t.size≤20:=by
  rcases mayV_cases h with ⟨rfl,_,h2⟩ | ⟨rfl,_,h2⟩ | ⟨rfl,_,h2⟩
  · exact⟨by decide,by have:=(list_nil_iff t).1 h2;omega⟩
  · exact⟨by decide,by have:=(list_nil_iff t).1 h2;omega⟩
  · exact⟨by decide,h2⟩
theorem txn_wf {x:Int} (h0:0≤x) (h1:x≤1099511627776):(Lit.int .i64 x).wf=true:=by
  simp [Lit.wf,IntKind.min,IntKind.max,IntKind.signed,IntKind.bits]
  omega
/-- A cell's bytes. -/
def putC (s:ByteArray) (kd:Int) (f:Nat) (t:ByteArray) (x:Int) (kd':Int) (f':Nat) (t':ByteArray):List Int :=
  putS s++(putV kd f t++(putN x++(if x>0 then putV kd' f' t' else [])))
theorem tail_len {x:Int} {kd':Int} {f':Nat} {t':ByteArray} (h:(Lit.int .i64 kd').wf=true) (ht:t'.size≤65536):(if x>0 then putV kd' f' t' else []).length≤65556:=by
  have:=putV_len h f' ht
  split
  · omega
  · simp
theorem putcell_is {s:ByteArray} {kd:Int} {f:Nat} {t:ByteArray} {x:Int} {kd':Int} {f':Nat} {t':ByteArray} (hs:s.size≤65536) (hkd:(Lit.int .i64 kd).wf=true) (hf:f<18446744073709551616) (ht:t.size≤65536) (hx:(Lit.int .i64 x).wf=true) (hkd':(Lit.int .i64 kd').wf=true) (hf':f'<18446744073709551616) (ht':t'.size≤65536)
    {k:Nat} (hk:12≤k) {b:List Int} (hb:b.length+400000≤140737488355327):cell_Put.f k b s kd f t x kd' f' t'=some (b++putC s kd f t x kd' f' t'):=by
  unfold cell_Put.f putC
  have h1:=(putS_len hs).1
  have h2:=putV_len hkd f ht
  have h3:=(putN_len hx).1
  rw [puttext_is hs hk (by omega)]
  simp only [Option.bind_some]
  rw [dput_is hkd hf ht hk (by rw [List.length_append];omega)]
  simp only [Option.bind_some]
  rw [put_is hx hk (by simp only [List.length_append];omega)]
  simp only [Option.bind_some]
  by_cases h:x>0
  · rw [if_pos h,if_pos h,dput_is hkd' hf' ht' hk (by simp only [List.length_append];omega)]
    simp only [Option.bind_some,List.append_assoc]
  · rw [if_neg h,if_neg h]
    simp only [List.append_nil,List.append_assoc]
theorem rbytes_cell {s:ByteArray} {kd:Int} {f:Nat} {t:ByteArray} {x:Int} {kd':Int} {f':Nat} {t':ByteArray} (hs:s.size≤65536) (hkd:(Lit.int .i64 kd).wf=true) (hf:f<18446744073709551616) (ht:t.size≤65536) (hx:(Lit.int .i64 x).wf=true) (hkd':(Lit.int .i64 kd').wf=true) (hf':f'<18446744073709551616) (ht':t'.size≤65536)
    {k:Nat} (hk:12≤k):engrossref10_Bytes.f k s kd f t x kd' f' t'=some (putC s kd f t x kd' f' t'):=by
  unfold engrossref10_Bytes.f putC
  have h1:=(putS_len hs).1
  have h2:=putV_len hkd f ht
  have h3:=(putN_len hx).1
  have h4:=putV_len hkd' f' ht'
  rw [rputtext_is hs hk]
  simp only [Option.bind_some]
  rw [rput_val hkd hf ht hk]
  simp only [Option.bind_some]
  rw [if_pos (by omega),rput_is hx hk]
  simp only [Option.bind_some]
  rw [if_pos (by simp only [List.length_append];omega)]
  by_cases h:x>0
  · rw [if_pos h,if_pos h,rput_val hkd' hf' ht' hk]
    simp only [Option.bind_some]
    rw [if_pos (by simp only [List.length_append];omega)]
    simp only [List.append_assoc]
  · rw [if_neg h,if_neg h]
    simp only [List.append_nil,List.append_assoc]
theorem putC_len {s:ByteArray} {kd:Int} {f:Nat} {t:ByteArray} {x:Int} {kd':Int} {f':Nat} {t':ByteArray} (hs:s.size≤65536) (hkd:(Lit.int .i64 kd).wf=true) (ht:t.size≤65536) (hx:(Lit.int .i64 x).wf=true) (hkd':(Lit.int .i64 kd').wf=true) (ht':t'.size≤65536) :
    (putC s kd f t x kd' f' t').length≤300000∧1≤(putC s kd f t x kd' f' t').length:=by
  have h1:=putS_len hs
  have h2:=putV_len hkd f ht
  have h3:=(putN_len hx).1
  have h4:=tail_len (x:=x) (f':=f') hkd' ht'
  unfold putC
  simp only [List.length_append]
  omega
theorem putC_bytes {s:ByteArray} {kd:Int} {f:Nat} {t:ByteArray} {x:Int} {kd':Int} {f':Nat} {t':ByteArray} (hs:s.size≤65536) (hkd:(Lit.int .i64 kd).wf=true) (ht:t.size≤65536) (hx:(Lit.int .i64 x).wf=true) (hkd':(Lit.int .i64 kd').wf=true) (ht':t'.size≤65536) :
    ∀ c∈putC s kd f t x kd' f' t',0≤c∧c≤255:=by
  unfold putC
  refine app_in (putS_bytes hs) (app_in (putV_bytes hkd f ht) (app_in (putN_bytes hx) ?_))
  split
  · exact putV_bytes hkd' f' ht'
  · intro c hc;cases hc
/-- What is handed back where no cell is told. -/
def noC (e:Int):ByteArray × Int × Nat × ByteArray × Int × Int × Nat × ByteArray × Int × Int:=((⟨#[]⟩:ByteArray),0,0,(⟨#[]⟩:ByteArray),0,0,0,(⟨#[]⟩:ByteArray),0,e)
/-- What the first bytes say: a cell, how many bytes, what went wrong. -/
def getC (l:List Int):ByteArray × Int × Nat × ByteArray × Int × Int × Nat × ByteArray × Int × Int :=
  let g:=getS l
  if g.2.2≠0 then noC g.2.2 else
  let v:=getV (l.drop g.2.1.toNat)
  if v.2.2.2.2≠0 then noC v.2.2.2.2 else
  let t:=getN (l.drop (g.2.1+v.2.2.2.1).toNat)
  if t.2.2≠0 then noC t.2.2 else
  if t.1>0 then
    (let w:=getV (l.drop (g.2.1+v.2.2.2.1+t.2.1).toNat)
    if w.2.2.2.2≠0 then noC w.2.2.2.2 else
    if mayC g.1 v.1 v.2.1 v.2.2.1 t.1 w.1 w.2.1 w.2.2.1=true then (g.1,v.1,v.2.1,v.2.2.1,t.1,w.1,w.2.1,w.2.2.1,g.2.1+v.2.2.2.1+t.2.1+w.2.2.2.1,0) else noC 1)
  else if mayC g.1 v.1 v.2.1 v.2.2.1 t.1 0 0 (⟨#[]⟩:ByteArray)=true then (g.1,v.1,v.2.1,v.2.2.1,t.1,0,0,(⟨#[]⟩:ByteArray),g.2.1+v.2.2.2.1+t.2.1,0) else noC 1
theorem getV_in {l:List Int} (h:(getV l).2.2.2.2=0):1≤(getV l).2.2.2.1∧(getV l).2.2.2.1≤l.length:=by
  unfold getV at h ⊢
  by_cases h0:(getN l).2.2≠0
  · rw [if_pos h0] at h;exact absurd h h0
  · rw [if_neg h0] at h ⊢
    have hin:=getN_in (show (getN l).2.2=0 by omega)
    by_cases k0:(getN l).1=0
    · rw [if_pos k0];exact hin
    · rw [if_neg k0] at h ⊢
      by_cases k1:(getN l).1=1
      · rw [if_pos k1] at h ⊢
        by_cases k8:(l.length:Int) - (getN l).2.1<8
        · rw [if_pos k8] at h;cases h
        · rw [if_neg k8] at h ⊢
          split at h
          · rename_i ho
            rw [if_pos ho];dsimp only;omega
          · cases h
      · rw [if_neg k1] at h ⊢
        by_cases k2:(getN l).1=2
        · rw [if_pos k2] at h ⊢
          by_cases ks:(getS (l.drop (getN l).2.1.toNat)).2.2≠0
          · rw [if_pos ks] at h;exact absurd h ks
          · rw [if_neg ks] at h ⊢
            have hsi:=getS_in (show (getS (l.drop (getN l).2.1.toNat)).2.2=0 by omega)
            rw [List.length_drop] at hsi
            split at h
            · rename_i h20
              rw [if_pos h20];dsimp only;omega
            · cases h
        · rw [if_neg k2] at h;cases h
theorem drop_bytes {l:List Int} (hl:∀ c∈l,0≤c∧c≤255) (n:Nat):∀ c∈l.drop n,0≤c∧c≤255:=fun c hc=>hl c (List.mem_of_mem_drop hc)
theorem getcell_is {l:List Int} (hl:∀ c∈l,0≤c∧c≤255) (hn:l.length≤140737488355328) {k:Nat} (hk:60≤k):cell_Get.f k l=some (getC l):=by
  unfold cell_Get.f getC noC
  rw [gettext_is hl hn (by omega)]
  simp only [Option.bind_some]
  by_cases hg:(getS l).2.2=0
  · have i1:=getS_in hg
    obtain⟨a,ea⟩:∃ a:Nat,(getS l).2.1=a:=⟨(getS l).2.1.toNat,by omega⟩
    rw [ea] at i1
    rw [if_pos hg,if_neg (show ¬ (getS l).2.2≠0 by simp [hg]),ea]
    rw [Int.toNat_natCast,if_pos (by omega),if_pos (by omega),dget_is (drop_bytes hl _) (by rw [List.length_drop];omega) (by omega)]
    simp only [Option.bind_some]
    generalize hv:getV (l.drop a)=v
    by_cases hve:v.2.2.2.2=0
    · have i2:=getV_in (l:=l.drop a) (by rw [hv];exact hve)
      rw [hv,List.length_drop] at i2
      obtain⟨b,eb⟩:∃ b:Nat,v.2.2.2.1=b:=⟨v.2.2.2.1.toNat,by omega⟩
      rw [eb] at i2
      rw [if_pos hve,if_neg (show ¬ v.2.2.2.2≠0 by simp [hve]),eb]
      rw [w64 (x:=(a:Int)+b) (by omega),if_pos (by omega),if_pos (by omega)]
      have e1:((a:Int)+b).toNat=a+b:=by omega
      rw [e1,get_is (drop_bytes hl _) (by rw [List.length_drop];omega) (by omega)]
      simp only [Option.bind_some]
      generalize ht:getN (l.drop (a+b))=t
      by_cases hte:t.2.2=0
      · have i3:=getN_in (l:=l.drop (a+b)) (by rw [ht];exact hte)
        rw [ht,List.length_drop] at i3
        obtain⟨c,ec⟩:∃ c:Nat,t.2.1=c:=⟨t.2.1.toNat,by omega⟩
        rw [ec] at i3
        rw [if_pos hte,if_neg (show ¬ t.2.2≠0 by simp [hte]),ec]
        rw [w64 (x:=(a:Int)+b+c) (by omega)]
        by_cases hx:t.1>0
        · have e2:((a:Int)+b+c).toNat=a+b+c:=by omega
          rw [if_pos hx,if_pos hx,if_pos (by omega),if_pos (by omega),e2,dget_is (drop_bytes hl _) (by rw [List.length_drop];omega) (by omega)]
          simp only [Option.bind_some]
          generalize hw:getV (l.drop (a+b+c))=w
          by_cases hwe:w.2.2.2.2=0
          · have i4:=getV_in (l:=l.drop (a+b+c)) (by rw [hw];exact hwe)
            rw [hw,List.length_drop] at i4
            rw [if_pos hwe,if_neg (show ¬ w.2.2.2.2≠0 by simp [hwe]),maycell_is _ _ _ _ _ _ _ _ (by omega)]
            simp only [Option.bind_some]
            rw [w64 (x:=(a:Int)+b+c+w.2.2.2.1) (by omega)]
            split <;> rfl
          · rw [if_neg hwe,if_pos (show w.2.2.2.2≠0 from hwe)]
        · rw [if_neg hx,if_neg hx,maycell_is _ _ _ _ _ _ _ _ (by omega)]
          simp only [Option.bind_some]
          split <;> rfl
      · rw [if_neg hte,if_pos (show t.2.2≠0 from hte)]
    · rw [if_neg hve,if_pos (show v.2.2.2.2≠0 from hve)]
  · rw [if_neg hg,if_pos (show (getS l).2.2≠0 from hg)]
theorem noC_lt (e:Int):(noC e).2.2.1<18446744073709551616∧(noC e).2.2.2.2.2.2.1<18446744073709551616:=by unfold noC;dsimp only;omega
theorem getC_lt {l:List Int} (hl:∀ c∈l,0≤c∧c≤255):(getC l).2.2.1<18446744073709551616∧(getC l).2.2.2.2.2.2.1<18446744073709551616:=by
  unfold getC
  dsimp only
  split
  · exact noC_lt _
  · split
    · exact noC_lt _
    · split
      · exact noC_lt _
      · split
        · split
          · exact noC_lt _
          · split
            · exact⟨getV_lt (drop_bytes hl _),getV_lt (drop_bytes hl _)⟩
            · exact noC_lt _
        · split
          · exact⟨getV_lt (drop_bytes hl _),by dsimp only;omega⟩
          · exact noC_lt _
end Go.Proofs.Ytmmjpieafbjggaa.Pure
end
section
set_option linter.unusedVariables false
set_option linter.unusedSimpArgs false
namespace Go.Proofs.Ytmmjpieafbjggaa.Pure
open Go.RowKit Go.Proofs.Ytmmjpieafbjggaa.P Go.Proofs.YtmmjpieafbjggaaW.PrintWords Go.Proofs.YtmmjpieafbjggaaW.PrintLast Go.Proofs.YtmmjpieafbjggaaW.PrintMore
theorem drop_step {α:Type} {l:List α} {c:α} {cs:List α} {i:Nat} (h:l.drop i=c :: cs):∃ hlt:i<l.length,l[i]=c∧l.drop (i+1)=cs:=by
  have hlt:i<l.length:=by
    have:=congrArg List.length h
    simp at this
    omega
  have:=List.getElem_cons_drop hlt
  rw [h] at this
  exact⟨hlt,List.cons.inj this⟩
theorem drop_nil {α:Type} {l:List α} {i:Nat} (h:l.drop i = []):l.length≤i:=List.drop_eq_nil_iff.1 h
/-- What stands ahead of a place. -/
def prevO {α:Type} (l:List α) (i:Nat):Option α:=if i=0 then none else l[i - 1]?
theorem prevO_zero {α:Type} (l:List α):prevO l 0=none:=rfl
theorem prevO_succ {α:Type} {l:List α} {c:α} {cs:List α} {i:Nat} (h:l.drop i=c :: cs):prevO l (i+1)=some c:=by
  obtain⟨hlt,h1,_⟩:=drop_step h
  unfold prevO
  rw [if_neg (by omega),Nat.add_sub_cancel,List.getElem?_eq_getElem hlt,h1]
theorem prevO_pos {α:Type} {l:List α} {i:Nat} (h0:0<i) (h1:i≤l.length):∃ hlt:i - 1<l.length,prevO l i=some (l[i - 1]'hlt):=by
  refine⟨by omega,?_⟩
  unfold prevO
  rw [if_neg (by omega),List.getElem?_eq_getElem (by omega)]
theorem rd62 {l:List S62} {i:Nat} (h:i<l.length):rd_T62 l (i:Int)=l[i]:=by
  unfold rd_T62
  simp [List.getD,h]
theorem rd56 {l:List S56} {i:Nat} (h:i<l.length):rd_T56 l (i:Int)=l[i]:=by
  unfold rd_T56
  simp [List.getD,h]
theorem rdS {l:List ByteArray} {i:Nat} (h:i<l.length):rdOf ByteArray.empty l (i:Int)=l[i]:=by
  unfold rdOf
  simp [List.getD,h]
theorem rdI {l:List Int} {i:Nat} (h:i<l.length):rd l (i:Int)=l[i]:=by
  unfold rd
  simp [List.getD,h]
def mayCell (x:S62):Bool:=mayC x.f0 x.f1.f0 x.f1.f1 x.f1.f2 x.f2 x.f3.f0 x.f3.f1 x.f3.f2
/-- Below a key, if there is one ahead. -/
def ltO (p:Option ByteArray) (s:ByteArray):Bool:=match p with|none=>true|some q=>Op.bytesLess q.toList s.toList
def goodC:Option ByteArray→List S62→Bool
 | _,[]=>true
 | p,x :: xs=>mayCell x && (ltO p x.f0 && goodC (some x.f0) xs)
def goodK:Option ByteArray→List ByteArray→Bool
 | _,[]=>true
 | p,x :: xs=>mayK x && (ltO p x && goodK (some x) xs)
def goodI (l:List Int):Bool:=l.all fun n=>decide (2≤n) && decide (n<32)
/-- May a node be? -/
def mayN (leaf:Bool) (cs:List S62) (keys:List ByteArray) (kids:List Int):Bool :=
  if leaf=true then goodC none cs && (decide (keys.length=0) && decide (kids.length=0))
  else decide (cs.length=0) && (goodK none keys && (goodI kids && (decide (1≤kids.length) && (decide (kids.length≤32) && decide (keys.length+1=kids.length)))))
theorem mayn_l0 (l:List S62) (keys:List ByteArray) (kids:List Int) (hl:l.length≤1000) (cs:List S62):∀ (k i:Nat),l.drop i=cs→cs.length+10<k →
    node_May.l0 k l (l.length:Int) (i:Int) true l keys kids=some (goodC ((prevO l i).map S62.f0) cs && (decide (keys.length=0) && decide (kids.length=0))):=by
  induction cs with
  | nil =>
    intro k i hd hk
    obtain⟨k,rfl⟩:∃ m,k=m+1:=⟨k - 1,by omega⟩
    have hi:=drop_nil hd
    simp only [node_May.l0]
    rw [if_neg (by omega),if_pos trivial]
    simp only [goodC,Bool.true_and]
    by_cases h0:keys.length=0
    · rw [if_pos (by omega),decide_eq_true h0,Bool.true_and]
      congr 1
      rw [Bool.eq_iff_iff]
      simp only [beq_iff_eq,decide_eq_true_eq]
      omega
    · rw [if_neg (by omega),decide_eq_false h0,Bool.false_and]
  | cons c cs ih =>
    intro k i hd hk
    obtain⟨k,rfl⟩:∃ m,k=m+1:=⟨k - 1,by omega⟩
    obtain⟨hlt,hc,hd2⟩:=drop_step hd
    simp only [List.length_cons] at hk
    simp only [node_May.l0]
    rw [if_pos (by omega),if_pos (by omega),if_pos (by omega),if_pos trivial,rd62 hlt,hc,maycell_is _ _ _ _ _ _ _ _ (by omega),w64 (x:=(i:Int)+1) (by omega),show (i:Int)+1=((i+1:Nat):Int) from rfl]
    simp only [Option.bind_some,goodC]
    have hih:=ih k (i+1) hd2 (by omega)
    rw [prevO_succ hd] at hih
    show (if mayCell c=true then _ else _)=_
    cases hm:mayCell c
    · rw [if_neg (by decide)]
      simp
    · rw [if_pos rfl]
      by_cases h0:0<i
      · obtain⟨hlt',hp⟩:=prevO_pos (l:=l) h0 (by omega)
        rw [if_pos (by omega),w64 (x:=(i:Int) - 1) (by omega),show (i:Int) - 1=((i - 1:Nat):Int) by omega,if_pos (by omega),if_pos (by omega),rd62 hlt',hp]
        simp only [Option.map_some,ltO]
        by_cases hb:Op.bytesLess (l[i - 1].f0).toList (c.f0).toList=true
        · rw [if_pos hb,hih,hb]
          simp
        · rw [if_neg hb,Bool.eq_false_iff.2 hb]
          simp
      · have hi0:i=0:=by omega
        subst hi0
        rw [if_neg (by omega),hih,prevO_zero]
        simp [ltO]
theorem mayn_l2 (l:List Int) (keys:List ByteArray) (cs:List S62) (hl:l.length≤1000) (ks:List Int):∀ (k i:Nat),l.drop i=ks→ks.length+2<k →
    node_May.l2 k l (l.length:Int) (i:Int) false cs keys l=some (goodI ks && (decide (1≤l.length) && (decide (l.length≤32) && decide (keys.length+1=l.length)))):=by
  induction ks with
  | nil =>
    intro k i hd hk
    obtain⟨k,rfl⟩:∃ m,k=m+1:=⟨k - 1,by omega⟩
    have hi:=drop_nil hd
    simp only [node_May.l2]
    rw [if_neg (by omega),w64 (x:=(l.length:Int) - 1) (by omega)]
    simp only [goodI,List.all_nil,Bool.true_and]
    by_cases h1:1≤l.length
    · rw [if_pos (by omega),decide_eq_true h1,Bool.true_and]
      by_cases h2:l.length≤32
      · rw [if_pos (by omega),decide_eq_true h2,Bool.true_and]
        congr 1
        rw [Bool.eq_iff_iff]
        simp only [beq_iff_eq,decide_eq_true_eq]
        omega
      · rw [if_neg (by omega),decide_eq_false h2,Bool.false_and]
    · rw [if_neg (by omega),decide_eq_false h1,Bool.false_and]
  | cons c ks ih =>
    intro k i hd hk
    obtain⟨k,rfl⟩:∃ m,k=m+1:=⟨k - 1,by omega⟩
    obtain⟨hlt,hc,hd2⟩:=drop_step hd
    simp only [List.length_cons] at hk
    simp only [node_May.l2]
    have hih:=ih k (i+1) hd2 (by omega)
    rw [if_pos (by omega),if_pos (by omega),if_pos (by omega),rdI hlt,hc,w64 (x:=(i:Int)+1) (by omega),show (i:Int)+1=((i+1:Nat):Int) from rfl,hih]
    simp only [goodI,List.all_cons]
    by_cases h2:c<2
    · rw [if_pos h2,decide_eq_false (show ¬ 2≤c by omega)]
      simp
    · rw [if_neg h2,decide_eq_true (show 2≤c by omega)]
      by_cases h3:c≥32
      · rw [if_pos h3,decide_eq_false (show ¬ c<32 by omega)]
        simp
      · rw [if_neg h3,decide_eq_true (show c<32 by omega)]
        simp
theorem mayn_l1 (l:List ByteArray) (kids:List Int) (cs:List S62) (hl:l.length≤1000) (hl2:kids.length≤1000) (ks:List ByteArray):∀ (k i:Nat),l.drop i=ks→ks.length+kids.length+10<k →
    node_May.l1 k l (l.length:Int) (i:Int) false cs l kids=some (goodK (prevO l i) ks && (goodI kids && (decide (1≤kids.length) && (decide (kids.length≤32) && decide (l.length+1=kids.length))))):=by
  induction ks with
  | nil =>
    intro k i hd hk
    obtain⟨k,rfl⟩:∃ m,k=m+1:=⟨k - 1,by omega⟩
    have hi:=drop_nil hd
    simp only [node_May.l1]
    rw [if_neg (by omega)]
    have h:=mayn_l2 kids l cs hl2 kids k 0 rfl (by omega)
    rw [show ((0:Nat):Int)=0 from rfl] at h
    rw [h]
    simp [goodK]
  | cons c ks ih =>
    intro k i hd hk
    obtain⟨k,rfl⟩:∃ m,k=m+1:=⟨k - 1,by omega⟩
    obtain⟨hlt,hc,hd2⟩:=drop_step hd
    simp only [List.length_cons] at hk
    simp only [node_May.l1]
    have hih:=ih k (i+1) hd2 (by omega)
    rw [prevO_succ hd] at hih
    rw [if_pos (by omega),if_pos (by omega),if_pos (by omega),rdS hlt,hc,maykey_is,w64 (x:=(i:Int)+1) (by omega),show (i:Int)+1=((i+1:Nat):Int) from rfl]
    simp only [Option.bind_some,goodK]
    cases hm:mayK c
    · rw [if_neg (by decide)]
      simp
    · rw [if_pos rfl]
      by_cases h0:0<i
      · obtain⟨hlt',hp⟩:=prevO_pos (l:=l) h0 (by omega)
        rw [if_pos (by omega),w64 (x:=(i:Int) - 1) (by omega),show (i:Int) - 1=((i - 1:Nat):Int) by omega,if_pos (by omega),if_pos (by omega),rdS hlt',hp]
        simp only [ltO]
        by_cases hb:Op.bytesLess (l[i - 1]).toList c.toList=true
        · rw [if_pos hb,hih,hb]
          simp
        · rw [if_neg hb,Bool.eq_false_iff.2 hb]
          simp
      · have hi0:i=0:=by omega
        subst hi0
        rw [if_neg (by omega),hih,prevO_zero]
        simp [ltO]
theorem maynode_is (leaf:Bool) (cs:List S62) (keys:List ByteArray) (kids:List Int) (h1:cs.length≤1000) (h2:keys.length≤1000) (h3:kids.length≤1000) {k:Nat} (hk:4000≤k) :
    node_May.f k leaf cs keys kids=some (mayN leaf cs keys kids):=by
  unfold node_May.f mayN
  cases leaf
  · rw [if_neg (by decide)]
    obtain⟨k,rfl⟩:∃ m,k=m+1:=⟨k - 1,by omega⟩
    cases cs with
    | nil =>
      simp only [node_May.l0,List.length_nil]
      rw [if_neg (by decide),if_neg (by decide)]
      have h:=mayn_l1 keys kids [] h2 h3 keys k 0 rfl (by omega)
      rw [show ((0:Nat):Int)=0 from rfl,prevO_zero] at h
      rw [h]
      simp
    | cons c cs =>
      simp only [node_May.l0]
      rw [if_pos (by simp only [List.length_cons];omega),if_pos (by decide),if_pos (by simp only [List.length_cons];omega),if_neg (by decide)]
      simp
  · rw [if_pos rfl]
    have h:=mayn_l0 cs keys kids h1 cs k 0 rfl (by omega)
    rw [show ((0:Nat):Int)=0 from rfl,prevO_zero] at h
    exact h
def putCell (x:S62):List Int:=putC x.f0 x.f1.f0 x.f1.f1 x.f1.f2 x.f2 x.f3.f0 x.f3.f1 x.f3.f2
def bytesN (leaf:Bool) (cs:List S62) (keys:List ByteArray) (kids:List Int):List Int :=
  if leaf=true then [1]++putN (cs.length:Int)++cs.flatMap putCell
  else [2]++putN (kids.length:Int)++kids.flatMap putN++keys.flatMap putS
/-- The floats of cells are 64 bits. -/
def FC (x:S62):Prop:=x.f1.f1<18446744073709551616∧x.f3.f1<18446744073709551616
theorem good_cells:∀ {cs:List S62} {p:Option ByteArray},goodC p cs=true→∀ x∈cs,mayCell x=true
 | [],_,_,x,hx=>by cases hx
 | c :: cs,p,h,x,hx=>by
  simp only [goodC,Bool.and_eq_true] at h
  rcases List.mem_cons.1 hx with e|hx
  · rw [e];exact h.1
  · exact good_cells h.2.2 x hx
theorem good_keys:∀ {ks:List ByteArray} {p:Option ByteArray},goodK p ks=true→∀ x∈ks,1≤x.size∧x.size≤16
 | [],_,_,x,hx=>by cases hx
 | c :: cs,p,h,x,hx=>by
  simp only [goodK,Bool.and_eq_true] at h
  rcases List.mem_cons.1 hx with e|hx
  · rw [e]
    have:=h.1
    unfold mayK at this
    simpa using this
  · exact good_keys h.2.2 x hx
theorem good_kids {l:List Int} (h:goodI l=true):∀ x∈l,2≤x∧x<32:=by
  intro x hx
  have:=List.all_eq_true.1 h x hx
  simpa using this
theorem cell_parts {x:S62} (h:mayCell x=true):x.f0.size≤16∧(Lit.int .i64 x.f1.f0).wf=true∧x.f1.f2.size≤20∧(Lit.int .i64 x.f2).wf=true∧(Lit.int .i64 x.f3.f0).wf=true∧x.f3.f2.size≤20:=by
  obtain⟨⟨_,k1⟩,v1,w1,z0,z1,_⟩:=mayC_cases h
  exact⟨k1,(mayV_wf v1).1,(mayV_wf v1).2,txn_wf z0 z1,(mayV_wf w1).1,(mayV_wf w1).2⟩
theorem putCell_len {x:S62} (h:mayCell x=true):(putCell x).length≤300000∧∀ c∈putCell x,0≤c∧c≤255:=by
  obtain⟨a,b,c,d,e,f⟩:=cell_parts h
  exact⟨(putC_len (by omega) b (by omega) d e (by omega)).1,putC_bytes (by omega) b (by omega) d e (by omega)⟩
theorem bytn_l0 (l:List S62) (hg:∀ x∈l,mayCell x=true) (hf:∀ x∈l,FC x) (hl:l.length≤1000) (cs:List S62):∀ (k i:Nat) (b:List Int),l.drop i=cs→cs.length+20<k→b.length≤1000000000+300000 * i →
    node_bytesOf.l0 k b l (l.length:Int) (i:Int)=some (b++cs.flatMap putCell):=by
  induction cs with
  | nil =>
    intro k i b hd hk hb
    obtain⟨k,rfl⟩:∃ m,k=m+1:=⟨k - 1,by omega⟩
    have hi:=drop_nil hd
    simp only [node_bytesOf.l0]
    rw [if_neg (by omega)]
    simp
  | cons c cs ih =>
    intro k i b hd hk hb
    obtain⟨k,rfl⟩:∃ m,k=m+1:=⟨k - 1,by omega⟩
    obtain⟨hlt,hc,hd2⟩:=drop_step hd
    simp only [List.length_cons] at hk
    have hm:c∈l:=by rw [← hc];exact List.getElem_mem hlt
    obtain⟨p1,p2,p3,p4,p5,p6⟩:=cell_parts (hg c hm)
    obtain⟨f1,f2⟩:=hf c hm
    have hlen:=(putCell_len (hg c hm)).1
    simp only [node_bytesOf.l0]
    rw [if_pos (by omega),if_pos (by omega),if_pos (by omega),rd62 hlt,hc,putcell_is (by omega) p2 f1 (by omega) p4 p5 f2 (by omega) (by omega) (by omega),w64 (x:=(i:Int)+1) (by omega),show (i:Int)+1=((i+1:Nat):Int) from rfl]
    simp only [Option.bind_some]
    have:=ih k (i+1) (b++putCell c) hd2 (by omega) (by rw [List.length_append];omega)
    rw [show putC c.f0 c.f1.f0 c.f1.f1 c.f1.f2 c.f2 c.f3.f0 c.f3.f1 c.f3.f2=putCell c from rfl,this,List.flatMap_cons,List.append_assoc]
theorem bytn_l2 (l:List ByteArray) (hg:∀ x∈l,x.size≤16) (hl:l.length≤1000) (ks:List ByteArray):∀ (k i:Nat) (b:List Int),l.drop i=ks→ks.length+20<k→b.length≤1000000000+300000 * i →
    node_bytesOf.l2 k b l (l.length:Int) (i:Int)=some (b++ks.flatMap putS):=by
  induction ks with
  | nil =>
    intro k i b hd hk hb
    obtain⟨k,rfl⟩:∃ m,k=m+1:=⟨k - 1,by omega⟩
    have hi:=drop_nil hd
    simp only [node_bytesOf.l2]
    rw [if_neg (by omega)]
    simp
  | cons c ks ih =>
    intro k i b hd hk hb
    obtain⟨k,rfl⟩:∃ m,k=m+1:=⟨k - 1,by omega⟩
    obtain⟨hlt,hc,hd2⟩:=drop_step hd
    simp only [List.length_cons] at hk
    have hm:c∈l:=by rw [← hc];exact List.getElem_mem hlt
    have hs:=hg c hm
    have hlen:=(putS_len (s:=c) (by omega)).1
    simp only [node_bytesOf.l2]
    rw [if_pos (by omega),if_pos (by omega),if_pos (by omega),rdS hlt,hc,puttext_is (by omega) (by omega) (by omega),w64 (x:=(i:Int)+1) (by omega),show (i:Int)+1=((i+1:Nat):Int) from rfl]
    simp only [Option.bind_some]
    have:=ih k (i+1) (b++putS c) hd2 (by omega) (by rw [List.length_append];omega)
    rw [this,List.flatMap_cons,List.append_assoc]
theorem kid_wf {x:Int} (h:2≤x∧x<32):(Lit.int .i64 x).wf=true:=txn_wf (by omega) (by omega)
theorem bytn_l1 (l:List Int) (keys:List ByteArray) (cs:List S62) (hg:∀ x∈l,2≤x∧x<32) (hk2:∀ x∈keys,x.size≤16) (hl:l.length≤1000) (hl2:keys.length≤1000) (ks:List Int):∀ (k i:Nat) (b:List Int),l.drop i=ks→ks.length+keys.length+40<k→b.length≤1000000+300000 * i→i≤l.length →
    node_bytesOf.l1 k b l (l.length:Int) (i:Int) false cs keys l=some (b++ks.flatMap putN++keys.flatMap putS):=by
  induction ks with
  | nil =>
    intro k i b hd hk hb hil
    obtain⟨k,rfl⟩:∃ m,k=m+1:=⟨k - 1,by omega⟩
    have hi:=drop_nil hd
    simp only [node_bytesOf.l1]
    rw [if_neg (by omega)]
    have h:=bytn_l2 keys hk2 hl2 keys k 0 b rfl (by omega) (by omega)
    rw [show ((0:Nat):Int)=0 from rfl] at h
    rw [h]
    simp
  | cons c ks ih =>
    intro k i b hd hk hb hil
    obtain⟨k,rfl⟩:∃ m,k=m+1:=⟨k - 1,by omega⟩
    obtain⟨hlt,hc,hd2⟩:=drop_step hd
    simp only [List.length_cons] at hk
    have hm:c∈l:=by rw [← hc];exact List.getElem_mem hlt
    have hw:=kid_wf (hg c hm)
    have hlen:=(putN_len hw).1
    simp only [node_bytesOf.l1]
    rw [if_pos (by omega),if_pos (by omega),if_pos (by omega),rdI hlt,hc,put_is hw (by omega) (by omega),w64 (x:=(i:Int)+1) (by omega),show (i:Int)+1=((i+1:Nat):Int) from rfl]
    simp only [Option.bind_some]
    have:=ih k (i+1) (b++putN c) hd2 (by omega) (by rw [List.length_append];omega) (by omega)
    rw [this,List.flatMap_cons,List.append_assoc b (putN c)]
theorem len_wf {n:Nat} (h:n≤1000):(Lit.int .i64 (n:Int)).wf=true:=txn_wf (by omega) (by omega)
theorem mayN_leaf {cs:List S62} {keys:List ByteArray} {kids:List Int} (h:mayN true cs keys kids=true):goodC none cs=true∧keys = []∧kids = []:=by
  unfold mayN at h
  rw [if_pos rfl] at h
  simp only [Bool.and_eq_true,decide_eq_true_eq] at h
  exact⟨h.1,List.eq_nil_of_length_eq_zero h.2.1,List.eq_nil_of_length_eq_zero h.2.2⟩
theorem mayN_inner {cs:List S62} {keys:List ByteArray} {kids:List Int} (h:mayN false cs keys kids=true):cs = []∧goodK none keys=true∧goodI kids=true∧1≤kids.length∧kids.length≤32∧keys.length+1=kids.length:=by
  unfold mayN at h
  rw [if_neg (by decide)] at h
  simp only [Bool.and_eq_true,decide_eq_true_eq] at h
  exact⟨List.eq_nil_of_length_eq_zero h.1,h.2.1,h.2.2.1,h.2.2.2.1,h.2.2.2.2.1,h.2.2.2.2.2⟩
theorem bytesnode_is {leaf:Bool} {cs:List S62} {keys:List ByteArray} {kids:List Int} (hm:mayN leaf cs keys kids=true) (hf:∀ x∈cs,FC x) (h1:cs.length≤1000) {k:Nat} (hk:4000≤k) :
    node_bytesOf.f k leaf cs keys kids=some (bytesN leaf cs keys kids):=by
  unfold node_bytesOf.f bytesN
  cases leaf
  · obtain⟨rfl,g1,g2,n1,n2,n3⟩:=mayN_inner hm
    rw [if_neg (by decide),if_neg (by decide),put_is (len_wf (by omega)) (by omega) (by simp)]
    simp only [Option.bind_some]
    have hl:=(putN_len (len_wf (n:=kids.length) (by omega))).1
    have h:=bytn_l1 kids keys [] (good_kids g2) (fun x hx=>(good_keys g1 x hx).2) (by omega) (by omega) kids k 0 ([2]++putN (kids.length:Int)) rfl (by omega) (by simp only [List.length_append,List.length_cons,List.length_nil];omega) (by omega)
    rw [show ((0:Nat):Int)=0 from rfl] at h
    exact h
  · obtain⟨g1,rfl,rfl⟩:=mayN_leaf hm
    rw [if_pos rfl,if_pos rfl,put_is (len_wf h1) (by omega) (by simp)]
    simp only [Option.bind_some]
    have hl:=(putN_len (len_wf h1)).1
    have h:=bytn_l0 cs (good_cells g1) hf h1 cs k 0 ([1]++putN (cs.length:Int)) rfl (by omega) (by simp only [List.length_append,List.length_cons,List.length_nil];omega)
    rw [show ((0:Nat):Int)=0 from rfl] at h
    exact h
/-- Bytes, and noughts up to 256. -/
def padN (b:List Int):List Int:=b++List.replicate (256 - b.length) 0
/-- What a node goes to. -/
def encN (leaf:Bool) (cs:List S62) (keys:List ByteArray) (kids:List Int):List Int × Int :=
  if mayN leaf cs keys kids=true then (if (bytesN leaf cs keys kids).length>256 then ([],4) else (padN (bytesN leaf cs keys kids),0)) else ([],1)
theorem encode_is {leaf:Bool} {cs:List S62} {keys:List ByteArray} {kids:List Int} (hf:∀ x∈cs,FC x) (h1:cs.length≤1000) (h2:keys.length≤1000) (h3:kids.length≤1000) {k:Nat} (hk:4000≤k) :
    node_Encode.f k leaf cs keys kids=some (encN leaf cs keys kids):=by
  unfold node_Encode.f encN
  rw [maynode_is leaf cs keys kids h1 h2 h3 hk]
  simp only [Option.bind_some]
  by_cases hm:mayN leaf cs keys kids=true
  · rw [if_pos hm,if_pos hm,bytesnode_is hm hf h1 hk]
    simp only [Option.bind_some]
    by_cases hl:(bytesN leaf cs keys kids).length>256
    · rw [if_pos (by omega),if_pos hl]
    · rw [if_neg (by omega),if_neg hl,w64 (x:=256 - ((bytesN leaf cs keys kids).length:Int)) (by omega),if_pos (by omega),if_pos (by omega)]
      unfold padN
      rw [show (256 - ((bytesN leaf cs keys kids).length:Int)).toNat=256 - (bytesN leaf cs keys kids).length by omega]
  · rw [if_neg hm,if_neg hm]
def toC (x:S56):S62:=⟨x.f0,x.f1,x.f2,x.f3⟩
end Go.Proofs.Ytmmjpieafbjggaa.Pure
end
section
set_option linter.unusedVariables false
set_option linter.unusedSimpArgs false
namespace Go.Proofs.Ytmmjpieafbjggaa.Pure
open Go.RowKit Go.Proofs.Ytmmjpieafbjggaa.P Go.Proofs.YtmmjpieafbjggaaW.PrintWords Go.Proofs.YtmmjpieafbjggaaW.PrintLast Go.Proofs.YtmmjpieafbjggaaW.PrintMore
theorem val10 (kd:Int) (f:Nat) (s:ByteArray):∃ t:ByteArray,engrosslaw10_Val.f kd f s=some (kd,f,t)∧t.size≤25:=by
  unfold engrosslaw10_Val.f
  obtain⟨t,e,h,_⟩:=cut_is s (n:=25)
  rw [show (25:Int)=((25:Nat):Int) from rfl,e]
  exact⟨t,rfl,h⟩
theorem cut10 (s:ByteArray) (kd:Int) (f:Nat) (t:ByteArray) (x:Int) (kd':Int) (f':Nat) (t':ByteArray) :
    ∃ s2 t2 t2':ByteArray,engrosslaw10_Cut.f s kd f t x kd' f' t'=some (s2,kd,f,t2,x,kd',f',t2')∧s2.size≤20∧t2.size≤25∧t2'.size≤25:=by
  unfold engrosslaw10_Cut.f
  obtain⟨s2,e,h,_⟩:=cut_is s (n:=20)
  obtain⟨t2,e2,h2⟩:=val10 kd f t
  obtain⟨t3,e3,h3⟩:=val10 kd' f' t'
  rw [show (20:Int)=((20:Nat):Int) from rfl,e,e2,e3]
  exact⟨s2,t2,t3,rfl,h,h2,h3⟩
theorem back10 (s:ByteArray) (kd:Int) (f:Nat) (t:ByteArray) (x:Int) (kd':Int) (f':Nat) (t':ByteArray):engrosslaw10_Back.f s kd f t x kd' f' t'=some (s,kd,f,t,x,kd',f',t'):=rfl
end Go.Proofs.Ytmmjpieafbjggaa.Pure
end
section
set_option linter.unusedVariables false
set_option linter.unusedSimpArgs false
namespace Go.Proofs.Ytmmjpieafbjggaa.Pure
open Go.RowKit Go.Proofs.Ytmmjpieafbjggaa.P Go.Proofs.YtmmjpieafbjggaaW.PrintWords Go.Proofs.YtmmjpieafbjggaaW.PrintLast Go.Proofs.YtmmjpieafbjggaaW.PrintMore
theorem nat_succ (i:Nat):(i:Int)+1=((i+1:Nat):Int):=rfl
/-- The floats of cells are 64 bits. -/
def FL (l:List S56):Prop:=∀ x∈l,FC (toC x)
theorem rmayn_l0 (leaf:Bool) (l:List S56) (hf:FL l) (keys:List ByteArray) (kids:List Int) (hl:l.length≤1000) (cs:List S56):∀ (k i:Nat),l.drop i=cs→cs.length<k →
    engrossref10_MayNode.l0 k (i:Int) leaf l keys kids=some (goodC ((prevO l i).map S56.f0) (cs.map toC) && (decide (keys.length=0) && decide (kids.length=0))):=by
  induction cs with
  | nil =>
    intro k i hd hk
    obtain⟨k,rfl⟩:∃ m,k=m+1:=⟨k - 1,by omega⟩
    have hi:=drop_nil hd
    simp only [engrossref10_MayNode.l0]
    rw [if_neg (by omega)]
    simp only [goodC,List.map_nil,Bool.true_and]
    by_cases h0:keys.length=0
    · rw [if_pos (by omega),decide_eq_true h0,Bool.true_and]
      congr 1
      rw [Bool.eq_iff_iff]
      simp only [beq_iff_eq,decide_eq_true_eq]
      omega
    · rw [if_neg (by omega),decide_eq_false h0,Bool.false_and]
  | cons c cs ih =>
    intro k i hd hk
    obtain⟨k,rfl⟩:∃ m,k=m+1:=⟨k - 1,by omega⟩
    obtain⟨hlt,hc,hd2⟩:=drop_step hd
    simp only [List.length_cons] at hk
    have hm:c∈l:=by rw [← hc];exact List.getElem_mem hlt
    have hfc:=hf c hm
    have hm0:engrossref10_May.f c.f0 c.f1.f0 c.f1.f1 c.f1.f2 c.f2 c.f3.f0 c.f3.f1 c.f3.f2=some (mayCell (toC c)):=rmaycell_is _ _ hfc.1 _ _ _ hfc.2 _
    simp only [engrossref10_MayNode.l0]
    rw [if_pos (by omega),if_pos (by omega),rd56 hlt,hc,hm0,w64 (x:=(i:Int)+1) (by omega),nat_succ]
    simp only [Option.bind_some,goodC,List.map_cons]
    have hih:=ih k (i+1) hd2 (by omega)
    rw [prevO_succ hd] at hih
    cases hm:mayCell (toC c)
    · rw [if_neg (by decide)]
      simp
    · rw [if_pos rfl]
      by_cases h0:0<i
      · obtain⟨hlt',hp⟩:=prevO_pos (l:=l) h0 (by omega)
        rw [if_pos (by omega),w64 (x:=(i:Int) - 1) (by omega),show (i:Int) - 1=((i - 1:Nat):Int) by omega,if_pos (by omega),if_pos (by omega),rd56 hlt',hp]
        simp only [Option.map_some,ltO]
        by_cases hb:Op.bytesLess (l[i - 1].f0).toList (c.f0).toList=true
        · rw [if_pos hb,hih,show (toC c).f0=c.f0 from rfl,hb]
          simp
        · rw [if_neg hb,show (toC c).f0=c.f0 from rfl,Bool.eq_false_iff.2 hb]
          simp
      · have hi0:i=0:=by omega
        subst hi0
        rw [if_neg (by omega),hih,prevO_zero]
        simp [ltO,toC]
theorem rmayn_l2 (leaf:Bool) (l:List ByteArray) (kids:List Int) (cs:List S56) (hl:l.length≤1000) (ks:List ByteArray):∀ (k i:Nat),l.drop i=ks→ks.length<k →
    engrossref10_MayNode.l2 k (i:Int) leaf cs l kids=some (goodK (prevO l i) ks):=by
  induction ks with
  | nil =>
    intro k i hd hk
    obtain⟨k,rfl⟩:∃ m,k=m+1:=⟨k - 1,by omega⟩
    have hi:=drop_nil hd
    simp only [engrossref10_MayNode.l2]
    rw [if_neg (by omega)]
    simp [goodK]
  | cons c ks ih =>
    intro k i hd hk
    obtain⟨k,rfl⟩:∃ m,k=m+1:=⟨k - 1,by omega⟩
    obtain⟨hlt,hc,hd2⟩:=drop_step hd
    simp only [List.length_cons] at hk
    simp only [engrossref10_MayNode.l2]
    have hih:=ih k (i+1) hd2 (by omega)
    rw [prevO_succ hd] at hih
    rw [if_pos (by omega),if_pos (by omega),rdS hlt,hc,rmaykey_is,w64 (x:=(i:Int)+1) (by omega),nat_succ]
    simp only [Option.bind_some,goodK]
    cases hm:mayK c
    · rw [if_neg (by decide)]
      simp
    · rw [if_pos rfl]
      by_cases h0:0<i
      · obtain⟨hlt',hp⟩:=prevO_pos (l:=l) h0 (by omega)
        rw [if_pos (by omega),w64 (x:=(i:Int) - 1) (by omega),show (i:Int) - 1=((i - 1:Nat):Int) by omega,if_pos (by omega),if_pos (by omega),rdS hlt',hp]
        simp only [ltO]
        by_cases hb:Op.bytesLess (l[i - 1]).toList c.toList=true
        · rw [if_pos hb,hih,hb]
          simp
        · rw [if_neg hb,Bool.eq_false_iff.2 hb]
          simp
      · have hi0:i=0:=by omega
        subst hi0
        rw [if_neg (by omega),hih,prevO_zero]
        simp [ltO]
theorem rmayn_l1 (leaf:Bool) (l:List Int) (keys:List ByteArray) (cs:List S56) (hl:l.length≤1000) (hl2:keys.length≤1000) (ks:List Int):∀ (k i:Nat),l.drop i=ks→ks.length+keys.length+2<k →
    engrossref10_MayNode.l1 k (i:Int) leaf cs keys l=some (goodI ks && goodK none keys):=by
  induction ks with
  | nil =>
    intro k i hd hk
    obtain⟨k,rfl⟩:∃ m,k=m+1:=⟨k - 1,by omega⟩
    have hi:=drop_nil hd
    simp only [engrossref10_MayNode.l1]
    rw [if_neg (by omega)]
    have h:=rmayn_l2 leaf keys l cs hl2 keys k 0 rfl (by omega)
    rw [show ((0:Nat):Int)=0 from rfl,prevO_zero] at h
    rw [h]
    simp [goodI]
  | cons c ks ih =>
    intro k i hd hk
    obtain⟨k,rfl⟩:∃ m,k=m+1:=⟨k - 1,by omega⟩
    obtain⟨hlt,hc,hd2⟩:=drop_step hd
    simp only [List.length_cons] at hk
    simp only [engrossref10_MayNode.l1]
    have hih:=ih k (i+1) hd2 (by omega)
    rw [if_pos (by omega),if_pos (by omega),rdI hlt,hc,w64 (x:=(i:Int)+1) (by omega),nat_succ,hih]
    simp only [goodI,List.all_cons]
    by_cases h2:c<2
    · rw [if_pos h2,decide_eq_false (show ¬ 2≤c by omega)]
      simp
    · rw [if_neg h2,decide_eq_true (show 2≤c by omega)]
      by_cases h3:c>31
      · rw [if_pos h3,decide_eq_false (show ¬ c<32 by omega)]
        simp
      · rw [if_neg h3,decide_eq_true (show c<32 by omega)]
        simp
theorem rmaynode_is (leaf:Bool) (l:List S56) (hf:FL l) (keys:List ByteArray) (kids:List Int) (h1:l.length≤1000) (h2:keys.length≤1000) (h3:kids.length≤1000) {k:Nat} (hk:4000≤k) :
    engrossref10_MayNode.f k leaf l keys kids=some (mayN leaf (l.map toC) keys kids):=by
  unfold engrossref10_MayNode.f mayN
  cases leaf
  · obtain⟨k,rfl⟩:∃ m,k=m+1:=⟨k - 1,by omega⟩
    have hff:¬ (false=true):=by decide
    rw [if_neg hff,if_neg hff,List.length_map]
    simp only [engrossref10_MayNode.j1]
    have h:=rmayn_l1 false kids keys l h3 h2 kids k 0 rfl (by omega)
    rw [show ((0:Nat):Int)=0 from rfl] at h
    rw [h]
    by_cases c0:l.length=0
    · rw [if_pos (by omega),decide_eq_true c0,Bool.true_and]
      by_cases c1:kids.length<1
      · rw [if_pos (by omega),if_pos trivial,decide_eq_false (show ¬ 1≤kids.length by omega)]
        simp
      · rw [if_neg (by omega),decide_eq_true (show 1≤kids.length by omega)]
        by_cases c2:kids.length>32
        · rw [if_pos (by omega),if_pos trivial,decide_eq_false (show ¬ kids.length≤32 by omega)]
          simp
        · rw [if_neg (by omega),decide_eq_true (show kids.length≤32 by omega),w64 (x:=(kids.length:Int) - 1) (by omega)]
          by_cases c3:keys.length+1=kids.length
          · rw [if_neg (by simp only [bne_iff_ne,ne_eq,Decidable.not_not];omega),decide_eq_true c3,Bool.and_comm]
            simp
          · rw [if_pos (by simp only [bne_iff_ne,ne_eq];omega),decide_eq_false c3]
            simp
    · rw [if_neg (by omega),if_pos trivial,decide_eq_false c0,Bool.false_and]
  · rw [if_pos rfl,if_pos rfl]
    have h:=rmayn_l0 true l hf keys kids h1 l k 0 rfl (by omega)
    rw [show ((0:Nat):Int)=0 from rfl,prevO_zero] at h
    exact h
theorem rbytn_l0 (leaf:Bool) (l:List S56) (keys:List ByteArray) (kids:List Int) (hg:∀ x∈l,mayCell (toC x)=true) (hf:FL l) (hl:l.length≤1000) (cs:List S56):∀ (k i:Nat) (b:List Int),l.drop i=cs→cs.length+20<k→b.length≤1000000000+300000 * i →
    engrossref10_NodeBytes.l0 k b (i:Int) leaf l keys kids=some (b++(cs.map toC).flatMap putCell):=by
  induction cs with
  | nil =>
    intro k i b hd hk hb
    obtain⟨k,rfl⟩:∃ m,k=m+1:=⟨k - 1,by omega⟩
    have hi:=drop_nil hd
    simp only [engrossref10_NodeBytes.l0]
    rw [if_neg (by omega)]
    simp
  | cons c cs ih =>
    intro k i b hd hk hb
    obtain⟨k,rfl⟩:∃ m,k=m+1:=⟨k - 1,by omega⟩
    obtain⟨hlt,hc,hd2⟩:=drop_step hd
    simp only [List.length_cons] at hk
    have hm:c∈l:=by rw [← hc];exact List.getElem_mem hlt
    obtain⟨p1,p2,p3,p4,p5,p6⟩:=cell_parts (hg c hm)
    obtain⟨f1,f2⟩:=hf c hm
    have hlen:=(putCell_len (hg c hm)).1
    have hb1:engrossref10_Bytes.f k c.f0 c.f1.f0 c.f1.f1 c.f1.f2 c.f2 c.f3.f0 c.f3.f1 c.f3.f2=some (putCell (toC c)):=rbytes_cell (Nat.le_trans p1 (by decide)) p2 f1 (Nat.le_trans p3 (by decide)) p4 p5 f2 (Nat.le_trans p6 (by decide)) (by omega)
    simp only [engrossref10_NodeBytes.l0]
    rw [if_pos (by omega),if_pos (by omega),rd56 hlt,hc,hb1,w64 (x:=(i:Int)+1) (by omega),nat_succ]
    simp only [Option.bind_some]
    rw [if_pos (by omega)]
    have:=ih k (i+1) (b++putCell (toC c)) hd2 (by omega) (by rw [List.length_append];omega)
    rw [this,List.map_cons,List.flatMap_cons,List.append_assoc]
theorem rbytn_l2 (leaf:Bool) (l:List ByteArray) (cs:List S56) (kids:List Int) (hg:∀ x∈l,x.size≤16) (hl:l.length≤1000) (ks:List ByteArray):∀ (k i:Nat) (b:List Int),l.drop i=ks→ks.length+20<k→b.length≤1000000000+300000 * i →
    engrossref10_NodeBytes.l2 k b (i:Int) leaf cs l kids=some (b++ks.flatMap putS):=by
  induction ks with
  | nil =>
    intro k i b hd hk hb
    obtain⟨k,rfl⟩:∃ m,k=m+1:=⟨k - 1,by omega⟩
    have hi:=drop_nil hd
    simp only [engrossref10_NodeBytes.l2]
    rw [if_neg (by omega)]
    simp
  | cons c ks ih =>
    intro k i b hd hk hb
    obtain⟨k,rfl⟩:∃ m,k=m+1:=⟨k - 1,by omega⟩
    obtain⟨hlt,hc,hd2⟩:=drop_step hd
    simp only [List.length_cons] at hk
    have hm:c∈l:=by rw [← hc];exact List.getElem_mem hlt
    have hs:=hg c hm
    have hlen:=(putS_len (s:=c) (by omega)).1
    simp only [engrossref10_NodeBytes.l2]
    rw [if_pos (by omega),if_pos (by omega),rdS hlt,hc,rputtext_is (by omega) (by omega),w64 (x:=(i:Int)+1) (by omega),nat_succ]
    simp only [Option.bind_some]
    rw [if_pos (by omega)]
    have:=ih k (i+1) (b++putS c) hd2 (by omega) (by rw [List.length_append];omega)
    rw [this,List.flatMap_cons,List.append_assoc]
theorem rbytn_l1 (leaf:Bool) (l:List Int) (keys:List ByteArray) (cs:List S56) (hg:∀ x∈l,2≤x∧x<32) (hk2:∀ x∈keys,x.size≤16) (hl:l.length≤1000) (hl2:keys.length≤1000) (ks:List Int):∀ (k i:Nat) (b:List Int),l.drop i=ks→ks.length+keys.length+40<k→b.length≤1000000+300000 * i→i≤l.length →
    engrossref10_NodeBytes.l1 k b (i:Int) leaf cs keys l=some (b++ks.flatMap putN++keys.flatMap putS):=by
  induction ks with
  | nil =>
    intro k i b hd hk hb hil
    obtain⟨k,rfl⟩:∃ m,k=m+1:=⟨k - 1,by omega⟩
    have hi:=drop_nil hd
    simp only [engrossref10_NodeBytes.l1]
    rw [if_neg (by omega)]
    have h:=rbytn_l2 leaf keys cs l hk2 hl2 keys k 0 b rfl (by omega) (by omega)
    rw [show ((0:Nat):Int)=0 from rfl] at h
    rw [h]
    simp
  | cons c ks ih =>
    intro k i b hd hk hb hil
    obtain⟨k,rfl⟩:∃ m,k=m+1:=⟨k - 1,by omega⟩
    obtain⟨hlt,hc,hd2⟩:=drop_step hd
    simp only [List.length_cons] at hk
    have hm:c∈l:=by rw [← hc];exact List.getElem_mem hlt
    have hw:=kid_wf (hg c hm)
    have hlen:=(putN_len hw).1
    simp only [engrossref10_NodeBytes.l1]
    rw [if_pos (by omega),if_pos (by omega),rdI hlt,hc,rput_is hw (by omega),w64 (x:=(i:Int)+1) (by omega),nat_succ]
    simp only [Option.bind_some]
    rw [if_pos (by omega)]
    have:=ih k (i+1) (b++putN c) hd2 (by omega) (by rw [List.length_append];omega) (by omega)
    rw [this,List.flatMap_cons,List.append_assoc b (putN c)]
theorem rbytesnode_is (leaf:Bool) (l:List S56) (hf:FL l) (keys:List ByteArray) (kids:List Int) (h1:l.length≤1000) (h2:keys.length≤1000) (h3:kids.length≤1000) {k:Nat} (hk:4000≤k) :
    engrossref10_NodeBytes.f k leaf l keys kids=some (if mayN leaf (l.map toC) keys kids=true then bytesN leaf (l.map toC) keys kids else []):=by
  unfold engrossref10_NodeBytes.f
  rw [rmaynode_is leaf l hf keys kids h1 h2 h3 hk]
  simp only [Option.bind_some]
  by_cases hm:mayN leaf (l.map toC) keys kids=true
  · rw [if_pos hm,if_pos hm]
    unfold bytesN
    cases leaf
    · obtain⟨_,g1,g2,n1,n2,n3⟩:=mayN_inner hm
      rw [if_neg (by decide),if_neg (by decide),rput_is (len_wf h3) (by omega)]
      have hl:=(putN_len (len_wf h3)).1
      simp only [Option.bind_some]
      rw [if_pos (by simp only [List.length_cons,List.length_nil];omega)]
      have h:=rbytn_l1 false kids keys l (good_kids g2) (fun x hx=>(good_keys g1 x hx).2) h3 h2 kids k 0 ([2]++putN (kids.length:Int)) rfl (by omega) (by simp only [List.length_append,List.length_cons,List.length_nil];omega) (by omega)
      rw [show ((0:Nat):Int)=0 from rfl] at h
      exact h
    · obtain⟨g1,_,_⟩:=mayN_leaf hm
      rw [if_pos rfl,if_pos rfl,rput_is (len_wf h1) (by omega),List.length_map]
      have hl:=(putN_len (len_wf h1)).1
      simp only [Option.bind_some]
      rw [if_pos (by simp only [List.length_cons,List.length_nil];omega)]
      have h:=rbytn_l0 true l keys kids (fun x hx=>good_cells g1 _ (List.mem_map_of_mem hx)) hf h1 l k 0 ([1]++putN (l.length:Int)) rfl (by omega) (by simp only [List.length_append,List.length_cons,List.length_nil];omega)
      rw [show ((0:Nat):Int)=0 from rfl] at h
      exact h
  · rw [if_neg hm,if_neg hm]
theorem whole_is (b:List Int):engrossref10_Whole.f b=some (if b.length>256 then [] else padN b):=by
  unfold engrossref10_Whole.f padN
  by_cases h:b.length>256
  · rw [if_pos (by omega),if_pos h]
  · rw [if_neg (by omega),if_neg h,if_pos (by simp only [List.length_nil];omega)]
    simp only [Option.bind_some,List.nil_append]
    rw [w64 (x:=256 - (b.length:Int)) (by omega),if_pos (by omega),if_pos (by omega),show (256 - (b.length:Int)).toNat=256 - b.length by omega]
theorem cutn_l2 (leaf:Bool) (l:List S56) (keys:List ByteArray) (kids:List Int) (r:Bool) (xs:List S56) (ys:List ByteArray) (d:Nat):∀ (k i:Nat) (zs:List Int),41 - i≤d→d<k→zs.length≤i→i≤40 →
    ∃ zs':List Int,engrosslaw11_Cut.l2 k (i:Int) leaf l keys kids r xs ys zs=some (r,xs,ys,zs')∧zs'.length≤40:=by
  induction d with
  | zero=>intro k i zs h;omega
  | succ d ih =>
    intro k i zs hd hk hz hi
    obtain⟨k,rfl⟩:∃ m,k=m+1:=⟨k - 1,by omega⟩
    simp only [engrosslaw11_Cut.l2]
    by_cases h1:(i:Int)<(kids.length:Int)
    · rw [if_pos h1]
      by_cases h2:(i:Int)<40
      · rw [if_pos h2,if_pos (by omega),if_pos (by omega),w64 (x:=(i:Int)+1) (by omega),nat_succ]
        exact ih k (i+1) _ (by omega) (by omega) (by rw [List.length_append];simp;omega) (by omega)
      · rw [if_neg h2]
        exact⟨zs,rfl,by omega⟩
    · rw [if_neg h1]
      exact⟨zs,rfl,by omega⟩
theorem cutn_l1 (leaf:Bool) (l:List S56) (keys:List ByteArray) (kids:List Int) (r:Bool) (xs:List S56) (d:Nat):∀ (k i:Nat) (ys:List ByteArray),41 - i≤d→d+50<k→ys.length≤i→i≤40 →
    ∃ (ys':List ByteArray) (zs':List Int),engrosslaw11_Cut.l1 k (i:Int) leaf l keys kids r xs ys=some (r,xs,ys',zs')∧ys'.length≤40∧zs'.length≤40:=by
  induction d with
  | zero=>intro k i zs h;omega
  | succ d ih =>
    intro k i ys hd hk hy hi
    obtain⟨k,rfl⟩:∃ m,k=m+1:=⟨k - 1,by omega⟩
    have fin:∃ (ys':List ByteArray) (zs':List Int),engrosslaw11_Cut.j3 k leaf l keys kids r xs ys=some (r,xs,ys',zs')∧ys'.length≤40∧zs'.length≤40:=by
      obtain⟨k,rfl⟩:∃ m,k=m+1:=⟨k - 1,by omega⟩
      simp only [engrosslaw11_Cut.j3]
      obtain⟨zs',e,h⟩:=cutn_l2 leaf l keys kids r xs ys 41 k 0 [] (by omega) (by omega) (by simp) (by omega)
      rw [show ((0:Nat):Int)=0 from rfl] at e
      exact⟨ys,zs',e,by omega,h⟩
    simp only [engrosslaw11_Cut.l1]
    by_cases h1:(i:Int)<(keys.length:Int)
    · rw [if_pos h1]
      by_cases h2:(i:Int)<40
      · obtain⟨t,e,h,_⟩:=cut_is (rdOf ByteArray.empty keys (i:Int)) (n:=20)
        rw [show ((20:Nat):Int)=20 from rfl] at e
        rw [if_pos h2,if_pos (by omega),e,w64 (x:=(i:Int)+1) (by omega),nat_succ]
        simp only [Option.bind_some]
        rw [if_pos (by omega)]
        exact ih k (i+1) _ (by omega) (by omega) (by rw [List.length_append];simp;omega) (by omega)
      · rw [if_neg h2]
        exact fin
    · rw [if_neg h1]
      exact fin
theorem rd56_in {l:List S56} (hf:FL l) {i:Int} (h0:0≤i) (h:i<(l.length:Int)):FC (toC (rd_T56 l i)):=by
  obtain⟨n,rfl⟩:∃ n:Nat,i=(n:Int):=⟨i.toNat,by omega⟩
  rw [rd56 (show n<l.length by omega)]
  exact hf _ (List.getElem_mem _)
theorem cutn_l0 (leaf:Bool) (l:List S56) (hf:FL l) (keys:List ByteArray) (kids:List Int) (r:Bool) (d:Nat):∀ (k i:Nat) (xs:List S56),41 - i≤d→d+100<k→xs.length≤i→i≤40→FL xs →
    ∃ (xs':List S56) (ys':List ByteArray) (zs':List Int),engrosslaw11_Cut.l0 k (i:Int) leaf l keys kids r xs=some (r,xs',ys',zs')∧FL xs'∧xs'.length≤40∧ys'.length≤40∧zs'.length≤40:=by
  induction d with
  | zero=>intro k i zs h;omega
  | succ d ih =>
    intro k i xs hd hk hx hi hfx
    obtain⟨k,rfl⟩:∃ m,k=m+1:=⟨k - 1,by omega⟩
    have fin:∃ (xs':List S56) (ys':List ByteArray) (zs':List Int),engrosslaw11_Cut.j1 k leaf l keys kids r xs=some (r,xs',ys',zs')∧FL xs'∧xs'.length≤40∧ys'.length≤40∧zs'.length≤40:=by
      obtain⟨k,rfl⟩:∃ m,k=m+1:=⟨k - 1,by omega⟩
      simp only [engrosslaw11_Cut.j1]
      obtain⟨ys',zs',e,h,h2⟩:=cutn_l1 leaf l keys kids r xs 41 k 0 [] (by omega) (by omega) (by simp) (by omega)
      rw [show ((0:Nat):Int)=0 from rfl] at e
      exact⟨xs,ys',zs',e,hfx,by omega,h,h2⟩
    simp only [engrosslaw11_Cut.l0]
    by_cases h1:(i:Int)<(l.length:Int)
    · rw [if_pos h1]
      by_cases h2:(i:Int)<40
      · have hfi:=rd56_in hf (by omega:0≤(i:Int)) h1
        generalize hc:rd_T56 l (i:Int)=c at hfi
        obtain⟨s2,t2,t3,e,_⟩:=cut10 c.f0 c.f1.f0 c.f1.f1 c.f1.f2 c.f2 c.f3.f0 c.f3.f1 c.f3.f2
        rw [if_pos h2,if_pos (by omega),e,w64 (x:=(i:Int)+1) (by omega),nat_succ]
        simp only [Option.bind_some]
        rw [if_pos (by omega)]
        refine ih k (i+1) _ (by omega) (by omega) (by rw [List.length_append];simp;omega) (by omega) ?_
        intro x hx
        rcases List.mem_append.1 hx with hx|hx
        · exact hfx x hx
        · rw [List.mem_singleton.1 hx]
          exact hfi
      · rw [if_neg h2]
        exact fin
    · rw [if_neg h1]
      exact fin
theorem cutnode (leaf:Bool) (l:List S56) (hf:FL l) (keys:List ByteArray) (kids:List Int) {k:Nat} (hk:200≤k) :
    ∃ (xs':List S56) (ys':List ByteArray) (zs':List Int),engrosslaw11_Cut.f k leaf l keys kids=some (leaf,xs',ys',zs')∧FL xs'∧xs'.length≤40∧ys'.length≤40∧zs'.length≤40:=by
  have:=cutn_l0 leaf l hf keys kids leaf 41 k 0 [] (by omega) (by omega) (by simp) (by omega) (fun x hx=>by cases hx)
  rw [show ((0:Nat):Int)=0 from rfl] at this
  exact this
def toB (x:S62):S56:=⟨x.f0,x.f1,x.f2,x.f3⟩
theorem toC_toB (l:List S62):(l.map toB).map toC=l:=by
  rw [List.map_map]
  exact List.map_id'' (fun x=>rfl) l
theorem backn_l0 (leaf:Bool) (l:List S62) (keys:List ByteArray) (kids:List Int) (hl:l.length≤1000) (cs:List S62):∀ (k i:Nat) (acc:List S56),l.drop i=cs→cs.length<k→acc.length≤i →
    engrosslaw11_Back.l0 k (i:Int) leaf l keys kids leaf acc keys kids=some (leaf,acc++cs.map toB,keys,kids):=by
  induction cs with
  | nil =>
    intro k i acc hd hk ha
    obtain⟨k,rfl⟩:∃ m,k=m+1:=⟨k - 1,by omega⟩
    have hi:=drop_nil hd
    simp only [engrosslaw11_Back.l0]
    rw [if_neg (by omega)]
    simp
  | cons c cs ih =>
    intro k i acc hd hk ha
    obtain⟨k,rfl⟩:∃ m,k=m+1:=⟨k - 1,by omega⟩
    obtain⟨hlt,hc,hd2⟩:=drop_step hd
    simp only [List.length_cons] at hk
    simp only [engrosslaw11_Back.l0]
    rw [if_pos (by omega),if_pos (by omega),rd62 hlt,hc,back10]
    simp only [Option.bind_some]
    rw [if_pos (by omega),w64 (x:=(i:Int)+1) (by omega),nat_succ]
    have:=ih k (i+1) (acc++[toB c]) hd2 (by omega) (by rw [List.length_append];simp;omega)
    rw [show (⟨c.f0,(⟨c.f1.f0,c.f1.f1,c.f1.f2⟩:S54),c.f2,(⟨c.f3.f0,c.f3.f1,c.f3.f2⟩:S54)⟩:S56)=toB c from rfl,this]
    simp
theorem backnode (leaf:Bool) (l:List S62) (keys:List ByteArray) (kids:List Int) (hl:l.length≤1000) {k:Nat} (hk:1010≤k):engrosslaw11_Back.f k leaf l keys kids=some (leaf,l.map toB,keys,kids):=by
  unfold engrosslaw11_Back.f
  have:=backn_l0 leaf l keys kids hl l k 0 [] rfl (by omega) (by simp)
  rw [show ((0:Nat):Int)=0 from rfl] at this
  rw [this]
  simp
end Go.Proofs.Ytmmjpieafbjggaa.Pure
end
section
set_option linter.unusedVariables false
set_option linter.unusedSimpArgs false
namespace Go.Proofs.Ytmmjpieafbjggaa.Pure
open Go.RowKit Go.Proofs.Ytmmjpieafbjggaa.P Go.Proofs.YtmmjpieafbjggaaW.PrintWords Go.Proofs.YtmmjpieafbjggaaW.PrintLast Go.Proofs.YtmmjpieafbjggaaW.PrintMore
/-- Bytes. -/
def IB (l:List Int):Prop:=∀ c∈l,0≤c∧c≤255
theorem dec_no (l:List Int) (kk:Int) (acc:List S62) {k:Nat} (hk:1≤k):node_Decode.l0 k l false kk false acc=some (l,false,acc):=by
  obtain⟨k,rfl⟩:∃ m,k=m+1:=⟨k - 1,by omega⟩
  simp only [node_Decode.l0]
  by_cases h:kk>0
  · rw [if_pos h,if_neg (by decide),if_neg (by decide)]
  · rw [if_neg h]
theorem IB_app {a b:List Int} (h1:IB a) (h2:IB b):IB (a++b):=app_in h1 h2
theorem IB_flat {α:Type} {f:α→List Int} {l:List α} (h:∀ x∈l,IB (f x)):IB (l.flatMap f):=by
  intro c hc
  obtain⟨x,hx,hcx⟩:=List.mem_flatMap.1 hc
  exact h x hx c hcx
theorem IB_zeros (n:Nat):IB (List.replicate n 0):=by
  intro c hc
  rw [List.eq_of_mem_replicate hc]
  omega
theorem IB_bytesN {leaf:Bool} {cs:List S62} {keys:List ByteArray} {kids:List Int} (hm:mayN leaf cs keys kids=true) (h1:cs.length≤1000):IB (bytesN leaf cs keys kids):=by
  unfold bytesN
  cases leaf
  · obtain⟨_,g1,g2,n1,n2,n3⟩:=mayN_inner hm
    rw [if_neg (by decide)]
    refine IB_app (IB_app (IB_app ?_ (putN_bytes (len_wf (by omega)))) (IB_flat fun x hx=>putN_bytes (kid_wf (good_kids g2 x hx)))) (IB_flat fun x hx=>putS_bytes (by have:=(good_keys g1 x hx).2;omega))
    intro c hc;rw [List.mem_singleton.1 hc];omega
  · obtain⟨g1,_,_⟩:=mayN_leaf hm
    rw [if_pos rfl]
    refine IB_app (IB_app ?_ (putN_bytes (len_wf h1))) (IB_flat fun x hx=>(putCell_len (good_cells g1 x hx)).2)
    intro c hc;rw [List.mem_singleton.1 hc];omega
theorem padN_len {b:List Int} (h:b.length≤256):(padN b).length=256:=by
  unfold padN
  rw [List.length_append,List.length_replicate]
  omega
end Go.Proofs.Ytmmjpieafbjggaa.Pure
end
section
set_option linter.unusedVariables false
set_option linter.unusedSimpArgs false
namespace Go.Proofs.Ytmmjpieafbjggaa.Pure
open Go.RowKit Go.Proofs.Ytmmjpieafbjggaa.P Go.Proofs.YtmmjpieafbjggaaW.PrintWords Go.Proofs.YtmmjpieafbjggaaW.PrintLast Go.Proofs.YtmmjpieafbjggaaW.PrintMore
theorem wf_FL {x:S26} (h:wf26 x):FL x.f1:=fun y hy=>⟨(h.2.1.2 y hy).2.1.2.1,(h.2.1.2 y hy).2.2.2.2.1⟩
theorem encN_ok {leaf:Bool} {cs:List S62} {keys:List ByteArray} {kids:List Int} (h:(encN leaf cs keys kids).2=0):mayN leaf cs keys kids=true∧(bytesN leaf cs keys kids).length≤256∧(encN leaf cs keys kids).1=padN (bytesN leaf cs keys kids):=by
  unfold encN at h ⊢
  by_cases hm:mayN leaf cs keys kids=true
  · rw [if_pos hm] at h ⊢
    by_cases hl:(bytesN leaf cs keys kids).length>256
    · rw [if_pos hl] at h
      cases h
    · rw [if_neg hl]
      exact⟨hm,by omega,rfl⟩
  · rw [if_neg hm] at h
    cases h
end Go.Proofs.Ytmmjpieafbjggaa.Pure
end
section
set_option linter.unusedVariables false
set_option linter.unusedSimpArgs false
namespace Go.Proofs.Ytmmjpieafbjggaa.Pure
open Go.RowKit Go.Proofs.Ytmmjpieafbjggaa.P Go.Proofs.YtmmjpieafbjggaaW.PrintWords Go.Proofs.YtmmjpieafbjggaaW.PrintLast Go.Proofs.YtmmjpieafbjggaaW.PrintMore
theorem getS_one {l:List Int} (h:(getS l).2.2=0):1≤(getS l).2.1∧(getS l).2.1≤l.length:=by
  unfold getS at h ⊢
  by_cases h1:(getN l).2.2≠0
  · rw [if_pos h1] at h;exact absurd h h1
  · rw [if_neg h1] at h ⊢
    have:=getN_in (show (getN l).2.2=0 by omega)
    by_cases h2:(getN l).1<0∨(getN l).1>65536
    · rw [if_pos h2] at h;cases h
    · rw [if_neg h2] at h ⊢
      by_cases h3:(getN l).1>(l.length:Int) - (getN l).2.1
      · rw [if_pos h3] at h;cases h
      · rw [if_neg h3]
        dsimp only
        omega
theorem getC_in {l:List Int} (h:(getC l).2.2.2.2.2.2.2.2.2=0):1≤(getC l).2.2.2.2.2.2.2.2.1∧(getC l).2.2.2.2.2.2.2.2.1≤l.length:=by
  unfold getC at h ⊢
  dsimp only at h ⊢
  have i1:(getS l).2.2=0→1≤(getS l).2.1∧(getS l).2.1≤l.length:=getS_one
  generalize getS l=g at i1 h ⊢
  have i2:(getV (l.drop g.2.1.toNat)).2.2.2.2=0→1≤(getV (l.drop g.2.1.toNat)).2.2.2.1∧(getV (l.drop g.2.1.toNat)).2.2.2.1≤(l.drop g.2.1.toNat).length:=getV_in
  generalize getV (l.drop g.2.1.toNat)=v at i2 h ⊢
  have i3:(getN (l.drop (g.2.1+v.2.2.2.1).toNat)).2.2=0→1≤(getN (l.drop (g.2.1+v.2.2.2.1).toNat)).2.1∧(getN (l.drop (g.2.1+v.2.2.2.1).toNat)).2.1≤(l.drop (g.2.1+v.2.2.2.1).toNat).length:=getN_in
  generalize getN (l.drop (g.2.1+v.2.2.2.1).toNat)=t at i3 h ⊢
  have i4:(getV (l.drop (g.2.1+v.2.2.2.1+t.2.1).toNat)).2.2.2.2=0→1≤(getV (l.drop (g.2.1+v.2.2.2.1+t.2.1).toNat)).2.2.2.1∧(getV (l.drop (g.2.1+v.2.2.2.1+t.2.1).toNat)).2.2.2.1≤(l.drop (g.2.1+v.2.2.2.1+t.2.1).toNat).length:=getV_in
  generalize getV (l.drop (g.2.1+v.2.2.2.1+t.2.1).toNat)=w at i4 h ⊢
  simp only [List.length_drop] at i2 i3 i4
  by_cases h1:g.2.2≠0
  · rw [if_pos h1] at h;exact absurd h h1
  · rw [if_neg h1] at h ⊢
    have j1:=i1 (by omega)
    by_cases h2:v.2.2.2.2≠0
    · rw [if_pos h2] at h;exact absurd h h2
    · rw [if_neg h2] at h ⊢
      have j2:=i2 (by omega)
      by_cases h3:t.2.2≠0
      · rw [if_pos h3] at h;exact absurd h h3
      · rw [if_neg h3] at h ⊢
        have j3:=i3 (by omega)
        by_cases h4:t.1>0
        · rw [if_pos h4] at h ⊢
          by_cases h5:w.2.2.2.2≠0
          · rw [if_pos h5] at h;exact absurd h h5
          · rw [if_neg h5] at h ⊢
            have j4:=i4 (by omega)
            by_cases h6:mayC g.1 v.1 v.2.1 v.2.2.1 t.1 w.1 w.2.1 w.2.2.1=true
            · rw [if_pos h6]
              dsimp only
              omega
            · rw [if_neg h6] at h;cases h
        · rw [if_neg h4] at h ⊢
          by_cases h6:mayC g.1 v.1 v.2.1 v.2.2.1 t.1 0 0 (⟨#[]⟩:ByteArray)=true
          · rw [if_pos h6]
            dsimp only
            omega
          · rw [if_neg h6] at h;cases h
theorem IB_drop {l:List Int} (h:IB l) (n:Nat):IB (l.drop n):=fun c hc=>h c (List.mem_of_mem_drop hc)
/-- A part is passed, whatever was told of it. -/
theorem took_tot {l:List Int} (hb:IB l) (n e:Int) (h:e=0→1≤n∧n≤l.length):∃ l' b',tookF l false n e=some (l',b')∧IB l'∧l'.length≤l.length∧(b'=false→l'.length<l.length):=by
  unfold tookF
  rw [if_neg (by decide)]
  by_cases he:e=0
  · obtain⟨h1,h2⟩:=h he
    rw [if_pos he,if_pos (by omega),if_pos h2]
    refine⟨_,_,rfl,IB_drop hb _,?_,fun _=>?_⟩ <;> rw [List.length_drop] <;> omega
  · rw [if_neg he]
    exact⟨_,_,rfl,hb,Nat.le_refl _,fun h=>by cases h⟩
theorem numF_tot {l:List Int} (hb:IB l) (hl:l.length≤800) {k:Nat} (hk:24≤k):∃ x l' b',numF k l false=some (x,l',b')∧IB l'∧l'.length≤l.length∧(b'=false→l'.length<l.length):=by
  unfold numF
  rw [get_is hb (by omega) hk]
  simp only [Option.bind_some]
  obtain⟨l',b',e,h1,h2,h3⟩:=took_tot hb (getN l).2.1 (getN l).2.2 getN_in
  rw [e]
  exact⟨_,l',b',rfl,h1,h2,h3⟩
theorem dl0_bad (l:List Int) (kk:Int) (leaf:Bool) (acc:List S62) {k:Nat} (hk:1≤k):node_Decode.l0 k l true kk leaf acc=some (l,true,acc):=by
  obtain⟨k,rfl⟩:∃ m,k=m+1:=⟨k - 1,by omega⟩
  simp only [node_Decode.l0]
  by_cases h:kk>0
  · rw [if_pos h,if_pos trivial]
  · rw [if_neg h]
theorem dl0 (n:Nat):∀ (l:List Int) (k:Nat) (kk:Int) (acc:List S62),l.length≤n→n+70<k→IB l→(∀ x∈acc,FC x)→acc.length+l.length≤800 →
    ∃ l' b' acc',node_Decode.l0 k l false kk true acc=some (l',b',acc')∧(∀ x∈acc',FC x)∧acc'.length≤801:=by
  induction n with
  | zero =>
    intro l k kk acc hn hk hb hf ha
    obtain⟨k,rfl⟩:∃ m,k=m+1:=⟨k - 1,by omega⟩
    simp only [node_Decode.l0]
    by_cases h:kk>0
    · have hlt:=getC_lt hb
      rw [if_pos h,if_neg (by decide),if_pos trivial,getcell_is hb (by omega) (by omega)]
      simp only [Option.bind_some]
      obtain⟨l',b',e,h1,h2,h3⟩:=took_tot hb (getC l).2.2.2.2.2.2.2.2.1 (getC l).2.2.2.2.2.2.2.2.2 getC_in
      rw [e]
      simp only [Option.bind_some]
      have hb':b'=true:=by
        cases b'
        · have:=h3 rfl;omega
        · rfl
      rw [if_pos (by omega),hb',dl0_bad _ _ _ _ (by omega)]
      refine⟨_,_,_,rfl,?_,?_⟩
      · intro x hx
        rcases List.mem_append.1 hx with hx|hx
        · exact hf x hx
        · rw [List.mem_singleton.1 hx];exact hlt
      · rw [List.length_append];simp only [List.length_cons,List.length_nil];omega
    · rw [if_neg h]
      exact⟨_,_,_,rfl,hf,by omega⟩
  | succ n ih =>
    intro l k kk acc hn hk hb hf ha
    obtain⟨k,rfl⟩:∃ m,k=m+1:=⟨k - 1,by omega⟩
    simp only [node_Decode.l0]
    by_cases h:kk>0
    · have hlt:=getC_lt hb
      rw [if_pos h,if_neg (by decide),if_pos trivial,getcell_is hb (by omega) (by omega)]
      simp only [Option.bind_some]
      obtain⟨l',b',e,h1,h2,h3⟩:=took_tot hb (getC l).2.2.2.2.2.2.2.2.1 (getC l).2.2.2.2.2.2.2.2.2 getC_in
      rw [e]
      simp only [Option.bind_some]
      rw [if_pos (by omega)]
      have hf2:∀ x∈acc++[(⟨(getC l).1,(⟨(getC l).2.1,(getC l).2.2.1,(getC l).2.2.2.1⟩:S54),(getC l).2.2.2.2.1,(⟨(getC l).2.2.2.2.2.1,(getC l).2.2.2.2.2.2.1,(getC l).2.2.2.2.2.2.2.1⟩:S54)⟩:S62)],FC x:=by
        intro x hx
        rcases List.mem_append.1 hx with hx|hx
        · exact hf x hx
        · rw [List.mem_singleton.1 hx];exact hlt
      cases b'
      · have h4:=h3 rfl
        exact ih l' k _ _ (by omega) (by omega) h1 hf2 (by rw [List.length_append];simp only [List.length_cons,List.length_nil];omega)
      · rw [dl0_bad _ _ _ _ (by omega)]
        refine⟨_,_,_,rfl,hf2,?_⟩
        rw [List.length_append];simp only [List.length_cons,List.length_nil];omega
    · rw [if_neg h]
      exact⟨_,_,_,rfl,hf,by omega⟩
theorem dl0_no (l:List Int) (bad:Bool) (kk:Int) (acc:List S62) {k:Nat} (hk:1≤k):node_Decode.l0 k l bad kk false acc=some (l,bad,acc):=by
  cases bad
  · exact dec_no l kk acc hk
  · exact dl0_bad l kk false acc hk
theorem dl1_bad (l:List Int) (i kk:Int) (acc:List Int) {k:Nat} (hk:1≤k):node_Decode.l1 k l true i kk acc=some (l,true,acc):=by
  obtain⟨k,rfl⟩:∃ m,k=m+1:=⟨k - 1,by omega⟩
  simp only [node_Decode.l1]
  by_cases h:i<kk
  · rw [if_pos h,if_pos trivial]
  · rw [if_neg h]
theorem dl1 (n:Nat):∀ (l:List Int) (k:Nat) (i kk:Int) (acc:List Int),l.length≤n→n+40<k→IB l→acc.length+l.length≤800 →
    ∃ l' b' acc',node_Decode.l1 k l false i kk acc=some (l',b',acc')∧IB l'∧l'.length≤l.length∧acc'.length≤801:=by
  induction n with
  | zero =>
    intro l k i kk acc hn hk hb ha
    obtain⟨k,rfl⟩:∃ m,k=m+1:=⟨k - 1,by omega⟩
    simp only [node_Decode.l1]
    by_cases h:i<kk
    · obtain⟨x,l',b',e,h1,h2,h3⟩:=numF_tot hb (by omega) (k:=k) (by omega)
      rw [if_pos h,if_neg (by decide),e]
      simp only [Option.bind_some]
      have hb':b'=true:=by
        cases b'
        · have:=h3 rfl;omega
        · rfl
      rw [if_pos (by omega),hb',dl1_bad _ _ _ _ (by omega)]
      refine⟨_,_,_,rfl,h1,h2,?_⟩
      rw [List.length_append];simp only [List.length_cons,List.length_nil];omega
    · rw [if_neg h]
      exact⟨_,_,_,rfl,hb,Nat.le_refl _,by omega⟩
  | succ n ih =>
    intro l k i kk acc hn hk hb ha
    obtain⟨k,rfl⟩:∃ m,k=m+1:=⟨k - 1,by omega⟩
    simp only [node_Decode.l1]
    by_cases h:i<kk
    · obtain⟨x,l',b',e,h1,h2,h3⟩:=numF_tot hb (by omega) (k:=k) (by omega)
      rw [if_pos h,if_neg (by decide),e]
      simp only [Option.bind_some]
      rw [if_pos (by omega)]
      cases b'
      · have h4:=h3 rfl
        obtain⟨l2,b2,a2,e2,g1,g2,g3⟩:=ih l' k (wrap64 (i+1)) kk (acc++[x]) (by omega) (by omega) h1 (by rw [List.length_append];simp only [List.length_cons,List.length_nil];omega)
        exact⟨l2,b2,a2,e2,g1,by omega,g3⟩
      · rw [dl1_bad _ _ _ _ (by omega)]
        refine⟨_,_,_,rfl,h1,h2,?_⟩
        rw [List.length_append];simp only [List.length_cons,List.length_nil];omega
    · rw [if_neg h]
      exact⟨_,_,_,rfl,hb,Nat.le_refl _,by omega⟩
theorem dl2_bad (l:List Int) (i kk:Int) (acc:List ByteArray) {k:Nat} (hk:1≤k):node_Decode.l2 k l true i kk acc=some (l,true,acc):=by
  obtain⟨k,rfl⟩:∃ m,k=m+1:=⟨k - 1,by omega⟩
  simp only [node_Decode.l2]
  by_cases h:i<kk
  · rw [if_pos h,if_pos trivial]
  · rw [if_neg h]
theorem dl2 (n:Nat):∀ (l:List Int) (k:Nat) (i kk:Int) (acc:List ByteArray),l.length≤n→n+40<k→IB l→acc.length+l.length≤800 →
    ∃ l' b' acc',node_Decode.l2 k l false i kk acc=some (l',b',acc')∧acc'.length≤801:=by
  induction n with
  | zero =>
    intro l k i kk acc hn hk hb ha
    obtain⟨k,rfl⟩:∃ m,k=m+1:=⟨k - 1,by omega⟩
    simp only [node_Decode.l2]
    by_cases h:i<kk
    · rw [if_pos h,if_neg (by decide),gettext_is hb (by omega) (by omega)]
      simp only [Option.bind_some]
      obtain⟨l',b',e,h1,h2,h3⟩:=took_tot hb (getS l).2.1 (getS l).2.2 getS_one
      rw [e]
      simp only [Option.bind_some]
      have hb':b'=true:=by
        cases b'
        · have:=h3 rfl;omega
        · rfl
      rw [if_pos (by omega),hb',dl2_bad _ _ _ _ (by omega)]
      refine⟨_,_,_,rfl,?_⟩
      rw [List.length_append];simp only [List.length_cons,List.length_nil];omega
    · rw [if_neg h]
      exact⟨_,_,_,rfl,by omega⟩
  | succ n ih =>
    intro l k i kk acc hn hk hb ha
    obtain⟨k,rfl⟩:∃ m,k=m+1:=⟨k - 1,by omega⟩
    simp only [node_Decode.l2]
    by_cases h:i<kk
    · rw [if_pos h,if_neg (by decide),gettext_is hb (by omega) (by omega)]
      simp only [Option.bind_some]
      obtain⟨l',b',e,h1,h2,h3⟩:=took_tot hb (getS l).2.1 (getS l).2.2 getS_one
      rw [e]
      simp only [Option.bind_some]
      rw [if_pos (by omega)]
      cases b'
      · have h4:=h3 rfl
        exact ih l' k (wrap64 (i+1)) kk _ (by omega) (by omega) h1 (by rw [List.length_append];simp only [List.length_cons,List.length_nil];omega)
      · rw [dl2_bad _ _ _ _ (by omega)]
        refine⟨_,_,_,rfl,?_⟩
        rw [List.length_append];simp only [List.length_cons,List.length_nil];omega
    · rw [if_neg h]
      exact⟨_,_,_,rfl,by omega⟩
/-- What bytes are told as: none's, or a node of which they are the page. -/
def Told (b:List Int) (r:Bool × List S62 × List ByteArray × List Int × Int):Prop :=
  r=(false,[],[],[],8)∨∃ leaf cs keys kids,r=(leaf,cs,keys,kids,0)∧(∀ x∈cs,FC x)∧cs.length≤1000∧keys.length≤1000∧kids.length≤1000∧mayN leaf cs keys kids=true∧(bytesN leaf cs keys kids).length≤256 ∧
    (strOfNums (padN (bytesN leaf cs keys kids))).toList=(strOfNums b).toList
theorem fin_tot (b:List Int) (bad:Bool) {leaf:Bool} {cs:List S62} {keys:List ByteArray} {kids:List Int} (hf:∀ x∈cs,FC x) (h1:cs.length≤1000) (h2:keys.length≤1000) (h3:kids.length≤1000) {k:Nat} (hk:4000≤k) :
    ∃ r,node_Decode.fin k b bad leaf cs keys kids=some r∧Told b r:=by
  unfold node_Decode.fin
  rw [encode_is hf h1 h2 h3 hk]
  simp only [Option.bind_some]
  cases bad
  · rw [if_neg (by decide)]
    by_cases h:(encN leaf cs keys kids).2=0
    · obtain⟨m,n,p⟩:=encN_ok h
      rw [if_pos h]
      unfold bytes_Equal.f
      simp only [Option.bind_some]
      by_cases hq:((strOfNums (encN leaf cs keys kids).1).toList == (strOfNums b).toList)=true
      · rw [if_pos hq]
        refine⟨_,rfl,.inr ⟨leaf,cs,keys,kids,rfl,hf,h1,h2,h3,m,n,?_⟩⟩
        rw [beq_iff_eq,p] at hq
        exact hq
      · rw [if_neg hq]
        exact⟨_,rfl,.inl rfl⟩
    · rw [if_neg h]
      exact⟨_,rfl,.inl rfl⟩
  · rw [if_pos rfl]
    exact⟨_,rfl,.inl rfl⟩
theorem decode_tot {b:List Int} (hb:IB b) (hl:b.length≤700) {k:Nat} (hk:4000≤k):∃ r,node_Decode.f k b=some r∧Told b r:=by
  unfold node_Decode.f
  by_cases hn:(b.length:Int)=256
  · rw [if_pos hn]
    obtain⟨x,l1,b1,e1,i1,n1,_⟩:=numF_tot (IB_drop hb 1) (by rw [List.length_drop];omega) (k:=k) (by omega)
    rw [List.length_drop] at n1
    rw [e1]
    simp only [Option.bind_some]
    by_cases hr:(rd b 0 == 1)=true
    · rw [hr]
      have:∃ l' b' acc',node_Decode.l0 k l1 b1 x true []=some (l',b',acc')∧(∀ x∈acc',FC x)∧acc'.length≤801:=by
        cases b1
        · exact dl0 l1.length l1 k x [] (Nat.le_refl _) (by omega) i1 (fun x hx=>by cases hx) (by simp;omega)
        · exact⟨l1,true,[],dl0_bad _ _ _ _ (by omega),(fun x hx=>by cases hx),by simp⟩
      obtain⟨l2,b2,cs,e2,f2,n2⟩:=this
      rw [e2]
      simp only [Option.bind_some]
      rw [if_pos trivial]
      exact fin_tot b b2 f2 (by omega) (by simp) (by simp) hk
    · rw [Bool.eq_false_iff.2 hr,dl0_no _ _ _ _ (by omega)]
      simp only [Option.bind_some]
      rw [if_neg (by decide)]
      have:∃ l' b' acc',node_Decode.l1 k l1 b1 0 x []=some (l',b',acc')∧IB l'∧l'.length≤l1.length∧acc'.length≤801:=by
        cases b1
        · exact dl1 l1.length l1 k 0 x [] (Nat.le_refl _) (by omega) i1 (by simp;omega)
        · exact⟨l1,true,[],dl1_bad _ _ _ _ (by omega),i1,Nat.le_refl _,by simp⟩
      obtain⟨l2,b2,kids,e2,i2,m2,n2⟩:=this
      rw [e2]
      simp only [Option.bind_some]
      have:∃ l' b' acc',node_Decode.l2 k l2 b2 1 x []=some (l',b',acc')∧acc'.length≤801:=by
        cases b2
        · exact dl2 l2.length l2 k 1 x [] (Nat.le_refl _) (by omega) i2 (by simp;omega)
        · exact⟨l2,true,[],dl2_bad _ _ _ _ (by omega),by simp⟩
      obtain⟨l3,b3,keys,e3,n3⟩:=this
      rw [e3]
      simp only [Option.bind_some]
      exact fin_tot b b3 (fun x hx=>by cases hx) (by simp) (by omega) (by omega) hk
  · rw [if_neg hn]
    exact⟨_,rfl,.inl rfl⟩
theorem FL_toB {cs:List S62} (h:∀ x∈cs,FC x):FL (cs.map toB):=by
  intro x hx
  obtain⟨y,hy,rfl⟩:=List.mem_map.1 hx
  exact h y hy
theorem tells_is {b:List Int} (hb:IB b) (hl:b.length≤700) {k:Nat} (hk:4000≤k):engrosslaw11_tells.f k b=some true:=by
  unfold engrosslaw11_tells.f
  obtain⟨r,e,h⟩:=decode_tot hb hl hk
  rw [e]
  simp only [Option.bind_some]
  rcases h with rfl | ⟨leaf,cs,keys,kids,rfl,hf,h1,h2,h3,hm,hn,hs⟩
  · rw [if_neg (by decide),if_pos rfl,if_pos (by simp)]
    rfl
  · rw [if_pos rfl]
    dsimp only
    rw [backnode leaf cs keys kids h1 (by omega)]
    simp only [Option.bind_some]
    rw [rbytesnode_is leaf (cs.map toB) (FL_toB hf) keys kids (by rw [List.length_map];exact h1) h2 h3 hk,toC_toB,if_pos hm]
    simp only [Option.bind_some]
    rw [whole_is,if_neg (by omega)]
    simp only [Option.bind_some]
    rw [hs]
    simp
end Go.Proofs.Ytmmjpieafbjggaa.Pure
end
section
set_option linter.unusedVariables false
set_option linter.unusedSimpArgs false
namespace Go.Proofs.Ytmmjpieafbjggaa.Pure
open Go.RowKit Go.Proofs.Ytmmjpieafbjggaa.P Go.Proofs.YtmmjpieafbjggaaW.PrintWords Go.Proofs.YtmmjpieafbjggaaW.PrintLast Go.Proofs.YtmmjpieafbjggaaW.PrintMore
theorem xor_u8 {a b:Int} (ha:0≤a∧a≤255) (hb:0≤b∧b≤255):0≤Go.bits .xor .u8 a b∧Go.bits .xor .u8 a b≤255:=by
  rw [u8_xor a b ha.1 (by omega) hb.1 (by omega)]
  have:=Nat.xor_lt_two_pow (n:=8) (show a.toNat<2 ^ 8 by omega) (show b.toNat<2 ^ 8 by omega)
  omega
theorem IB_take {l:List Int} (h:IB l) (n:Nat):IB (l.take n):=fun c hc=>h c (List.mem_of_mem_take hc)
theorem IB_pad {l:List Int} (h:IB l):IB (padN l):=IB_app h (IB_zeros _)
theorem any_j2 {p:List Int} (hp:IB p) (at_ x:Int) (hx:0≤x∧x≤255) (flag:Bool) (h:flag=false→p.length=256∧0≤at_) {k:Nat} (hk:4100≤k):engrosslaw11_NodeAny.j2 k at_ x p flag=some true:=by
  obtain⟨k,rfl⟩:∃ m,k=m+1:=⟨k - 1,by omega⟩
  simp only [engrosslaw11_NodeAny.j2]
  cases flag
  · obtain⟨hl,h0⟩:=h rfl
    have hm:Int.tmod at_ 256=((at_.toNat % 256:Nat):Int):=by
      obtain⟨n,rfl⟩:∃ n:Nat,at_=(n:Int):=⟨at_.toNat,by omega⟩
      rfl
    rw [if_neg (by decide),if_pos (by simp only [List.length_nil];omega)]
    simp only [Option.bind_some,List.nil_append]
    have hi':at_.toNat % 256<256:=Nat.mod_lt _ (by decide)
    rw [hm]
    clear hm
    generalize at_.toNat % 256=i at hi' ⊢
    rw [if_pos (by omega),if_pos (by omega)]
    have hrd:0≤rd p (i:Int)∧rd p (i:Int)≤255:=by
      rw [rdI (show i<p.length by omega)]
      exact hp _ (List.getElem_mem _)
    have hset:IB (p.set ((i:Int)).toNat (Go.bits .xor .u8 (rd p (i:Int)) x)):=by
      intro c hc
      rcases List.mem_or_eq_of_mem_set hc with h|h
      · exact hp c h
      · rw [h];exact xor_u8 hrd hx
    rw [tells_is hset (by rw [List.length_set];omega) (by omega)]
    simp only [Option.bind_some]
    rw [if_pos trivial,if_pos (by omega),tells_is (IB_take hp 255) (by rw [List.length_take];omega) (by omega)]
    rfl
  · rw [if_pos rfl]
theorem any_j0 {b:List Int} (hb:IB b) (hbl:b.length≤260) (at_ x:Int) (hx:0≤x∧x≤255) {leaf:Bool} {l:List S56} {ks:List ByteArray} {ids:List Int} (hf:FL l) (h1:l.length≤40) (h2:ks.length≤40) (h3:ids.length≤40) {k:Nat} (hk:5000≤k) :
    engrosslaw11_NodeAny.j0 k b at_ x leaf l ks ids=some true:=by
  obtain⟨k,rfl⟩:∃ m,k=m+2:=⟨k - 2,by omega⟩
  have hl:(l.map toC).length≤1000:=by rw [List.length_map];omega
  simp only [engrosslaw11_NodeAny.j0]
  rw [tells_is hb (by omega) (by omega)]
  simp only [Option.bind_some]
  rw [if_pos trivial,show (256:Int)=((256:Nat):Int) from rfl,short_is]
  simp only [Option.bind_some]
  have ht:(b.take 256).length≤256:=by rw [List.length_take];omega
  rw [whole_is,if_neg (by omega)]
  simp only [Option.bind_some]
  rw [tells_is (IB_pad (IB_take hb 256)) (by rw [padN_len ht];omega) (by omega)]
  simp only [Option.bind_some,engrosslaw11_NodeAny.j1]
  rw [if_neg (by decide),rbytesnode_is leaf l hf ks ids (by omega) (by omega) (by omega) (by omega),rmaynode_is leaf l hf ks ids (by omega) (by omega) (by omega) (by omega)]
  simp only [Option.bind_some]
  rw [whole_is]
  simp only [Option.bind_some]
  by_cases hm:mayN leaf (l.map toC) ks ids=true
  · simp only [if_pos hm]
    have hib:=IB_bytesN hm hl
    by_cases hn:(bytesN leaf (l.map toC) ks ids).length>256
    · simp only [if_pos hn]
      rw [if_pos (by simp)]
      exact any_j2 (fun c hc=>by cases hc) at_ x hx true (fun h=>by cases h) (by omega)
    · simp only [if_neg hn]
      have hp:=padN_len (b:=bytesN leaf (l.map toC) ks ids) (by omega)
      rw [if_neg (by omega)]
      exact any_j2 (IB_pad hib) at_ x hx _ (fun h=>⟨hp,by have:=of_decide_eq_false h;omega⟩) (by omega)
  · simp only [if_neg hm]
    refine any_j2 ?_ at_ x hx true (fun h=>by cases h) (by omega)
    rw [if_neg (by simp)]
    exact IB_pad (fun c hc=>by cases hc)
theorem NodeAny:engrosslaw11_NodeAny.Pure:=by
  intro b x1 at_ x hw w1 _ hx
  obtain⟨k,hk⟩:∃ k:Nat,6000≤k:=⟨6000,Nat.le_refl _⟩
  refine⟨k,?_⟩
  have hib:IB b:=fun c hc=>wf_u8 (hw.2 c hc)
  have hx8:=wf_u8 hx
  unfold engrosslaw11_NodeAny.f
  rw [begun11 (by omega)]
  simp only [Option.bind_some]
  rw [if_pos trivial]
  obtain⟨l,ks,ids,e,hf,h1,h2,h3⟩:=cutnode x1.f0 x1.f1 (wf_FL w1) x1.f2 x1.f3 (k:=k) (by omega)
  rw [e]
  simp only [Option.bind_some]
  by_cases hl:(b.length:Int)>260
  · rw [if_pos hl,if_pos (by omega)]
    exact any_j0 (IB_take hib 260) (by rw [List.length_take];omega) at_ x hx8 hf h1 h2 h3 (by omega)
  · rw [if_neg hl]
    exact any_j0 hib (by omega) at_ x hx8 hf h1 h2 h3 (by omega)
end Go.Proofs.Ytmmjpieafbjggaa.Pure
end
