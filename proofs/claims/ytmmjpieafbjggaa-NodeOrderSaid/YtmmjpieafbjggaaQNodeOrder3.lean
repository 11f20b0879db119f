/- The law NodeOrder returns true for every input: the words, the walks and the plain statement that its row needs. No condition. (Merged by a program of this session out of its own texts.) -/
import Derived.Test.YtmmjpieafbjggaaProg
import Derived.Laws.Cover2
import Derived.Laws.Externs
import Derived.Laws.FloatArith
import Derived.ArgAppend
import Derived.Below
import Derived.BigQuiet
import Derived.Deep.AppendLies
import Derived.Deep.CutBlock
import Derived.Deep.DeepCutAuto
import Derived.Deep.Draws
import Derived.Deep.LoopGhost
import Derived.Deep.OwnRows
import Derived.Deep.QuietTactic
import Derived.Deep.RegionHeld3
import Derived.KernelRfl
import Derived.Laws.BitsLemmas
import Derived.Laws.BytesArg
import Derived.Laws.IdiomCopy
import Derived.Laws.MakeOwn
import Derived.Laws.OwnMore
import Derived.Laws.Rows
import Derived.Laws.Slices
import Derived.Lib.AppendStr
import Derived.Lib.ConvBytes
import Derived.Maps.AppendAt
import Derived.OrdersHeld
import Derived.OwnWalk
import Derived.RowKit
import Derived.RowKit3
import Derived.Tactics
import Derived.WalkKit
import Derived.WideLaws
import Derived.Test.YtmmjpieafbjggaaQNodeOrder2
section
set_option linter.unusedVariables false
set_option linter.unusedSimpArgs false
namespace Go.Proofs.Ytmmjpieafbjggaa.P
open Go.RowKit Go.Proofs.YtmmjpieafbjggaaW.PrintWords
theorem ext_bits (a:Nat) (w:World):(callFunc 63 #[.float .f64 a]).run Try.prog w = .ok (.value (.int .u64 a)) w:=by
  rw [run_callFunc_extern Try.func63 (by kernel_rfl) (by kernel_rfl) (by kernel_rfl) (e:=Extern.MathFloatBits.float64bits) (by kernel_rfl)]
  rfl
theorem ext_frombits (n:Int) (w:World):(callFunc 70 #[.int .u64 n]).run Try.prog w = .ok (.value (.float .f64 n.toNat)) w:=by
  rw [run_callFunc_extern Try.func70 (by kernel_rfl) (by kernel_rfl) (by kernel_rfl) (e:=Extern.MathFloatBits.float64frombits) (by kernel_rfl)]
  rfl
theorem ext_neg {P:Program} (b:Nat) (w:World):(Op.unary .neg (.float .f64 b)).run P w = .ok (.float .f64 (Op.negFloat .f64 b)) w:=rfl
theorem x_store_float {P:Program} {w:World} {a:Addr} {m:Mode} (k:FloatKind) (b:Nat):(store a (.float k b) m).run P w=stored P w a (.float k b) m:=run_store P w a _ m rfl
end Go.Proofs.Ytmmjpieafbjggaa.P
end
section
set_option linter.unusedVariables false
set_option linter.unusedSimpArgs false
namespace Go.Proofs.Ytmmjpieafbjggaa.P
open Go.RowKit Go.Proofs.YtmmjpieafbjggaaW.PrintWords
theorem sw:Ieee.double.signWeight=9223372036854775808:=by decide
theorem ir:Ieee.double.infRung=9218868437227405312:=by decide
theorem bd:Ieee.double.binade=4503599627370496:=by decide
theorem read_nan {a:Nat} (h:9218868437227405312<a % 9223372036854775808):∃ s f,Ieee.double.read a = .nan s f:=by
  unfold Ieee.Format.read
  rw [sw,ir,bd]
  dsimp only
  rw [if_neg (by omega),if_neg (by omega),if_neg (by omega)]
  exact⟨_,_,rfl⟩
theorem read_num {a:Nat} (h:a % 9223372036854775808≤9218868437227405312):∀ s f,Ieee.double.read a≠.nan s f:=by
  intro s f
  unfold Ieee.Format.read
  rw [sw,ir,bd]
  dsimp only
  by_cases h1:a % 9223372036854775808<4503599627370496
  · rw [if_pos h1];simp
  · rw [if_neg h1]
    by_cases h2:a % 9223372036854775808<9218868437227405312
    · rw [if_pos h2];simp
    · rw [if_neg h2,if_pos (by omega)];simp
theorem order_nan {x y:Nat} (h:9218868437227405312<x % 9223372036854775808):FloatKind.f64.format.order x y=none:=by
  obtain⟨s,f,e⟩:=read_nan h
  show (Ieee.double.read x).order (Ieee.double.read y)=none
  rw [e]
  cases Ieee.double.read y <;> rfl
theorem order_self {x:Nat} (h:x % 9223372036854775808≤9218868437227405312):FloatKind.f64.format.order x x=some .eq:=by
  have hr:=read_num h
  show (Ieee.double.read x).order (Ieee.double.read x)=some .eq
  cases e:Ieee.double.read x with
  | number s m i=>simp [Ieee.Datum.order]
  | infinity s=>simp [Ieee.Datum.order]
  | nan s f=>exact absurd e (hr s f)
theorem self_ne (x:Nat):(FloatKind.f64.format.order x x != some .eq)=decide (9218868437227405312<x % 9223372036854775808):=by
  by_cases h:9218868437227405312<x % 9223372036854775808
  · rw [order_nan h,decide_eq_true h];rfl
  · rw [order_self (by omega),decide_eq_false h];rfl
end Go.Proofs.Ytmmjpieafbjggaa.P
end
