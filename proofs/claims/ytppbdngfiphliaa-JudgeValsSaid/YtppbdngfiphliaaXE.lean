/- The library's two functions on a float's bits, and the sum of two floats, as the walk takes them. No condition. -/
import Derived.Test.YtppbdngfiphliaaXWords
import Derived.Test.YtppbdngfiphliaaProg
import Derived.Laws.Cover2
import Derived.Laws.Externs
import Derived.Laws.FloatArith
set_option linter.unusedVariables false
set_option linter.unusedSimpArgs false
namespace Go.Proofs.Ytppbdngfiphliaa.P
open Go.RowKit Go.Proofs.YtppbdngfiphliaaW.PrintWords

theorem ext_bits (a : Nat) (w : World) : (callFunc 42 #[.float .f64 a]).run Try.prog w = .ok (.value (.int .u64 a)) w := by
  rw [run_callFunc_extern Try.func42 (by kernel_rfl) (by kernel_rfl) (by kernel_rfl) (e := Extern.MathFloatBits.float64bits) (by kernel_rfl)]
  rfl
theorem ext_frombits (n : Int) (w : World) : (callFunc 50 #[.int .u64 n]).run Try.prog w = .ok (.value (.float .f64 n.toNat)) w := by
  rw [run_callFunc_extern Try.func50 (by kernel_rfl) (by kernel_rfl) (by kernel_rfl) (e := Extern.MathFloatBits.float64frombits) (by kernel_rfl)]
  rfl

theorem ext_neg {P : Program} (b : Nat) (w : World) : (Op.unary .neg (.float .f64 b)).run P w = .ok (.float .f64 (Op.negFloat .f64 b)) w := rfl

theorem x_store_float {P : Program} {w : World} {a : Addr} {m : Mode} (k : FloatKind) (b : Nat) : (store a (.float k b) m).run P w = stored P w a (.float k b) m := run_store P w a _ m rfl

/-- A NaN's bits. -/
def isNaNb (b : Nat) : Prop := b < 18446744073709551616 ∧ 9218868437227405312 < b % 9223372036854775808
theorem add_any {P : Program} (t : TypeId) (x y : Nat) (W : World) :
    ∃ r n, (binOp .add t (.float .f64 x) (.float .f64 y)).run P W = .ok (.float .f64 r) (W.drewN n) ∧ (match floatBits .add .f64 x y with | some b => r = b | none => isNaNb r) := by
  cases h : floatBits .add .f64 x y with
  | some b => exact ⟨b, 0, run_float_arith W .add t .f64 x y b h, rfl⟩
  | none =>
    have h2 : FloatKind.f64.format.add x y = none := h
    have hc : ∀ z : Nat, isNaNb ((z % 2) * 2 ^ 63 + 0x7ff0000000000000 + 1 + (z / 2) % (2 ^ 52 - 1)) := by
      intro z
      unfold isNaNb
      have h1 : z / 2 % (2 ^ 52 - 1) < 4503599627370495 := Nat.mod_lt _ (by decide)
      generalize z / 2 % (2 ^ 52 - 1) = r at h1
      rcases Nat.mod_two_eq_zero_or_one z with h | h <;> rw [h] <;> omega
    refine ⟨Question.cut (.nanBits .f64 x y) (W.tape W.drawn (.nanBits .f64 x y)), 1, ?_, hc _⟩
    simp [binOp, Op.floatArith, h2, Question.forced]
    rfl
end Go.Proofs.Ytppbdngfiphliaa.P
