/- engrossref1.Add's contract: floats one by one, from 0 on; all NaNs are one. Condition: fewer than 2^47 of them. -/
import Derived.Test.YtaphfjfalbeojaaFlt0
import Derived.Laws.BitsAllLaws
import Derived.Test.YtaphfjfalbeojaaPx2
set_option linter.unusedVariables false
set_option linter.unusedSimpArgs false
namespace Go.Proofs.Ytaphfjfalbeojaa.P
open Go.RowKit Go.Proofs.YtaphfjfalbeojaaW.PrintWords Go.Proofs.YtaphfjfalbeojaaW.PrintLast Go.Proofs.YtaphfjfalbeojaaW.PrintMore
attribute [local go_sem] ext_bits ext_frombits

theorem expo (a : Nat) : a &&& 9218868437227405312 = a % 9223372036854775808 / 4503599627370496 * 4503599627370496 := nat_midmask 63 52 a (by decide)
theorem rnan_is {a : Nat} (h : a < 18446744073709551616) : engrossref1_NaN.f a = some (decide (9218868437227405312 < a % 9223372036854775808)) := by
  unfold engrossref1_NaN.f
  have e1 : Go.bits .and .u64 (a : Int) 9218868437227405312 = ((a % 9223372036854775808 / 4503599627370496 * 4503599627370496 : Nat) : Int) := by
    have := u64_and_nat a 9218868437227405312 h (by decide)
    rw [expo] at this
    exact this
  have e2 : Go.bits .and .u64 (a : Int) 4503599627370495 = ((a % 4503599627370496 : Nat) : Int) := by
    have := u64_and_nat a 4503599627370495 h (by decide)
    rw [nat_mask52] at this
    exact this
  rw [e1, e2]
  clear e1 e2
  by_cases h1 : ((a % 9223372036854775808 / 4503599627370496 * 4503599627370496 : Nat) : Int) = 9218868437227405312
  · rw [if_pos h1]
    congr 1
    rw [Bool.eq_iff_iff]
    simp only [bne_iff_ne, ne_eq, decide_eq_true_eq]
    omega
  · rw [if_neg h1]
    congr 1
    rw [Bool.eq_iff_iff]
    simp only [Bool.false_eq_true, false_iff, decide_eq_true_eq]
    omega
theorem rclean_is {a : Nat} (h : a < 18446744073709551616) : engrossref1_Clean.f a = some (if 9218868437227405312 < a % 9223372036854775808 then 9221120237041090560 else a) := by
  unfold engrossref1_Clean.f
  rw [rnan_is h]
  simp only [Option.bind_some, decide_eq_true_eq]
  split <;> rfl
theorem accOk_lt {l : List Nat} {acc : Nat} (h : AccOk l acc) : acc < 18446744073709551616 := by
  unfold AccOk at h
  cases e : sumO l with
  | some b => rw [e] at h; dsimp only at h; subst h; exact (sumO_num e).2
  | none => rw [e] at h; exact h.1

def engrossref1_Add.f (l0 : List Nat) : Option (Nat) := if l0.length ≤ 140737488355328 then some (sumF l0) else none
set_option maxHeartbeats 1000000 in
set_option maxRecDepth 100000 in
theorem engrossref1_Add.calls (A0 : Option Addr) (c0 : Nat) (l0 : List Nat) (r : Nat) (w : World) (hr0 : Kd.C Kd.float w A0 l0.length l0) (hc0 : l0.length ≤ c0) (h : engrossref1_Add.f l0 = some r) :
    Calls Try.prog 30 #[.slice A0 l0.length c0] w fun e w' => e = .returned (.float .f64 r) ∧ Drawn0 w w' := by
  have HR0 := Aside0.mk hr0
  have HC0 := Aside0.mk hc0
  clear hr0 hc0
  unfold engrossref1_Add.f at h
  by_cases hl : l0.length ≤ 140737488355328
  rotate_left
  · rw [if_neg hl] at h; cases h
  rw [if_pos hl] at h
  have HE := Aside0.mk (Option.some.inj h)
  clear h
  go_enter Try.func30, Try.ntmps30
  go_wp2
  go_loopw [3, 4] (fun v3 v4 w' => ∃ (i m acc : Nat), v4 = .int .i64 (i : Int) ∧ v3 = .float .f64 acc ∧ Aside0 (AccOk (l0.take i) acc) ∧ i ≤ l0.length ∧ w' = w.drewN m) (fun _ v4 _ => l0.length - (intOf v4).toNat)
  case atStart => exact ⟨0, 0, 0, rfl, rfl, ⟨accOk_nil⟩, Nat.zero_le _, rfl⟩
  case round =>
    obtain ⟨i, m, acc, rfl, rfl, HA, hi, rfl⟩ := hrel
    by_cases hlt : i < l0.length
    · obtain ⟨ad, e0, hx⟩ := Kd.at_float HR0.out (i : Int) (by omega) (by omega)
      cases e0
      have hi2 : ((i : Int)).toNat = i := by omega
      rw [hi2] at hx
      obtain ⟨q, n, hrun, hrel⟩ := add_any (P := Try.prog) 24 acc (rdOf (0 : Nat) l0 (i : Int)) (w.drewN m)
      have HREL := Aside0.mk hrel
      clear hrel
      go_wp2
      go_roundw
      case rel =>
        have e : l0.take (i + 1) = l0.take i ++ [rdOf (0 : Nat) l0 (i : Int)] := by
          rw [List.take_succ_eq_append_getElem hlt]
          simp [rdOf, hlt]
        exact ⟨i + 1, m + n, q, by go_num, rfl, ⟨by rw [e]; exact accOk_step HA.out HREL.out⟩, by omega, by simp⟩
      case measure => simp [intOf]; omega
    · have hik : i = l0.length := by omega
      have HEND : Aside0 (engrossref1_Clean.f acc = some r) := by
        refine ⟨?_⟩
        have := accOk_end HA.out
        rw [hik, List.take_length] at this
        rw [rclean_is (accOk_lt HA.out), this, HE.out]
      clear hik
      go_wp2_with (go_at_call 24; refine (engrossref1_Clean.calls acc r _ HEND.out).mono ?_; rintro e w' ⟨rfl, ⟨n, rfl⟩⟩)
      go_ret
      exact ⟨rfl, by repeat (first | exact Drawn0.refl _ | apply Drawn0.step)⟩
end Go.Proofs.Ytaphfjfalbeojaa.P
