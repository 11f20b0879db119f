/- DatumFloats: floats as values: the plain statement of the law. -/
import Derived.Test.YthfpmpnedaliaaaDatB
import Derived.Test.YthfpmpnedaliaaaPx9
set_option linter.unusedVariables false
set_option linter.unusedSimpArgs false
namespace Go.Proofs.Ythfpmpnedaliaaa.Pure
open Go.RowKit Go.Proofs.Ythfpmpnedaliaaa.P Go.Proofs.YthfpmpnedaliaaaW.PrintWords Go.Proofs.YthfpmpnedaliaaaW.PrintLast Go.Proofs.YthfpmpnedaliaaaW.PrintMore
theorem xor63 {u : Nat} (hu : u < 18446744073709551616) : Go.bits .xor .u64 (u : Int) 9223372036854775808 = (((if u < 9223372036854775808 then u + 9223372036854775808 else u - 9223372036854775808) : Nat) : Int) := by
  have h0 := u64_xor_nat u 9223372036854775808 hu (by decide)
  have hxor : ∀ v : Nat, v < 9223372036854775808 → v ^^^ 9223372036854775808 = v + 9223372036854775808 := by
    intro v hv
    have hj : 9223372036854775808 ||| v = 9223372036854775808 + v := nat_join 63 9223372036854775808 v (by decide) (by exact hv)
    rw [Nat.xor_comm, Nat.add_comm, ← hj]
    apply Nat.eq_of_testBit_eq
    intro i
    rw [Nat.testBit_xor, Nat.testBit_or]
    have h63 : (9223372036854775808 : Nat) = 2 ^ 63 := rfl
    rw [h63, Nat.testBit_two_pow]
    by_cases hi : 63 = i
    · subst hi
      have : v.testBit 63 = false := Nat.testBit_lt_two_pow hv
      simp [this]
    · simp [hi]
  have e : u ^^^ 9223372036854775808 = (if u < 9223372036854775808 then u + 9223372036854775808 else u - 9223372036854775808) := by
    by_cases h : u < 9223372036854775808
    · rw [if_pos h]; exact hxor u h
    · rw [if_neg h]
      have := hxor (u - 9223372036854775808) (by omega)
      rw [show u - 9223372036854775808 + 9223372036854775808 = u by omega] at this
      conv => lhs; rw [← this]
      rw [Nat.xor_assoc, Nat.xor_self, Nat.xor_zero]
  rw [e] at h0
  exact h0
theorem DatumFloats : engrosslaw4_DatumFloats.Pure := by
  intro b hb
  obtain ⟨k, hk⟩ : ∃ k : Nat, 70 ≤ k := ⟨70, Nat.le_refl _⟩
  refine ⟨k, ?_⟩
  unfold engrosslaw4_DatumFloats.f
  rw [begun4 (by omega)]
  simp only [Option.bind_some, if_true]
  obtain ⟨f, rfl⟩ : ∃ f : Nat, b = f := ⟨b.toNat, by have := wf_u64 hb; omega⟩
  have hf := toNat_lt hb
  rw [Int.toNat_natCast] at hf
  rw [Int.toNat_natCast, rnan_is hf]
  simp only [Option.bind_some, decide_eq_true_eq]
  obtain ⟨k, rfl⟩ : ∃ m, k = m + 1 := ⟨k - 1, by omega⟩
  have hw : (if f < 9223372036854775808 then f + 9223372036854775808 else f - 9223372036854775808) < 18446744073709551616 := by split <;> omega
  have key : ∀ x : Bool, x = decide (cl f = f) → engrosslaw4_DatumFloats.j0 (k + 1) (f : Int) x 1 f (⟨#[]⟩ : ByteArray) = some true := by
    intro x hx
    simp only [engrosslaw4_DatumFloats.j0]
    rw [may_is, xor63 hf, Int.toNat_natCast, eq_is 1 hf _ 1 hf _, eq_is 1 hf _ 1 hw _, rnan_is hf]
    simp only [Option.bind_some]
    have em : mayV 1 f (⟨#[]⟩ : ByteArray) = x := by
      unfold mayV
      rw [if_neg (by decide), if_pos rfl, nil_list, hx]
      simp
    have e1 : eqV 1 f (⟨#[]⟩ : ByteArray) 1 f (⟨#[]⟩ : ByteArray) = true := by simp [eqV]
    have inner : (if decide (9218868437227405312 < f % 9223372036854775808) = true then some true else some (!eqV 1 f (⟨#[]⟩ : ByteArray) 1 (if f < 9223372036854775808 then f + 9223372036854775808 else f - 9223372036854775808) (⟨#[]⟩ : ByteArray))) = some true := by
      by_cases hn : 9218868437227405312 < f % 9223372036854775808
      · rw [if_pos (by rw [decide_eq_true_eq]; exact hn)]
      · rw [if_neg (by rw [decide_eq_true_eq]; exact hn)]
        have e2 : eqV 1 f (⟨#[]⟩ : ByteArray) 1 (if f < 9223372036854775808 then f + 9223372036854775808 else f - 9223372036854775808) (⟨#[]⟩ : ByteArray) = false := by
          unfold eqV
          have : pl f ≠ pl (if f < 9223372036854775808 then f + 9223372036854775808 else f - 9223372036854775808) := by
            unfold pl
            rw [if_neg hn]
            by_cases hs : f < 9223372036854775808
            · rw [if_pos hs, if_pos hs, if_neg (by omega), if_neg (by omega)]; omega
            · rw [if_neg hs, if_neg hs, if_neg (by omega), if_pos (by omega)]; omega
          simp [this]
        rw [e2]
        rfl
    rw [em, if_pos (by simp), e1]
    clear em hx
    cases x
    · rw [if_neg (by decide)]; exact inner
    · rw [if_pos rfl, if_pos rfl]; exact inner
  by_cases hn : 9218868437227405312 < f % 9223372036854775808
  · rw [if_pos hn]
    apply key
    unfold cl
    rw [if_pos hn, Bool.eq_iff_iff]
    simp only [beq_iff_eq, decide_eq_true_eq]
    omega
  · rw [if_neg hn]
    apply key
    unfold cl
    rw [if_neg hn]
    simp
end Go.Proofs.Ythfpmpnedaliaaa.Pure
