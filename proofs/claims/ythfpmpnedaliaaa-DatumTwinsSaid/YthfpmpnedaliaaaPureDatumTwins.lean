/- DatumTwins: values are the same if their bytes are: the plain statement of the law. -/
import Derived.Test.YthfpmpnedaliaaaDatB
import Derived.Test.YthfpmpnedaliaaaPx8
set_option linter.unusedVariables false
set_option linter.unusedSimpArgs false
namespace Go.Proofs.Ythfpmpnedaliaaa.Pure
open Go.RowKit Go.Proofs.Ythfpmpnedaliaaa.P Go.Proofs.YthfpmpnedaliaaaW.PrintWords Go.Proofs.YthfpmpnedaliaaaW.PrintLast Go.Proofs.YthfpmpnedaliaaaW.PrintMore
theorem eqV_iff {kd : Int} {f : Nat} {s : ByteArray} {kd' : Int} {f' : Nat} {s' : ByteArray} (h : mayV kd f s = true) (h' : mayV kd' f' s' = true) (hf : f < 18446744073709551616) (hf' : f' < 18446744073709551616) : eqV kd f s kd' f' s' = true ↔ putV kd f s = putV kd' f' s' := by
  constructor
  · intro he
    unfold eqV at he
    simp only [Bool.and_eq_true, decide_eq_true_eq] at he
    obtain ⟨⟨rfl, hs⟩, hp⟩ := he
    have hs2 : s = s' := by
      rw [Go.ByteArray.toList_eq, Go.ByteArray.toList_eq] at hs
      exact ByteArray.ext (Array.toList_inj.1 hs)
    subst hs2
    unfold putV tailV
    rw [hp]
  · intro he
    have e1 := getV_putV h hf []
    have e2 := getV_putV h' hf' []
    rw [he, e2] at e1
    simp only [Prod.mk.injEq] at e1
    obtain ⟨rfl, rfl, rfl, _, _⟩ := e1
    simp [eqV]
theorem eqV_comm (kd : Int) (f : Nat) (s : ByteArray) (kd' : Int) (f' : Nat) (s' : ByteArray) : eqV kd f s kd' f' s' = eqV kd' f' s' kd f s := by
  unfold eqV
  rw [Bool.eq_iff_iff]
  simp only [Bool.and_eq_true, decide_eq_true_eq]
  constructor
  · rintro ⟨⟨h1, h2⟩, h3⟩; exact ⟨⟨h1.symm, h2.symm⟩, h3.symm⟩
  · rintro ⟨⟨h1, h2⟩, h3⟩; exact ⟨⟨h1.symm, h2.symm⟩, h3.symm⟩
theorem DatumTwins : engrosslaw4_DatumTwins.Pure := by
  intro kd b s kd' b' s' hkd hb _ hkd' hb' _
  obtain ⟨k, hk⟩ : ∃ k : Nat, 70 ≤ k := ⟨70, Nat.le_refl _⟩
  refine ⟨k, ?_⟩
  unfold engrosslaw4_DatumTwins.f
  rw [begun4 (by omega)]
  simp only [Option.bind_some, if_true]
  obtain ⟨t, et, ht⟩ := val_is kd b s
  obtain ⟨t', et', ht'⟩ := val_is kd' b' s'
  rw [et, et']
  simp only [Option.bind_some]
  have hf := toNat_lt hb
  generalize b.toNat = f at hf
  have hf' := toNat_lt hb'
  generalize b'.toNat = f' at hf'
  rw [rmay_is kd hf t, rmay_is kd' hf' t']
  simp only [Option.bind_some]
  obtain ⟨k, rfl⟩ : ∃ m, k = m + 1 := ⟨k - 1, by omega⟩
  simp only [engrosslaw4_DatumTwins.j0]
  by_cases hm : mayV kd f t = true
  · rw [if_pos hm]
    by_cases hm' : mayV kd' f' t' = true
    · rw [hm']
      rw [if_neg (by decide), dput_is hkd hf (by omega) (by omega) (by simp), List.nil_append, dput_is hkd' hf' (by omega) (by omega) (by simp), List.nil_append, eq_is kd hf t kd' hf' t', eq_is kd' hf' t' kd hf t]
      simp only [Option.bind_some]
      have key : ((strOfNums (putV kd f t)).toList == (strOfNums (putV kd' f' t')).toList) = eqV kd f t kd' f' t' := by
        rw [Bool.eq_iff_iff, eqV_iff hm hm' hf hf', beq_iff_eq]
        exact str_inj (putV_bytes hkd f (by omega)) (putV_bytes hkd' f' (by omega))
      rw [key, if_pos (by simp), eqV_comm kd f t kd' f' t']
      simp
    · rw [Bool.eq_false_iff.2 hm']
      rw [if_pos (by decide)]
  · rw [if_neg hm]
    rw [if_pos trivial]
end Go.Proofs.Ythfpmpnedaliaaa.Pure
