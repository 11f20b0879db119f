/- What the reference's Get and GetText answer: the same as the program's. Condition: the rows stay below 2^47 bytes. -/
import Derived.Test.YtjhbeaffcdkhcaaNumR
import Derived.Test.YtjhbeaffcdkhcaaPx10
set_option linter.unusedVariables false
set_option linter.unusedSimpArgs false
namespace Go.Proofs.Ytjhbeaffcdkhcaa.Pure
open Go.RowKit Go.Proofs.Ytjhbeaffcdkhcaa.P Go.Proofs.YtjhbeaffcdkhcaaW.PrintWords Go.Proofs.YtjhbeaffcdkhcaaW.PrintLast Go.Proofs.YtjhbeaffcdkhcaaW.PrintMore

theorem rget_word {i u : Nat} {c : Int} (hb : 0 ≤ c ∧ c ≤ 255) (hi : i ≤ 9) (hu : u < 128 ^ i) (h : ¬ (i = 9 ∧ c > 1)) :
    IntKind.u64.wrap ((u : Int) + IntKind.u64.wrap (IntKind.u64.wrap (Int.tmod c 128) * ((128 ^ i : Nat) : Int))) = ((u + (c % 128).toNat * 128 ^ i : Nat) : Int) := by
  obtain ⟨h1, h2, h3⟩ := get_sum hb hi hu h
  rw [Int.tmod_eq_emod_of_nonneg (by omega), IntKind.wrap_u64, IntKind.wrap_u64, IntKind.wrap_u64]
  have e3 : c % 128 % 18446744073709551616 = (((c % 128).toNat : Nat) : Int) := by omega
  rw [e3, ← Int.natCast_mul]
  generalize (c % 128).toNat * 128 ^ i = q at h1 h2
  omega
theorem rget_l0 (l : List Int) (hl : ∀ c ∈ l, 0 ≤ c ∧ c ≤ 255) (hn : l.length ≤ 140737488355328) (d : Nat) : ∀ (k i u : Nat) (cs : List Int), l.drop i = cs → i ≤ l.length → 10 - i ≤ d → i ≤ 9 ∨ cs = [] → 2 * d + 2 < k → u < 128 ^ i →
    engrossref1_Get.l0 k l (u : Int) (((128 ^ i : Nat) : Int) % 18446744073709551616) (i : Int) = some (getL i u cs) := by
  induction d with
  | zero =>
    intro k i u cs hd hi hdi h9 hk hu
    obtain ⟨k, rfl⟩ : ∃ m, k = m + 1 := ⟨k - 1, by omega⟩
    rcases h9 with h9 | h9
    · omega
    · have : i = l.length := by
        rw [h9] at hd
        have := congrArg List.length hd
        simp at this
        omega
      simp only [engrossref1_Get.l0]
      rw [if_neg (by omega), h9]
      simp [getL]
  | succ d ih =>
    intro k i u cs hd hi hdi h9 hk hu
    obtain ⟨k, rfl⟩ : ∃ m, k = m + 1 := ⟨k - 1, by omega⟩
    cases cs with
    | nil =>
      have : i = l.length := by
        have := congrArg List.length hd
        simp at this
        omega
      simp only [engrossref1_Get.l0]
      rw [if_neg (by omega)]
      simp [getL]
    | cons c cs =>
      have h9 : i ≤ 9 := by
        rcases h9 with h9 | h9
        · exact h9
        · cases h9
      have hlt : i < l.length := by
        have := congrArg List.length hd
        simp at this
        omega
      have hcd : l[i] = c ∧ l.drop (i + 1) = cs := by
        have := List.getElem_cons_drop hlt
        rw [hd] at this
        exact List.cons.inj this
      have hr : rd l (i : Int) = c := by
        unfold rd
        rw [← hcd.1]
        simp [List.getD, hlt]
      have hb := hl c (by rw [← hcd.1]; exact List.getElem_mem hlt)
      obtain ⟨k, rfl⟩ : ∃ m, k = m + 1 := ⟨k - 1, by omega⟩
      have hk2 : 2 * d + 2 < k := by omega
      have hpow : ((128 ^ i : Nat) : Int) % 18446744073709551616 = ((128 ^ i : Nat) : Int) := by
        have h3 : 128 ^ i < 18446744073709551616 := by
          have h1 : (128 : Nat) ^ i ≤ 128 ^ 9 := Nat.pow_le_pow_right (by omega) h9
          rw [pow9] at h1
          omega
        generalize 128 ^ i = q at h3
        omega
      rw [hpow]
      simp only [engrossref1_Get.l0]
      rw [if_pos (by omega), hr]
      have key : ∀ x : Bool, (x = true ↔ (i = 9 ∧ c > 1) ∨ (i > 0 ∧ c = 0)) → engrossref1_Get.j1 (k + 1) l (u : Int) ((128 ^ i : Nat) : Int) (i : Int) x = some (getL i u (c :: cs)) := by
        intro x hx
        simp only [engrossref1_Get.j1, getL]
        by_cases h91 : i = 9 ∧ c > 1
        · rw [if_pos (hx.2 (.inl h91)), if_pos h91]
        · obtain ⟨_, hsum, _⟩ := get_sum hb h9 hu h91
          rw [if_neg h91]
          by_cases h0 : i > 0 ∧ c = 0
          · rw [if_pos (hx.2 (.inr h0)), if_neg (by omega), if_pos h0]
          · have hxf : ¬ x = true := fun h => (hx.1 h).elim h91 h0
            rw [if_neg hxf, if_pos (by omega), if_pos (by omega), hr, rget_word hb h9 hu h91, w64 (x := (i : Int) + 1) (by omega), show (i : Int) + 1 = ((i + 1 : Nat) : Int) from rfl]
            by_cases h127 : c > 127
            · rw [if_neg (show ¬ c < 128 by omega), if_pos h127]
              have hi8 : i ≤ 8 := by
                rcases Nat.lt_or_ge 8 i with h8 | h8
                · exfalso; apply h91; omega
                · exact h8
              have ew : IntKind.u64.wrap (((128 ^ i : Nat) : Int) * 128) = ((128 ^ (i + 1) : Nat) : Int) % 18446744073709551616 := by
                rw [IntKind.wrap_u64, Nat.pow_succ]
                generalize 128 ^ i = q
                omega
              rw [ew]
              refine ih k (i + 1) _ cs hcd.2 (by omega) (by omega) (.inl (by omega)) hk2 ?_
              rw [Nat.pow_succ]
              have h3 : (c % 128).toNat * 128 ^ i ≤ 127 * 128 ^ i := Nat.mul_le_mul_right _ (by omega)
              omega
            · rw [if_pos (show c < 128 by omega), if_neg h127, if_neg h0]
              generalize u + (c % 128).toNat * 128 ^ i = U at hsum
              have e1 : Int.tmod (U : Int) 2 = ((U % 2 : Nat) : Int) := by
                rw [Int.tmod_eq_emod_of_nonneg (by omega)]
                omega
              have e3 : Int.tdiv (U : Int) 2 = ((U / 2 : Nat) : Int) := by
                rw [Int.tdiv_eq_ediv_of_nonneg (by omega)]
                omega
              have e2 : IntKind.u64.wrap (Int.tdiv (U : Int) 2) = ((U / 2 : Nat) : Int) := by
                rw [e3, IntKind.wrap_u64]
                omega
              have e4 : IntKind.u64.wrap ((U : Int)) = (U : Int) := by rw [IntKind.wrap_u64]; omega
              have hU2 : IntKind.u64.wrap (Int.tmod (U : Int) 2) = ((U % 2 : Nat) : Int) := by rw [e1, IntKind.wrap_u64]; omega
              try rw [hU2]
              rw [e2]
              try rw [e1]
              have hq : U / 2 < 9223372036854775808 := by omega
              unfold unz
              clear e1 e2 e3 e4 hU2
              by_cases hodd : U % 2 = 1
              · rw [if_pos (by omega), if_pos hodd, w64 (x := ((U / 2 : Nat) : Int)) (by omega), w64 (x := -((U / 2 : Nat) : Int)) (by omega), w64 (x := -((U / 2 : Nat) : Int) - 1) (by omega)]
              · rw [if_neg (by omega), if_neg hodd, w64 (x := ((U / 2 : Nat) : Int)) (by omega)]
      by_cases hi9 : (i : Int) = 9
      · rw [if_pos hi9, if_pos (by omega)]
        by_cases h1 : c > 1
        · rw [if_pos h1]
          exact key _ (by simp only [true_iff]; omega)
        · rw [if_neg h1, if_pos (by omega)]
          exact key _ (by simp only [beq_iff_eq]; omega)
      · rw [if_neg hi9]
        by_cases h0 : (i : Int) > 0
        · rw [if_pos h0, if_pos (by omega)]
          exact key _ (by simp only [beq_iff_eq]; omega)
        · rw [if_neg h0]
          exact key _ (by simp only [Bool.false_eq_true, false_iff]; omega)
theorem rget_is {l : List Int} (hl : ∀ c ∈ l, 0 ≤ c ∧ c ≤ 255) (hn : l.length ≤ 140737488355328) {k : Nat} (hk : 24 ≤ k) : engrossref1_Get.f k l = some (getN l) := by
  unfold engrossref1_Get.f getN
  exact rget_l0 l hl hn 10 k 0 0 l rfl (by omega) (by omega) (.inl (by omega)) (by omega) (by decide)
theorem rgettext_is {l : List Int} (hl : ∀ c ∈ l, 0 ≤ c ∧ c ≤ 255) (hn : l.length ≤ 140737488355328) {k : Nat} (hk : 24 ≤ k) : engrossref1_GetText.f k l = some (getS l) := by
  obtain ⟨k, rfl⟩ : ∃ m, k = m + 1 := ⟨k - 1, by omega⟩
  unfold engrossref1_GetText.f getS
  rw [rget_is hl hn hk]
  simp only [Option.bind_some]
  by_cases h0 : (getN l).2.2 = 0
  · have hin := getN_in h0
    rw [if_pos h0, if_neg (show ¬ (getN l).2.2 ≠ 0 by simp [h0])]
    by_cases hneg : (getN l).1 < 0
    · rw [if_pos hneg, if_pos (.inl hneg)]
      simp only [engrossref1_GetText.j0]
      rw [if_pos trivial]
    · rw [if_neg hneg]
      simp only [engrossref1_GetText.j0, decide_eq_true_eq]
      by_cases hbig : (getN l).1 > 65536
      · rw [if_pos hbig, if_pos (.inr hbig)]
      · rw [if_neg hbig, if_neg (show ¬ ((getN l).1 < 0 ∨ (getN l).1 > 65536) by omega), w64 (x := (l.length : Int) - (getN l).2.1) (by omega), w64 (x := (getN l).2.1 + (getN l).1) (by omega)]
        by_cases hm : (getN l).1 > (l.length : Int) - (getN l).2.1
        · rw [if_pos hm, if_pos hm]
        · rw [if_neg hm, if_neg hm, if_pos (by omega), if_pos (by omega), if_pos (by omega)]
  · rw [if_neg h0, if_pos (show (getN l).2.2 ≠ 0 from h0)]
end Go.Proofs.Ytjhbeaffcdkhcaa.Pure
