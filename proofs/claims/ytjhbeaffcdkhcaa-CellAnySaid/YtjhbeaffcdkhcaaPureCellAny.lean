/- CellAny: any bytes begin with a cell, or not; those of a cell, changed, too: the plain statement of the law. -/
import Derived.Test.YtjhbeaffcdkhcaaCelB
import Derived.Test.YtjhbeaffcdkhcaaPx12
set_option linter.unusedVariables false
set_option linter.unusedSimpArgs false
namespace Go.Proofs.Ytjhbeaffcdkhcaa.Pure
open Go.RowKit Go.Proofs.Ytjhbeaffcdkhcaa.P Go.Proofs.YtjhbeaffcdkhcaaW.PrintWords Go.Proofs.YtjhbeaffcdkhcaaW.PrintLast Go.Proofs.YtjhbeaffcdkhcaaW.PrintMore
theorem tells10 {l : List Int} (hl : ∀ c ∈ l, 0 ≤ c ∧ c ≤ 255) (hn : l.length ≤ 140737488355328) {k : Nat} (hk : 60 ≤ k) : engrosslaw10_tells.f k l = some true := by
  unfold engrosslaw10_tells.f
  rw [getcell_is hl hn hk, rreadcell_is hl hn hk]
  simp only [Option.bind_some, back10]
  have h := getC_lt hl
  rw [if_pos trivial, if_pos trivial, reqcell_is _ _ h.1 _ _ _ h.2 _ _ _ h.1 _ _ _ h.2 _, eqC_self]
  rfl
theorem xor_u8 {a b : Int} (ha : 0 ≤ a ∧ a ≤ 255) (hb : 0 ≤ b ∧ b ≤ 255) : 0 ≤ Go.bits .xor .u8 a b ∧ Go.bits .xor .u8 a b ≤ 255 := by
  rw [u8_xor a b ha.1 (by omega) hb.1 (by omega)]
  have := Nat.xor_lt_two_pow (n := 8) (show a.toNat < 2 ^ 8 by omega) (show b.toNat < 2 ^ 8 by omega)
  omega
theorem CellAny : engrosslaw10_CellAny.Pure := by
  intro b c at_ x hb hc hat hx
  obtain ⟨k, hk⟩ : ∃ k : Nat, 100 ≤ k := ⟨100, Nat.le_refl _⟩
  refine ⟨k, ?_⟩
  unfold engrosslaw10_CellAny.f
  rw [begun10 (by omega)]
  simp only [Option.bind_some, if_true]
  obtain ⟨s1, t1, u1, e1, hs1, ht1, hu1⟩ := cut10 c.f0 c.f1.f0 c.f1.f1 c.f1.f2 c.f2 c.f3.f0 c.f3.f1 c.f3.f2
  rw [e1, show (60 : Int) = ((60 : Nat) : Int) from rfl, short_is]
  simp only [Option.bind_some]
  obtain ⟨_, ⟨_, f1, _⟩, _, ⟨_, g1, _⟩⟩ := hc
  have hbb : ∀ c ∈ b.take 60, 0 ≤ c ∧ c ≤ 255 := fun c hc => wf_u8 (hb.2 c (List.mem_of_mem_take hc))
  have hbl : (b.take 60).length ≤ 60 := by rw [List.length_take]; omega
  generalize b.take 60 = B at hbb hbl
  generalize c.f1.f0 = a1 at *
  generalize c.f1.f1 = b1 at *
  generalize c.f2 = x1 at *
  generalize c.f3.f0 = c1 at *
  generalize c.f3.f1 = d1 at *
  rw [tells10 hbb (by omega) (by omega), rmaycell_is _ _ f1 _ _ _ g1 _]
  simp only [Option.bind_some, if_true]
  have yes : engrosslaw10_CellAny.j0 k at_ x true s1 a1 b1 t1 x1 c1 d1 u1 = some true := by
    obtain ⟨k, rfl⟩ : ∃ m, k = m + 1 := ⟨k - 1, by omega⟩
    simp only [engrosslaw10_CellAny.j0, if_true]
  by_cases hm : mayC s1 a1 b1 t1 x1 c1 d1 u1 = true
  · rw [if_pos hm]
    by_cases h0 : at_ < 0
    · rw [decide_eq_true h0]; exact yes
    · rw [decide_eq_false h0]
      obtain ⟨k, rfl⟩ : ∃ m, k = m + 1 := ⟨k - 1, by omega⟩
      simp only [engrosslaw10_CellAny.j0]
      rw [if_neg (by decide)]
      obtain ⟨_, v1, w1, z0, z1, _⟩ := mayC_cases hm
      have hxx := txn_wf z0 z1
      have p1 := (mayV_wf v1).1
      have p2 := (mayV_wf w1).1
      have hl := putC_len (f := b1) (f' := d1) (s := s1) (t := t1) (t' := u1) (by omega) p1 (by omega) hxx p2 (by omega)
      have hpb := putC_bytes (f := b1) (f' := d1) (s := s1) (t := t1) (t' := u1) (by omega) p1 (by omega) hxx p2 (by omega)
      rw [rbytes_cell (by omega) p1 f1 (by omega) hxx p2 g1 (by omega) (by omega)]
      simp only [Option.bind_some]
      generalize putC s1 a1 b1 t1 x1 c1 d1 u1 = p at hl hpb
      have et : Int.tmod at_ (p.length : Int) = at_ % (p.length : Int) := Int.tmod_eq_emod_of_nonneg (by omega)
      have i0 : 0 ≤ at_ % (p.length : Int) := Int.emod_nonneg _ (by omega)
      have i1 : at_ % (p.length : Int) < p.length := Int.emod_lt_of_pos _ (by omega)
      rw [et, if_neg (by omega), if_pos i0, if_pos i1]
      obtain ⟨i, hi⟩ : ∃ i : Nat, at_ % (p.length : Int) = i := ⟨(at_ % (p.length : Int)).toNat, by omega⟩
      rw [hi] at i0 i1 ⊢
      have hx8 := wf_u8 hx
      have hrd : 0 ≤ rd p (i : Int) ∧ rd p (i : Int) ≤ 255 := by
        unfold rd
        have : p.getD ((i : Int)).toNat 0 = p[i]'(by omega) := by simp [List.getD, show i < p.length by omega]
        rw [this]
        exact hpb _ (List.getElem_mem _)
      have hset : ∀ c ∈ p.set ((i : Int)).toNat (Go.bits .xor .u8 (rd p (i : Int)) x), 0 ≤ c ∧ c ≤ 255 := by
        intro c hc
        rcases List.mem_or_eq_of_mem_set hc with h | h
        · exact hpb c h
        · rw [h]; exact xor_u8 hrd hx8
      rw [tells10 hset (by rw [List.length_set]; omega) (by omega)]
      simp only [Option.bind_some, if_true]
      rw [if_pos (by omega), tells10 (fun c hc => hset c (List.mem_of_mem_take hc)) (by rw [List.length_take, List.length_set]; omega) (by omega)]
      rfl
  · rw [if_neg hm]; exact yes
end Go.Proofs.Ytjhbeaffcdkhcaa.Pure
