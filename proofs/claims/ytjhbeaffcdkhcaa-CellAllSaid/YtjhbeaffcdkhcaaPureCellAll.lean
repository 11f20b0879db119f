/- CellAll: which cells may be; who sees what; written, committed, undone: the plain statement of the law. -/
import Derived.Test.YtjhbeaffcdkhcaaCelB
import Derived.Test.YtjhbeaffcdkhcaaPx7
set_option linter.unusedVariables false
set_option linter.unusedSimpArgs false
namespace Go.Proofs.Ytjhbeaffcdkhcaa.Pure
open Go.RowKit Go.Proofs.Ytjhbeaffcdkhcaa.P Go.Proofs.YtjhbeaffcdkhcaaW.PrintWords Go.Proofs.YtjhbeaffcdkhcaaW.PrintLast Go.Proofs.YtjhbeaffcdkhcaaW.PrintMore
theorem CellAll : engrosslaw10_CellAll.Pure := by
  intro c d y v hc hd hy hv
  obtain ⟨k, hk⟩ : ∃ k : Nat, 100 ≤ k := ⟨100, Nat.le_refl _⟩
  refine ⟨k, ?_⟩
  unfold engrosslaw10_CellAll.f
  rw [begun10 (by omega)]
  simp only [Option.bind_some, if_true]
  obtain ⟨s1, t1, u1, e1, hs1, ht1, hu1⟩ := cut10 c.f0 c.f1.f0 c.f1.f1 c.f1.f2 c.f2 c.f3.f0 c.f3.f1 c.f3.f2
  obtain ⟨s2, t2, u2, e2, hs2, ht2, hu2⟩ := cut10 d.f0 d.f1.f0 d.f1.f1 d.f1.f2 d.f2 d.f3.f0 d.f3.f1 d.f3.f2
  obtain ⟨t3, e3, ht3⟩ := val10 v.f0 v.f1 v.f2
  rw [e1, e2, e3]
  obtain ⟨_, ⟨_, f1, _⟩, _, ⟨_, g1, _⟩⟩ := hc
  obtain ⟨_, ⟨_, f2, _⟩, _, ⟨_, g2, _⟩⟩ := hd
  obtain ⟨_, f3, _⟩ := hv
  generalize c.f1.f0 = a1 at *
  generalize c.f1.f1 = b1 at *
  generalize c.f2 = x1 at *
  generalize c.f3.f0 = c1 at *
  generalize c.f3.f1 = d1 at *
  generalize d.f1.f0 = a2 at *
  generalize d.f1.f1 = b2 at *
  generalize d.f2 = x2 at *
  generalize d.f3.f0 = c2 at *
  generalize d.f3.f1 = d2 at *
  generalize v.f0 = a3 at *
  generalize v.f1 = b3 at *
  have ebb : ∀ x : Bool, (x != x) = false := by decide
  simp only [Option.bind_some, of10]
  rw [maycell_is _ _ _ _ _ _ _ _ (by omega), maycell_is _ _ _ _ _ _ _ _ (by omega), rmaycell_is _ _ f1 _ _ _ g1 _, rmaycell_is _ _ f2 _ _ _ g2 _]
  simp only [Option.bind_some]
  rw [ebb, ebb, if_neg (by decide)]
  obtain ⟨k, rfl⟩ : ∃ m, k = m + 1 := ⟨k - 1, by omega⟩
  simp only [engrosslaw10_CellAll.j0]
  rw [if_neg (by decide), rmaycell_is _ _ f1 _ _ _ g1 _]
  simp only [Option.bind_some]
  by_cases hm : mayC s1 a1 b1 t1 x1 c1 d1 u1 = true
  · rw [if_pos hm]
    simp only [of10, Option.bind_some, see10, rsee10]
    rw [req_is _ (seeC_lt f1 g1) _ _ (seeC_lt f1 g1) _]
    simp only [Option.bind_some]
    rw [if_pos (eqV_self _ _ _), rmaycell_is _ _ f2 _ _ _ g2 _]
    simp only [Option.bind_some]
    have key : ∀ k : Nat, 20 ≤ k → engrosslaw10_CellAll.j1 k y false s1 a1 b1 t1 x1 c1 d1 u1 a3 b3 t3 = some true := by
      intro k hk
      obtain ⟨k, rfl⟩ : ∃ m, k = m + 1 := ⟨k - 1, by omega⟩
      simp only [engrosslaw10_CellAll.j1]
      rw [if_neg (by decide)]
      simp only [of10, Option.bind_some, undo10, commit10, rundo10, rcommit10 hm]
      rw [ebb, ebb, if_neg (by decide), if_neg (by decide)]
      have hl : (if x1 > 0 then leftC s1 c1 d1 u1 else leftC s1 a1 b1 t1).2.2.1 < 18446744073709551616 ∧ (if x1 > 0 then leftC s1 c1 d1 u1 else leftC s1 a1 b1 t1).2.2.2.2.2.2.1 < 18446744073709551616 := by
        split
        · exact leftC_lt g1
        · exact leftC_lt f1
      generalize (if x1 > 0 then leftC s1 c1 d1 u1 else leftC s1 a1 b1 t1) = L at hl
      have hl2 := leftC_lt (s := s1) (kd := a1) (t := t1) f1
      generalize leftC s1 a1 b1 t1 = M at hl2
      simp only [back10, Option.bind_some]
      rw [reqcell_is _ _ hl.1 _ _ _ hl.2 _ _ _ hl.1 _ _ _ hl.2 _, reqcell_is _ _ hl2.1 _ _ _ hl2.2 _ _ _ hl2.1 _ _ _ hl2.2 _, eqC_self, eqC_self]
      simp only [Option.bind_some, if_true, Bool.not_true]
      obtain ⟨k, rfl⟩ : ∃ m, k = m + 1 := ⟨k - 1, by omega⟩
      simp only [engrosslaw10_CellAll.j2]
      rw [if_neg (by decide)]
      obtain ⟨k, rfl⟩ : ∃ m, k = m + 1 := ⟨k - 1, by omega⟩
      simp only [engrosslaw10_CellAll.j3, if_true]
      split
      · rfl
      · split
        · rfl
        · rw [rmay_is _ f3 _]
          simp only [Option.bind_some]
          cases mayV a3 b3 t3
          · rfl
          · rw [if_neg (by decide)]
            simp only [of10, write10, back10, Option.bind_some]
            rw [if_pos trivial, if_pos trivial, req_is _ f1 _ _ f1 _, req_is _ f3 _ _ f3 _, eqV_self, eqV_self]
            rfl
    by_cases hm2 : mayC s2 a2 b2 t2 x2 c2 d2 u2 = true
    · rw [if_pos hm2, eqcell_is _ _ f1 _ _ _ g1 _ _ _ f2 _ _ _ g2 _, reqcell_is _ _ f1 _ _ _ g1 _ _ _ f2 _ _ _ g2 _]
      simp only [Option.bind_some]
      rw [ebb]
      exact key k (by omega)
    · rw [if_neg hm2]
      exact key k (by omega)
  · rw [if_neg hm]
end Go.Proofs.Ytjhbeaffcdkhcaa.Pure
