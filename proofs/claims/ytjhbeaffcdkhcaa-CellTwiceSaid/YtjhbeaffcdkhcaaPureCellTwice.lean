/- CellTwice: written twice by one transaction a cell has what was written last: the plain statement of the law. -/
import Derived.Test.YtjhbeaffcdkhcaaCelB
import Derived.Test.YtjhbeaffcdkhcaaPx14
set_option linter.unusedVariables false
set_option linter.unusedSimpArgs false
namespace Go.Proofs.Ytjhbeaffcdkhcaa.Pure
open Go.RowKit Go.Proofs.Ytjhbeaffcdkhcaa.P Go.Proofs.YtjhbeaffcdkhcaaW.PrintWords Go.Proofs.YtjhbeaffcdkhcaaW.PrintLast Go.Proofs.YtjhbeaffcdkhcaaW.PrintMore
theorem CellTwice : engrosslaw10_CellTwice.Pure := by
  intro c y v w hc hy hv hw
  obtain ⟨k, hk⟩ : ∃ k : Nat, 100 ≤ k := ⟨100, Nat.le_refl _⟩
  refine ⟨k, ?_⟩
  unfold engrosslaw10_CellTwice.f
  rw [begun10 (by omega)]
  simp only [Option.bind_some, if_true]
  obtain ⟨s1, t1, u1, e1, hs1, ht1, hu1⟩ := cut10 c.f0 c.f1.f0 c.f1.f1 c.f1.f2 c.f2 c.f3.f0 c.f3.f1 c.f3.f2
  obtain ⟨t3, e3, ht3⟩ := val10 v.f0 v.f1 v.f2
  obtain ⟨t4, e4, ht4⟩ := val10 w.f0 w.f1 w.f2
  rw [e1, e3, e4]
  simp only [Option.bind_some]
  obtain ⟨_, ⟨_, f1, _⟩, _, ⟨_, g1, _⟩⟩ := hc
  obtain ⟨_, f3, _⟩ := hv
  obtain ⟨_, f4, _⟩ := hw
  generalize c.f1.f0 = a1 at *
  generalize c.f1.f1 = b1 at *
  generalize c.f2 = x1 at *
  generalize c.f3.f0 = c1 at *
  generalize c.f3.f1 = d1 at *
  generalize v.f0 = a3 at *
  generalize v.f1 = b3 at *
  generalize w.f0 = a4 at *
  generalize w.f1 = b4 at *
  have yes : engrosslaw10_CellTwice.j0 k y true s1 a1 b1 t1 x1 c1 d1 u1 a3 b3 t3 a4 b4 t4 = some true := by
    obtain ⟨k, rfl⟩ : ∃ m, k = m + 1 := ⟨k - 1, by omega⟩
    simp only [engrosslaw10_CellTwice.j0, if_true]
  rw [rmaycell_is _ _ f1 _ _ _ g1 _]
  simp only [Option.bind_some]
  by_cases hm : mayC s1 a1 b1 t1 x1 c1 d1 u1 = true
  · rw [if_pos hm]
    by_cases h0 : x1 = 0
    · rw [if_pos h0]
      by_cases h1 : y < 1
      · rw [if_pos h1]; exact yes
      · rw [if_neg h1]
        by_cases h2 : y > 1099511627776
        · rw [if_pos h2]; exact yes
        · rw [if_neg h2, rmay_is _ f3 _, rmay_is _ f4 _]
          simp only [Option.bind_some]
          by_cases h3 : mayV a3 b3 t3 = true
          · rw [if_pos h3]
            by_cases h4 : mayV a4 b4 t4 = true
            · rw [h4]
              obtain ⟨k, rfl⟩ : ∃ m, k = m + 1 := ⟨k - 1, by omega⟩
              simp only [engrosslaw10_CellTwice.j0, Bool.not_true]
              rw [if_neg (by decide)]
              obtain ⟨_, m3, m4, _, _, m5⟩ := mayC_cases hm
              obtain ⟨n1, n2⟩ : c1 = 0 ∧ a1 ≠ 0 := by omega
              obtain ⟨rfl, rfl⟩ := mayV_none m4 n1
              subst n1
              subst h0
              simp only [of10, write10, see10, undo10, commit10, Option.bind_some]
              have s0 : seeC a1 b1 t1 y a4 b4 t4 y = (a4, b4, t4) := by unfold seeC; rw [if_pos ⟨by omega, rfl⟩]
              have s1' : seeC a1 b1 t1 y a4 b4 t4 (wrap64 (y + 1)) = (a1, b1, t1) := by
                rw [w64 (x := y + 1) (by omega)]
                unfold seeC
                rw [if_neg (fun e => by omega)]
              have l1 : leftC s1 a1 b1 t1 = (s1, a1, b1, t1, 0, 0, 0, (⟨#[]⟩ : ByteArray), true) := by unfold leftC; rw [if_neg n2]
              rw [s0, s1', l1, if_pos (show y > 0 by omega)]
              simp only [if_true]
              rw [eqcell_is _ _ f1 _ _ _ (by decide) _ _ _ f1 _ _ _ (by decide) _, eqC_self]
              simp only [Option.bind_some, if_true]
              rw [req_is _ f4 _ _ f4 _, eqV_self, req_is _ f1 _ _ f1 _, eqV_self]
              simp only [Option.bind_some, if_true]
              by_cases h5 : a4 = 0
              · have l2 : leftC s1 a4 b4 t4 = ((⟨#[]⟩ : ByteArray), 0, 0, (⟨#[]⟩ : ByteArray), 0, 0, 0, (⟨#[]⟩ : ByteArray), false) := by unfold leftC; rw [if_pos h5]
                rw [l2]
                dsimp only
                rw [if_pos (by rw [h5]; decide), if_neg (by decide)]
              · have l2 : leftC s1 a4 b4 t4 = (s1, a4, b4, t4, 0, 0, 0, (⟨#[]⟩ : ByteArray), true) := by unfold leftC; rw [if_neg h5]
                rw [l2]
                dsimp only
                rw [if_pos (by simpa using h5), if_pos rfl, req_is _ f4 _ _ f4 _, eqV_self]
                rfl
            · rw [Bool.eq_false_iff.2 h4]; exact yes
          · rw [if_neg h3]; exact yes
    · rw [if_neg h0]; exact yes
  · rw [if_neg hm]; exact yes
end Go.Proofs.Ytjhbeaffcdkhcaa.Pure
