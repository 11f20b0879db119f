/- CellWho: only who wrote a cell sees what it wrote: the plain statement of the law. -/
import Derived.Test.YtjhbeaffcdkhcaaCelB
import Derived.Test.YtjhbeaffcdkhcaaPx13
set_option linter.unusedVariables false
set_option linter.unusedSimpArgs false
namespace Go.Proofs.Ytjhbeaffcdkhcaa.Pure
open Go.RowKit Go.Proofs.Ytjhbeaffcdkhcaa.P Go.Proofs.YtjhbeaffcdkhcaaW.PrintWords Go.Proofs.YtjhbeaffcdkhcaaW.PrintLast Go.Proofs.YtjhbeaffcdkhcaaW.PrintMore
theorem CellWho : engrosslaw10_CellWho.Pure := by
  intro c y z v hc hy hz hv
  obtain ⟨k, hk⟩ : ∃ k : Nat, 100 ≤ k := ⟨100, Nat.le_refl _⟩
  refine ⟨k, ?_⟩
  unfold engrosslaw10_CellWho.f
  rw [begun10 (by omega)]
  simp only [Option.bind_some, if_true]
  obtain ⟨s1, t1, u1, e1, hs1, ht1, hu1⟩ := cut10 c.f0 c.f1.f0 c.f1.f1 c.f1.f2 c.f2 c.f3.f0 c.f3.f1 c.f3.f2
  obtain ⟨t3, e3, ht3⟩ := val10 v.f0 v.f1 v.f2
  rw [e1, e3]
  simp only [Option.bind_some]
  obtain ⟨_, ⟨_, f1, _⟩, _, ⟨_, g1, _⟩⟩ := hc
  obtain ⟨_, f3, _⟩ := hv
  generalize c.f1.f0 = a1 at *
  generalize c.f1.f1 = b1 at *
  generalize c.f2 = x1 at *
  generalize c.f3.f0 = c1 at *
  generalize c.f3.f1 = d1 at *
  generalize v.f0 = a3 at *
  generalize v.f1 = b3 at *
  have yes : engrosslaw10_CellWho.j0 k y z true s1 a1 b1 t1 x1 c1 d1 u1 a3 b3 t3 = some true := by
    obtain ⟨k, rfl⟩ : ∃ m, k = m + 1 := ⟨k - 1, by omega⟩
    simp only [engrosslaw10_CellWho.j0, if_true]
  rw [rmaycell_is _ _ f1 _ _ _ g1 _]
  simp only [Option.bind_some]
  by_cases hm : mayC s1 a1 b1 t1 x1 c1 d1 u1 = true
  · rw [if_pos hm]
    by_cases h0 : x1 = 0
    · rw [if_pos h0]
      by_cases h1 : y < 1
      · rw [if_pos h1]; exact yes
      · rw [if_neg h1]
        by_cases h2 : y > 1099511627776
        · rw [if_pos h2]; exact yes
        · rw [if_neg h2]
          by_cases h3 : y = z
          · rw [if_pos h3]; exact yes
          · rw [if_neg h3, rmay_is _ f3 _]
            simp only [Option.bind_some]
            by_cases h4 : mayV a3 b3 t3 = true
            · rw [h4]
              obtain ⟨k, rfl⟩ : ∃ m, k = m + 1 := ⟨k - 1, by omega⟩
              simp only [engrosslaw10_CellWho.j0, Bool.not_true]
              rw [if_neg (by decide)]
              simp only [of10, write10, see10, Option.bind_some]
              have s0 : seeC a1 b1 t1 y a3 b3 t3 y = (a3, b3, t3) := by unfold seeC; rw [if_pos ⟨by omega, rfl⟩]
              have s1' : seeC a1 b1 t1 y a3 b3 t3 z = (a1, b1, t1) := by unfold seeC; rw [if_neg (fun e => h3 e.2)]
              have s2' : seeC a1 b1 t1 y a3 b3 t3 0 = (a1, b1, t1) := by unfold seeC; rw [if_neg (fun e => by omega)]
              rw [s0, s1', s2']
              rw [req_is _ f3 _ _ f3 _, eqV_self, req_is _ f1 _ _ f1 _, eqV_self]
              simp only [Option.bind_some, if_true]
              obtain ⟨⟨m1, m2⟩, m3, _⟩ := mayC_cases hm
              have hmx : mayC s1 a1 b1 t1 y a3 b3 t3 = true := by
                unfold mayC mayK
                rw [m3, h4, decide_eq_true m1, decide_eq_true m2, decide_eq_true (show 0 ≤ y by omega), decide_eq_true (show y ≤ 1099511627776 by omega), decide_eq_true (show 0 < y by omega)]
                rfl
              rw [maycell_is _ _ _ _ _ _ _ _ (by omega), hmx]
              simp only [Option.bind_some, if_true]
              rw [eqcell_is _ _ f1 _ _ _ f3 _ _ _ f1 _ _ _ f3 _, eqC_self]
              rfl
            · rw [Bool.eq_false_iff.2 h4]; exact yes
    · rw [if_neg h0]; exact yes
  · rw [if_neg hm]; exact yes
end Go.Proofs.Ytjhbeaffcdkhcaa.Pure
