/- CellBytes: cells go to bytes and back; two have one text just if they are the same: the plain statement of the law. -/
import Derived.Test.YtjhbeaffcdkhcaaCelB
import Derived.Test.YtjhbeaffcdkhcaaPx9
set_option linter.unusedVariables false
set_option linter.unusedSimpArgs false
namespace Go.Proofs.Ytjhbeaffcdkhcaa.Pure
open Go.RowKit Go.Proofs.Ytjhbeaffcdkhcaa.P Go.Proofs.YtjhbeaffcdkhcaaW.PrintWords Go.Proofs.YtjhbeaffcdkhcaaW.PrintLast Go.Proofs.YtjhbeaffcdkhcaaW.PrintMore
theorem CellBytes : engrosslaw10_CellBytes.Pure := by
  intro c d ahead rest hc hd ha hr
  obtain ⟨k, hk⟩ : ∃ k : Nat, 100 ≤ k := ⟨100, Nat.le_refl _⟩
  refine ⟨k, ?_⟩
  unfold engrosslaw10_CellBytes.f
  rw [begun10 (by omega)]
  simp only [Option.bind_some, if_true]
  obtain ⟨s1, t1, u1, e1, hs1, ht1, hu1⟩ := cut10 c.f0 c.f1.f0 c.f1.f1 c.f1.f2 c.f2 c.f3.f0 c.f3.f1 c.f3.f2
  obtain ⟨s2, t2, u2, e2, hs2, ht2, hu2⟩ := cut10 d.f0 d.f1.f0 d.f1.f1 d.f1.f2 d.f2 d.f3.f0 d.f3.f1 d.f3.f2
  rw [e1, e2, show (10 : Int) = ((10 : Nat) : Int) from rfl, short_is, short_is]
  simp only [Option.bind_some]
  obtain ⟨_, ⟨_, f1, _⟩, _, ⟨_, g1, _⟩⟩ := hc
  obtain ⟨_, ⟨_, f2, _⟩, _, ⟨_, g2, _⟩⟩ := hd
  have hab : ∀ c ∈ ahead.take 10, 0 ≤ c ∧ c ≤ 255 := fun c hc => wf_u8 (ha.2 c (List.mem_of_mem_take hc))
  have hal : (ahead.take 10).length ≤ 10 := by rw [List.length_take]; omega
  have hrb : ∀ c ∈ rest.take 10, 0 ≤ c ∧ c ≤ 255 := fun c hc => wf_u8 (hr.2 c (List.mem_of_mem_take hc))
  have hrl : (rest.take 10).length ≤ 10 := by rw [List.length_take]; omega
  generalize ahead.take 10 = A at hab hal
  generalize rest.take 10 = R at hrb hrl
  generalize c.f1.f0 = a1 at *
  generalize c.f1.f1 = b1 at *
  generalize c.f2 = x1 at *
  generalize c.f3.f0 = c1 at *
  generalize c.f3.f1 = d1 at *
  generalize d.f1.f0 = a2 at *
  generalize d.f1.f1 = b2 at *
  generalize d.f2 = x2 at *
  generalize d.f3.f0 = c2 at *
  generalize d.f3.f1 = d2 at *
  rw [rmaycell_is _ _ f1 _ _ _ g1 _]
  simp only [Option.bind_some]
  by_cases hm : mayC s1 a1 b1 t1 x1 c1 d1 u1 = true
  · rw [if_pos hm]
    obtain ⟨_, v1, w1, z0, z1, _⟩ := mayC_cases hm
    have hx := txn_wf z0 z1
    have p1 := (mayV_wf v1).1
    have p2 := (mayV_wf w1).1
    have hl := putC_len (f := b1) (f' := d1) (s := s1) (t := t1) (t' := u1) (by omega) p1 (by omega) hx p2 (by omega)
    have hb := putC_bytes (f := b1) (f' := d1) (s := s1) (t := t1) (t' := u1) (by omega) p1 (by omega) hx p2 (by omega)
    rw [if_pos (by simp; omega)]
    simp only [of10, Option.bind_some, List.nil_append]
    rw [putcell_is (by omega) p1 f1 (by omega) hx p2 g1 (by omega) (by omega) (by omega)]
    simp only [Option.bind_some]
    rw [rbytes_cell (by omega) p1 f1 (by omega) hx p2 g1 (by omega) (by omega)]
    simp only [Option.bind_some]
    rw [if_pos (by rw [strOfNums_size, strOfNums_size]; omega), if_pos (str_app _ _), if_pos (by omega), if_pos (by simp only [List.length_append]; omega)]
    rw [Int.toNat_natCast, List.drop_left, if_pos (by simp; omega), if_pos (by omega), getcell_is (app_in hb hrb) (by rw [List.length_append]; omega) (by omega), getC_putC hm f1 g1]
    simp only [Option.bind_some, back10]
    rw [if_pos trivial, w64 (x := ((A ++ putC s1 a1 b1 t1 x1 c1 d1 u1).length : Int) - A.length) (by simp only [List.length_append]; omega), if_pos (by simp only [List.length_append]; omega)]
    rw [reqcell_is _ _ f1 _ _ _ g1 _ _ _ f1 _ _ _ g1 _, eqC_self]
    simp only [Option.bind_some, Bool.not_true]
    obtain ⟨k, rfl⟩ : ∃ m, k = m + 1 := ⟨k - 1, by omega⟩
    simp only [engrosslaw10_CellBytes.j0]
    rw [if_neg (by decide), rmaycell_is _ _ f2 _ _ _ g2 _]
    simp only [Option.bind_some]
    by_cases hm2 : mayC s2 a2 b2 t2 x2 c2 d2 u2 = true
    · rw [if_pos hm2]
      obtain ⟨_, v2, w2, y0, y1, _⟩ := mayC_cases hm2
      have hx2 := txn_wf y0 y1
      have q1 := (mayV_wf v2).1
      have q2 := (mayV_wf w2).1
      have hb2 := putC_bytes (f := b2) (f' := d2) (s := s2) (t := t2) (t' := u2) (by omega) q1 (by omega) hx2 q2 (by omega)
      simp only [of10, Option.bind_some]
      rw [putcell_is (by omega) q1 f2 (by omega) hx2 q2 g2 (by omega) (by omega) (by simp), List.nil_append]
      simp only [Option.bind_some]
      rw [if_pos (by omega), if_pos (by simp only [List.length_append]; omega), reqcell_is _ _ f1 _ _ _ g1 _ _ _ f2 _ _ _ g2 _]
      simp only [Option.bind_some, Int.toNat_natCast, List.drop_left]
      congr 1
      rw [beq_iff_eq, Bool.eq_iff_iff, eqC_iff hm hm2 f1 g1 f2 g2, beq_iff_eq]
      rw [str_inj hb2 hb]
      exact ⟨fun h => h.symm, fun h => h.symm⟩
    · rw [if_neg hm2]
  · rw [if_neg hm]
end Go.Proofs.Ytjhbeaffcdkhcaa.Pure
