/- CellShort: committed or undone a cell is no longer than it was: the plain statement of the law. -/
import Derived.Test.YtjhbeaffcdkhcaaCelB
import Derived.Test.YtjhbeaffcdkhcaaPx12
set_option linter.unusedVariables false
set_option linter.unusedSimpArgs false
namespace Go.Proofs.Ytjhbeaffcdkhcaa.Pure
open Go.RowKit Go.Proofs.Ytjhbeaffcdkhcaa.P Go.Proofs.YtjhbeaffcdkhcaaW.PrintWords Go.Proofs.YtjhbeaffcdkhcaaW.PrintLast Go.Proofs.YtjhbeaffcdkhcaaW.PrintMore
theorem putN_zero : (putN 0).length = 1 := by unfold putN; rw [show zz 0 = 0 from rfl, enc_lo (by omega)]; rfl
theorem left_short {s : ByteArray} {kd : Int} {f : Nat} {t : ByteArray} {x : Int} {kd' : Int} {f' : Nat} {t' : ByteArray} (hx : (Lit.int .i64 x).wf = true) : (putC s kd f t 0 0 0 (⟨#[]⟩ : ByteArray)).length ≤ (putC s kd f t x kd' f' t').length ∧ (x > 0 → (putC s kd' f' t' 0 0 0 (⟨#[]⟩ : ByteArray)).length ≤ (putC s kd f t x kd' f' t').length) := by
  have h0 := putN_zero
  have h1 := (putN_len hx).2
  unfold putC
  constructor
  · rw [if_neg (by decide)]
    simp only [List.length_append, List.length_nil]
    omega
  · intro h
    rw [if_neg (by decide), if_pos h]
    simp only [List.length_append, List.length_nil]
    omega
theorem CellShort : engrosslaw10_CellShort.Pure := by
  intro c hc
  obtain ⟨k, hk⟩ : ∃ k : Nat, 100 ≤ k := ⟨100, Nat.le_refl _⟩
  refine ⟨k, ?_⟩
  unfold engrosslaw10_CellShort.f
  rw [begun10 (by omega)]
  simp only [Option.bind_some, if_true]
  obtain ⟨s1, t1, u1, e1, hs1, ht1, hu1⟩ := cut10 c.f0 c.f1.f0 c.f1.f1 c.f1.f2 c.f2 c.f3.f0 c.f3.f1 c.f3.f2
  rw [e1]
  simp only [Option.bind_some]
  obtain ⟨_, ⟨_, f1, _⟩, _, ⟨_, g1, _⟩⟩ := hc
  generalize c.f1.f0 = a1 at *
  generalize c.f1.f1 = b1 at *
  generalize c.f2 = x1 at *
  generalize c.f3.f0 = c1 at *
  generalize c.f3.f1 = d1 at *
  rw [rmaycell_is _ _ f1 _ _ _ g1 _]
  simp only [Option.bind_some]
  by_cases hm : mayC s1 a1 b1 t1 x1 c1 d1 u1 = true
  · rw [if_pos hm]
    obtain ⟨_, v1, w1, z0, z1, z2⟩ := mayC_cases hm
    have hx := txn_wf z0 z1
    have p1 := (mayV_wf v1).1
    have p2 := (mayV_wf w1).1
    obtain ⟨l1, l2⟩ := left_short (s := s1) (kd := a1) (f := b1) (t := t1) (kd' := c1) (f' := d1) (t' := u1) hx
    simp only [of10, Option.bind_some, commit10, undo10]
    rw [putcell_is (by omega) p1 f1 (by omega) hx p2 g1 (by omega) (by omega) (by simp), List.nil_append]
    simp only [Option.bind_some]
    have und : (leftC s1 a1 b1 t1).2.2.2.2.2.2.2.2 = true → ∃ L, cell_Put.f k [] (leftC s1 a1 b1 t1).1 (leftC s1 a1 b1 t1).2.1 (leftC s1 a1 b1 t1).2.2.1 (leftC s1 a1 b1 t1).2.2.2.1 (leftC s1 a1 b1 t1).2.2.2.2.1 (leftC s1 a1 b1 t1).2.2.2.2.2.1 (leftC s1 a1 b1 t1).2.2.2.2.2.2.1 (leftC s1 a1 b1 t1).2.2.2.2.2.2.2.1 = some L ∧ L.length ≤ (putC s1 a1 b1 t1 x1 c1 d1 u1).length := by
      intro h
      unfold leftC at h ⊢
      by_cases h0 : a1 = 0
      · rw [if_pos h0] at h; cases h
      · rw [if_neg h0]
        dsimp only
        refine ⟨_, putcell_is (by omega) p1 f1 (by omega) (by decide) (by decide) (by decide) (by decide) (by omega) (by simp), ?_⟩
        rw [List.nil_append]
        exact l1
    have und2 : x1 > 0 → (leftC s1 c1 d1 u1).2.2.2.2.2.2.2.2 = true → ∃ L, cell_Put.f k [] (leftC s1 c1 d1 u1).1 (leftC s1 c1 d1 u1).2.1 (leftC s1 c1 d1 u1).2.2.1 (leftC s1 c1 d1 u1).2.2.2.1 (leftC s1 c1 d1 u1).2.2.2.2.1 (leftC s1 c1 d1 u1).2.2.2.2.2.1 (leftC s1 c1 d1 u1).2.2.2.2.2.2.1 (leftC s1 c1 d1 u1).2.2.2.2.2.2.2.1 = some L ∧ L.length ≤ (putC s1 a1 b1 t1 x1 c1 d1 u1).length := by
      intro hx1 h
      unfold leftC at h ⊢
      by_cases h0 : c1 = 0
      · rw [if_pos h0] at h; cases h
      · rw [if_neg h0]
        dsimp only
        refine ⟨_, putcell_is (by omega) p2 g1 (by omega) (by decide) (by decide) (by decide) (by decide) (by omega) (by simp), ?_⟩
        rw [List.nil_append]
        exact l2 hx1
    have com : (if x1 > 0 then leftC s1 c1 d1 u1 else leftC s1 a1 b1 t1).2.2.2.2.2.2.2.2 = true → ∃ L, cell_Put.f k [] (if x1 > 0 then leftC s1 c1 d1 u1 else leftC s1 a1 b1 t1).1 (if x1 > 0 then leftC s1 c1 d1 u1 else leftC s1 a1 b1 t1).2.1 (if x1 > 0 then leftC s1 c1 d1 u1 else leftC s1 a1 b1 t1).2.2.1 (if x1 > 0 then leftC s1 c1 d1 u1 else leftC s1 a1 b1 t1).2.2.2.1 (if x1 > 0 then leftC s1 c1 d1 u1 else leftC s1 a1 b1 t1).2.2.2.2.1 (if x1 > 0 then leftC s1 c1 d1 u1 else leftC s1 a1 b1 t1).2.2.2.2.2.1 (if x1 > 0 then leftC s1 c1 d1 u1 else leftC s1 a1 b1 t1).2.2.2.2.2.2.1 (if x1 > 0 then leftC s1 c1 d1 u1 else leftC s1 a1 b1 t1).2.2.2.2.2.2.2.1 = some L ∧ L.length ≤ (putC s1 a1 b1 t1 x1 c1 d1 u1).length := by
      by_cases h0 : x1 > 0
      · rw [if_pos h0]; exact und2 h0
      · rw [if_neg h0]; exact und
    generalize (if x1 > 0 then leftC s1 c1 d1 u1 else leftC s1 a1 b1 t1) = C at com
    generalize leftC s1 a1 b1 t1 = U at und
    have tail : (if U.2.2.2.2.2.2.2.2 = true then ((cell_Put.f k [] U.1 U.2.1 U.2.2.1 U.2.2.2.1 U.2.2.2.2.1 U.2.2.2.2.2.1 U.2.2.2.2.2.2.1 U.2.2.2.2.2.2.2.1).bind fun t => some (decide ((t.length : Int) ≤ ((putC s1 a1 b1 t1 x1 c1 d1 u1).length : Int)))) else some true) = some true := by
      by_cases h : U.2.2.2.2.2.2.2.2 = true
      · obtain ⟨L, eL, hL⟩ := und h
        rw [if_pos h, eL]
        simp only [Option.bind_some]
        rw [decide_eq_true (by omega)]
      · rw [if_neg h]
    by_cases h : C.2.2.2.2.2.2.2.2 = true
    · obtain ⟨L, eL, hL⟩ := com h
      rw [if_pos h, eL]
      simp only [Option.bind_some]
      rw [if_pos (by omega)]
      exact tail
    · rw [if_neg h]
      exact tail
  · rw [if_neg hm]
end Go.Proofs.Ytjhbeaffcdkhcaa.Pure
