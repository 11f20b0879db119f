/- CellMany: cells one behind the other are told one by one: the plain statement of the law. -/
import Derived.Test.YtjhbeaffcdkhcaaCelB
import Derived.Test.YtjhbeaffcdkhcaaPx15
set_option linter.unusedVariables false
set_option linter.unusedSimpArgs false
namespace Go.Proofs.Ytjhbeaffcdkhcaa.Pure
open Go.RowKit Go.Proofs.Ytjhbeaffcdkhcaa.P Go.Proofs.YtjhbeaffcdkhcaaW.PrintWords Go.Proofs.YtjhbeaffcdkhcaaW.PrintLast Go.Proofs.YtjhbeaffcdkhcaaW.PrintMore
/-- A cell's bytes, by its record. -/
def putM (x : S26) : List Int := putC x.f0 x.f1.f0 x.f1.f1 x.f1.f2 x.f2 x.f3.f0 x.f3.f1 x.f3.f2
def okM (x : S26) : Prop := mayC x.f0 x.f1.f0 x.f1.f1 x.f1.f2 x.f2 x.f3.f0 x.f3.f1 x.f3.f2 = true ∧ x.f1.f1 < 18446744073709551616 ∧ x.f3.f1 < 18446744073709551616
theorem okM_len {x : S26} (h : okM x) : (putM x).length ≤ 300000 ∧ ∀ c ∈ putM x, 0 ≤ c ∧ c ≤ 255 := by
  obtain ⟨hm, _, _⟩ := h
  obtain ⟨_, v1, w1, z0, z1, _⟩ := mayC_cases hm
  have hx := txn_wf z0 z1
  have p1 := mayV_wf v1
  have p2 := mayV_wf w1
  obtain ⟨⟨_, k1⟩, _⟩ := mayC_cases hm
  exact ⟨(putC_len (by omega) p1.1 (by omega) hx p2.1 (by omega)).1, putC_bytes (by omega) p1.1 (by omega) hx p2.1 (by omega)⟩
theorem many_l1 (ms : List S26) (hok : ∀ x ∈ ms, okM x) (hl : ms.length ≤ 10) (cs : List S26) : ∀ (k i : Nat) (b : List Int), ms.drop i = cs → b = cs.flatMap putM → cs.length + 100 < k → b.length ≤ 4000000 → engrosslaw10_CellMany.l1 k b ms (i : Int) = some true := by
  induction cs with
  | nil =>
    intro k i b hd hb hk hbl
    obtain ⟨k, rfl⟩ : ∃ m, k = m + 1 := ⟨k - 1, by omega⟩
    have hi : ms.length ≤ i := List.drop_eq_nil_iff.1 hd
    simp only [engrosslaw10_CellMany.l1]
    rw [if_neg (by omega), hb]
    rfl
  | cons m cs ih =>
    intro k i b hd hb hk hbl
    obtain ⟨k, rfl⟩ : ∃ m, k = m + 1 := ⟨k - 1, by omega⟩
    have hlt : i < ms.length := by
      have := congrArg List.length hd
      simp at this
      omega
    have hcd : ms[i] = m ∧ ms.drop (i + 1) = cs := by
      have := List.getElem_cons_drop hlt
      rw [hd] at this
      exact List.cons.inj this
    have hr : rd_T26 ms (i : Int) = m := by
      unfold rd_T26
      rw [← hcd.1]
      simp [List.getD, hlt]
    have hm : okM m := hok m (by rw [← hcd.1]; exact List.getElem_mem hlt)
    have hb2 : b = putM m ++ cs.flatMap putM := by rw [hb, List.flatMap_cons]
    have hbytes : ∀ c ∈ b, 0 ≤ c ∧ c ≤ 255 := by
      rw [hb]
      intro c hc
      obtain ⟨x, hx, hcx⟩ := List.mem_flatMap.1 hc
      have hxm : x ∈ ms := by
        have : x ∈ ms.drop i := by rw [hd]; exact hx
        exact List.mem_of_mem_drop this
      exact (okM_len (hok x hxm)).2 c hcx
    simp only [engrosslaw10_CellMany.l1]
    obtain ⟨h1, h2, h3⟩ := hm
    have hg := getC_putC h1 h2 h3 (cs.flatMap putM)
    have hbe : b = putC m.f0 m.f1.f0 m.f1.f1 m.f1.f2 m.f2 m.f3.f0 m.f3.f1 m.f3.f2 ++ cs.flatMap putM := hb2
    rw [if_pos (by omega), getcell_is hbytes (by omega) (by omega), hbe, hg]
    simp only [Option.bind_some, back10]
    rw [if_pos trivial, if_pos (by omega), hr, reqcell_is _ _ h2 _ _ _ h3 _ _ _ h2 _ _ _ h3 _, eqC_self]
    simp only [Option.bind_some, if_true]
    rw [if_pos (by omega), if_pos (by simp only [List.length_append]; omega), Int.toNat_natCast, List.drop_left, w64 (x := (i : Int) + 1) (by omega), show (i : Int) + 1 = ((i + 1 : Nat) : Int) from rfl]
    refine ih k (i + 1) _ hcd.2 rfl (by simp only [List.length_cons] at hk; omega) ?_
    rw [hbe, List.length_append] at hbl
    omega
theorem flat_snoc (ms : List S26) (x : S26) : (ms ++ [x]).flatMap putM = ms.flatMap putM ++ putM x := by simp [List.flatMap_append]
theorem many_l0 (l : List S26) (hl : ∀ x ∈ l, wf26 x) (d : Nat) : ∀ (k i : Nat) (b : List Int) (ms : List S26), i + d = min l.length 10 → (∀ x ∈ ms, okM x) → ms.length ≤ i → b = ms.flatMap putM → b.length ≤ 300000 * i → 2 * d + 200 < k →
    engrosslaw10_CellMany.l0 k l b ms (i : Int) = some true := by
  induction d with
  | zero =>
    intro k i b ms hi hok hml hb hbl hk
    obtain ⟨k, rfl⟩ : ∃ m, k = m + 1 := ⟨k - 1, by omega⟩
    simp only [engrosslaw10_CellMany.l0]
    have key : ∀ k : Nat, 150 < k → engrosslaw10_CellMany.j1 k l b ms (i : Int) false = some true := by
      intro k hk
      obtain ⟨k, rfl⟩ : ∃ m, k = m + 1 := ⟨k - 1, by omega⟩
      simp only [engrosslaw10_CellMany.j1]
      rw [if_neg (by decide)]
      obtain ⟨k, rfl⟩ : ∃ m, k = m + 1 := ⟨k - 1, by omega⟩
      simp only [engrosslaw10_CellMany.j2]
      exact many_l1 ms hok (by omega) ms k 0 b rfl hb (by omega) (by omega)
    by_cases h : (i : Int) < l.length
    · rw [if_pos h, decide_eq_false (show ¬ (i : Int) < 10 by omega)]
      exact key k (by omega)
    · rw [if_neg h]
      exact key k (by omega)
  | succ d ih =>
    intro k i b ms hi hok hml hb hbl hk
    obtain ⟨k, rfl⟩ : ∃ m, k = m + 1 := ⟨k - 1, by omega⟩
    simp only [engrosslaw10_CellMany.l0]
    rw [if_pos (by omega), decide_eq_true (show (i : Int) < 10 by omega)]
    obtain ⟨k, rfl⟩ : ∃ m, k = m + 1 := ⟨k - 1, by omega⟩
    simp only [engrosslaw10_CellMany.j1, if_true]
    rw [if_pos (by omega), if_pos (by omega)]
    have hlt : i < l.length := by omega
    have hr : rd_T26 l (i : Int) = l[i] := by
      unfold rd_T26
      simp [List.getD, hlt]
    rw [hr]
    obtain ⟨_, ⟨_, f1, _⟩, _, ⟨_, g1, _⟩⟩ := hl _ (List.getElem_mem hlt)
    generalize l[i] = c at f1 g1
    obtain ⟨s1, t1, u1, e1, hs1, ht1, hu1⟩ := cut10 c.f0 c.f1.f0 c.f1.f1 c.f1.f2 c.f2 c.f3.f0 c.f3.f1 c.f3.f2
    rw [e1]
    simp only [Option.bind_some]
    rw [rmaycell_is _ _ f1 _ _ _ g1 _, w64 (x := (i : Int) + 1) (by omega), show (i : Int) + 1 = ((i + 1 : Nat) : Int) from rfl]
    simp only [Option.bind_some]
    by_cases hm : mayC s1 c.f1.f0 c.f1.f1 t1 c.f2 c.f3.f0 c.f3.f1 u1 = true
    · obtain ⟨_, v1, w1, z0, z1, _⟩ := mayC_cases hm
      have hx := txn_wf z0 z1
      have p1 := (mayV_wf v1).1
      have p2 := (mayV_wf w1).1
      rw [if_pos hm, if_pos (by omega)]
      simp only [of10, Option.bind_some]
      rw [putcell_is (by omega) p1 f1 (by omega) hx p2 g1 (by omega) (by omega) (by omega)]
      simp only [Option.bind_some]
      have hok2 : okM (⟨s1, (⟨c.f1.f0, c.f1.f1, t1⟩ : S24), c.f2, (⟨c.f3.f0, c.f3.f1, u1⟩ : S24)⟩ : S26) := ⟨hm, f1, g1⟩
      refine ih k (i + 1) _ _ (by omega) ?_ (by simp; omega) ?_ ?_ (by omega)
      · intro x hx
        rcases List.mem_append.1 hx with h | h
        · exact hok x h
        · rw [List.mem_singleton.1 h]; exact hok2
      · rw [flat_snoc, hb]
        rfl
      · have := (okM_len hok2).1
        rw [List.length_append]
        have e : (putM (⟨s1, (⟨c.f1.f0, c.f1.f1, t1⟩ : S24), c.f2, (⟨c.f3.f0, c.f3.f1, u1⟩ : S24)⟩ : S26)).length = (putC s1 c.f1.f0 c.f1.f1 t1 c.f2 c.f3.f0 c.f3.f1 u1).length := rfl
        omega
    · rw [if_neg hm]
      exact ih k (i + 1) b ms (by omega) hok (by omega) hb (by omega) (by omega)
theorem CellMany : engrosslaw10_CellMany.Pure := by
  intro l hl
  obtain ⟨k, hk⟩ : ∃ k : Nat, 400 ≤ k := ⟨400, Nat.le_refl _⟩
  refine ⟨k, ?_⟩
  unfold engrosslaw10_CellMany.f
  rw [begun10 (by omega)]
  simp only [Option.bind_some, if_true]
  exact many_l0 l hl.2 (min l.length 10) k 0 [] [] (by omega) (fun x hx => by cases hx) (by simp) rfl (by simp) (by omega)
end Go.Proofs.Ytjhbeaffcdkhcaa.Pure
