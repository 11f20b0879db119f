/- DatumMany: values one behind the other are told one by one: the plain statement of the law. -/
import Derived.Test.YthfpmpnedaliaaaDatB
import Derived.Test.YthfpmpnedaliaaaPx10
set_option linter.unusedVariables false
set_option linter.unusedSimpArgs false
namespace Go.Proofs.Ythfpmpnedaliaaa.Pure
open Go.RowKit Go.Proofs.Ythfpmpnedaliaaa.P Go.Proofs.YthfpmpnedaliaaaW.PrintWords Go.Proofs.YthfpmpnedaliaaaW.PrintLast Go.Proofs.YthfpmpnedaliaaaW.PrintMore
/-- A value's bytes, by its record. -/
def putM (x : S27) : List Int := putV x.f0 x.f1 x.f2
def okM (x : S27) : Prop := mayV x.f0 x.f1 x.f2 = true ∧ x.f1 < 18446744073709551616 ∧ x.f2.size ≤ 25
theorem mayV_i64 {kd : Int} {f : Nat} {t : ByteArray} (h : mayV kd f t = true) : (Lit.int .i64 kd).wf = true := by
  rcases mayV_cases h with ⟨rfl, _, h2⟩ | ⟨rfl, _, h2⟩ | ⟨rfl, _, h2⟩
  · decide
  · decide
  · decide
theorem okM_len {x : S27} (h : okM x) : (putM x).length ≤ 300000 ∧ ∀ c ∈ putM x, 0 ≤ c ∧ c ≤ 255 := by
  obtain ⟨hm, _, hs⟩ := h
  have hw := mayV_i64 hm
  have h1 := putV_len hw x.f1 (s := x.f2) (by omega)
  exact ⟨Nat.le_trans h1 (by omega), putV_bytes hw x.f1 (by omega)⟩
theorem many_l1 (ms : List S27) (hok : ∀ x ∈ ms, okM x) (hl : ms.length ≤ 20) (cs : List S27) : ∀ (k i : Nat) (b : List Int), ms.drop i = cs → b = cs.flatMap putM → cs.length + 100 < k → b.length ≤ 8000000 → engrosslaw4_DatumMany.l1 k b ms (i : Int) = some true := by
  induction cs with
  | nil =>
    intro k i b hd hb hk hbl
    obtain ⟨k, rfl⟩ : ∃ m, k = m + 1 := ⟨k - 1, by omega⟩
    have hi : ms.length ≤ i := List.drop_eq_nil_iff.1 hd
    simp only [engrosslaw4_DatumMany.l1]
    rw [if_neg (by omega), hb]
    rfl
  | cons m cs ih =>
    intro k i b hd hb hk hbl
    obtain ⟨k, rfl⟩ : ∃ m, k = m + 1 := ⟨k - 1, by omega⟩
    have hlt : i < ms.length := by
      have := congrArg List.length hd
      simp at this
      omega
    have hcd : ms[i] = m ∧ ms.drop (i + 1) = cs := by
      have := List.getElem_cons_drop hlt
      rw [hd] at this
      exact List.cons.inj this
    have hr : rd_T27 ms (i : Int) = m := by
      unfold rd_T27
      rw [← hcd.1]
      simp [List.getD, hlt]
    have hm : okM m := hok m (by rw [← hcd.1]; exact List.getElem_mem hlt)
    have hb2 : b = putM m ++ cs.flatMap putM := by rw [hb, List.flatMap_cons]
    have hbytes : ∀ c ∈ b, 0 ≤ c ∧ c ≤ 255 := by
      rw [hb]
      intro c hc
      obtain ⟨x, hx, hcx⟩ := List.mem_flatMap.1 hc
      have hxm : x ∈ ms := by
        have : x ∈ ms.drop i := by rw [hd]; exact hx
        exact List.mem_of_mem_drop this
      exact (okM_len (hok x hxm)).2 c hcx
    simp only [engrosslaw4_DatumMany.l1]
    obtain ⟨h1, h2, h3⟩ := hm
    have hg := getV_putV h1 h2 (cs.flatMap putM)
    have hbe : b = putV m.f0 m.f1 m.f2 ++ cs.flatMap putM := hb2
    rw [if_pos (by omega), dget_is hbytes (by omega) (by omega), hbe, hg]
    simp only [Option.bind_some]
    rw [if_pos trivial, if_pos (by omega), hr, req_is _ h2 _ _ h2 _]
    have hs : eqV m.f0 m.f1 m.f2 m.f0 m.f1 m.f2 = true := by simp [eqV]
    rw [hs]
    simp only [Option.bind_some, if_true]
    rw [if_pos (by omega), if_pos (by simp only [List.length_append]; omega), Int.toNat_natCast, List.drop_left, w64 (x := (i : Int) + 1) (by omega), show (i : Int) + 1 = ((i + 1 : Nat) : Int) from rfl]
    refine ih k (i + 1) _ hcd.2 rfl (by simp only [List.length_cons] at hk; omega) ?_
    rw [hbe, List.length_append] at hbl
    omega
theorem flat_snoc (ms : List S27) (x : S27) : (ms ++ [x]).flatMap putM = ms.flatMap putM ++ putM x := by simp [List.flatMap_append]
theorem many_l0 (l : List S27) (hl : ∀ x ∈ l, wf27 x) (d : Nat) : ∀ (k i : Nat) (b : List Int) (ms : List S27), i + d = min l.length 20 → (∀ x ∈ ms, okM x) → ms.length ≤ i → b = ms.flatMap putM → b.length ≤ 300000 * i → 2 * d + 200 < k →
    engrosslaw4_DatumMany.l0 k l b ms (i : Int) = some true := by
  induction d with
  | zero =>
    intro k i b ms hi hok hml hb hbl hk
    obtain ⟨k, rfl⟩ : ∃ m, k = m + 1 := ⟨k - 1, by omega⟩
    simp only [engrosslaw4_DatumMany.l0]
    have key : ∀ k : Nat, 150 < k → engrosslaw4_DatumMany.j1 k l b ms (i : Int) false = some true := by
      intro k hk
      obtain ⟨k, rfl⟩ : ∃ m, k = m + 1 := ⟨k - 1, by omega⟩
      simp only [engrosslaw4_DatumMany.j1]
      rw [if_neg (by decide)]
      obtain ⟨k, rfl⟩ : ∃ m, k = m + 1 := ⟨k - 1, by omega⟩
      simp only [engrosslaw4_DatumMany.j2]
      exact many_l1 ms hok (by omega) ms k 0 b rfl hb (by omega) (by omega)
    by_cases h : (i : Int) < l.length
    · rw [if_pos h, decide_eq_false (show ¬ (i : Int) < 20 by omega)]
      exact key k (by omega)
    · rw [if_neg h]
      exact key k (by omega)
  | succ d ih =>
    intro k i b ms hi hok hml hb hbl hk
    obtain ⟨k, rfl⟩ : ∃ m, k = m + 1 := ⟨k - 1, by omega⟩
    simp only [engrosslaw4_DatumMany.l0]
    rw [if_pos (by omega), decide_eq_true (show (i : Int) < 20 by omega)]
    obtain ⟨k, rfl⟩ : ∃ m, k = m + 1 := ⟨k - 1, by omega⟩
    simp only [engrosslaw4_DatumMany.j1, if_true]
    rw [if_pos (by omega), if_pos (by omega)]
    have hlt : i < l.length := by omega
    have hr : rd_T27 l (i : Int) = l[i] := by
      unfold rd_T27
      simp [List.getD, hlt]
    rw [hr]
    obtain ⟨_, f1, _⟩ := hl _ (List.getElem_mem hlt)
    generalize l[i] = c at f1
    rw [w64 (x := (i : Int) + 1) (by omega), show (i : Int) + 1 = ((i + 1 : Nat) : Int) from rfl]
    by_cases h25 : ((c.f2.size : Nat) : Int) > 25
    · rw [if_pos h25]
      exact ih k (i + 1) b ms (by omega) hok (by omega) hb (by omega) (by omega)
    · rw [if_neg h25, rmay_is _ f1]
      simp only [Option.bind_some]
      by_cases hm : mayV c.f0 c.f1 c.f2 = true
      · rw [if_pos hm, if_pos (by omega), dput_is (mayV_i64 hm) f1 (by omega) (by omega) (by omega)]
        simp only [Option.bind_some]
        have hok2 : okM (⟨c.f0, c.f1, c.f2⟩ : S27) := ⟨hm, f1, by dsimp only; omega⟩
        refine ih k (i + 1) _ _ (by omega) ?_ (by simp; omega) ?_ ?_ (by omega)
        · intro x hx
          rcases List.mem_append.1 hx with h | h
          · exact hok x h
          · rw [List.mem_singleton.1 h]; exact hok2
        · rw [flat_snoc, hb]
          rfl
        · have := (okM_len hok2).1
          rw [List.length_append]
          have e : (putM (⟨c.f0, c.f1, c.f2⟩ : S27)).length = (putV c.f0 c.f1 c.f2).length := rfl
          omega
      · rw [if_neg hm]
        exact ih k (i + 1) b ms (by omega) hok (by omega) hb (by omega) (by omega)
theorem DatumMany : engrosslaw4_DatumMany.Pure := by
  intro l hl
  obtain ⟨k, hk⟩ : ∃ k : Nat, 400 ≤ k := ⟨400, Nat.le_refl _⟩
  refine ⟨k, ?_⟩
  unfold engrosslaw4_DatumMany.f
  rw [begun4 (by omega)]
  simp only [Option.bind_some, if_true]
  exact many_l0 l hl.2 (min l.length 20) k 0 [] [] (by omega) (fun x hx => by cases hx) (by simp) rfl (by simp) (by omega)
end Go.Proofs.Ythfpmpnedaliaaa.Pure
