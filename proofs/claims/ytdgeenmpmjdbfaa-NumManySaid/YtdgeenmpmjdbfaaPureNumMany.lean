/- NumMany: numbers one behind the other are told one by one: the plain statement of the law, for every list. -/
import Derived.Test.YtdgeenmpmjdbfaaNumB
import Derived.Test.YtdgeenmpmjdbfaaPx5
set_option linter.unusedVariables false
set_option linter.unusedSimpArgs false
namespace Go.Proofs.Ytdgeenmpmjdbfaa.Pure
open Go.RowKit Go.Proofs.Ytdgeenmpmjdbfaa.P Go.Proofs.YtdgeenmpmjdbfaaW.PrintWords Go.Proofs.YtdgeenmpmjdbfaaW.PrintLast Go.Proofs.YtdgeenmpmjdbfaaW.PrintMore

def flatN (l : List Int) : List Int := l.flatMap putN
theorem flatN_len {l : List Int} (hw : ∀ x ∈ l, (Lit.int .i64 x).wf = true) : (flatN l).length ≤ 10 * l.length := by
  induction l with
  | nil => simp [flatN]
  | cons x l ih =>
    have h1 := (putN_len (hw x (by simp))).1
    have h2 := ih (fun y hy => hw y (by simp [hy]))
    unfold flatN at *
    simp only [List.flatMap_cons, List.length_append, List.length_cons]
    omega
theorem flatN_bytes {l : List Int} (hw : ∀ x ∈ l, (Lit.int .i64 x).wf = true) : ∀ c ∈ flatN l, 0 ≤ c ∧ c ≤ 255 := by
  intro c hc
  obtain ⟨x, hx, hc⟩ := List.mem_flatMap.1 hc
  exact putN_bytes (hw x hx) c hc
theorem rd_get {l : List Int} {i : Nat} (h : i < l.length) : rd l (i : Int) = l[i] := by
  unfold rd
  simp [List.getD, h]

theorem many_l1 {l : List Int} (hw : ∀ x ∈ l, (Lit.int .i64 x).wf = true) (hl : l.length ≤ 40) (d : Nat) : ∀ (k i : Nat), i + d = l.length → d + 60 < k →
    engrosslaw1_NumMany.l1 k l (flatN (l.drop i)) (i : Int) = some true := by
  induction d with
  | zero =>
    intro k i hi hk
    obtain ⟨k, rfl⟩ : ∃ m, k = m + 1 := ⟨k - 1, by omega⟩
    simp only [engrosslaw1_NumMany.l1]
    rw [if_neg (by omega), List.drop_eq_nil_of_le (by omega)]
    rfl
  | succ d ih =>
    intro k i hi hk
    obtain ⟨k, rfl⟩ : ∃ m, k = m + 1 := ⟨k - 1, by omega⟩
    have hlt : i < l.length := by omega
    have hx := hw l[i] (List.getElem_mem hlt)
    have hdr : flatN (l.drop i) = putN l[i] ++ flatN (l.drop (i + 1)) := by
      rw [← List.getElem_cons_drop hlt]
      rfl
    have hwd : ∀ j, ∀ x ∈ l.drop j, (Lit.int .i64 x).wf = true := fun j x hx => hw x (List.mem_of_mem_drop hx)
    have hln := flatN_len (hwd i)
    have hln2 : (l.drop i).length ≤ 40 := by rw [List.length_drop]; omega
    simp only [engrosslaw1_NumMany.l1]
    rw [if_pos (by omega), get_is (flatN_bytes (hwd i)) (by omega) (by omega)]
    simp only [Option.bind_some]
    rw [hdr, getN_putN hx]
    simp only [if_true]
    rw [if_pos (by omega), rd_get hlt, if_pos rfl, if_pos (by omega), if_pos (by simp only [List.length_append]; omega), w64 (x := (i : Int) + 1) (by omega), show (i : Int) + 1 = ((i + 1 : Nat) : Int) from rfl]
    have e : ((putN l[i]).length : Int).toNat = (putN l[i]).length := by omega
    rw [e, List.drop_left]
    exact ih k (i + 1) (by omega) (by omega)
theorem many_l0 {l : List Int} (hw : ∀ x ∈ l, (Lit.int .i64 x).wf = true) (hl : l.length ≤ 40) (d : Nat) : ∀ (k i : Nat), i + d = l.length → d + 200 < k →
    engrosslaw1_NumMany.l0 k l (flatN (l.take i)) (i : Int) = some true := by
  induction d with
  | zero =>
    intro k i hi hk
    obtain ⟨k, rfl⟩ : ∃ m, k = m + 1 := ⟨k - 1, by omega⟩
    simp only [engrosslaw1_NumMany.l0]
    rw [if_neg (by omega), List.take_of_length_le (by omega)]
    exact many_l1 hw hl l.length k 0 (by omega) (by omega)
  | succ d ih =>
    intro k i hi hk
    obtain ⟨k, rfl⟩ : ∃ m, k = m + 1 := ⟨k - 1, by omega⟩
    have hlt : i < l.length := by omega
    have hx := hw l[i] (List.getElem_mem hlt)
    have hln := flatN_len (l := l.take i) (fun x hx => hw x (List.mem_of_mem_take hx))
    have hln2 : (l.take i).length ≤ 40 := by rw [List.length_take]; omega
    simp only [engrosslaw1_NumMany.l0]
    rw [if_pos (by omega), if_pos (by omega), rd_get hlt, put_is hx (by omega) (by omega)]
    simp only [Option.bind_some]
    have e : flatN (l.take i) ++ putN l[i] = flatN (l.take (i + 1)) := by
      rw [List.take_succ_eq_append_getElem hlt]
      unfold flatN
      simp only [List.flatMap_append, List.flatMap_cons, List.flatMap_nil, List.append_nil]
    rw [e, w64 (x := (i : Int) + 1) (by omega), show (i : Int) + 1 = ((i + 1 : Nat) : Int) from rfl]
    exact ih k (i + 1) (by omega) (by omega)

theorem NumMany : engrosslaw1_NumMany.Pure := by
  intro l _ _ hw
  refine ⟨400, ?_⟩
  unfold engrosslaw1_NumMany.f
  rw [begun1 (by omega)]
  simp only [Option.bind_some, if_true]
  have key : ∀ m : List Int, (∀ x ∈ m, (Lit.int .i64 x).wf = true) → m.length ≤ 40 → engrosslaw1_NumMany.j0 400 m = some true := by
    intro m hm hml
    rw [show (400 : Nat) = 399 + 1 from rfl]
    simp only [engrosslaw1_NumMany.j0]
    exact many_l0 hm hml m.length 399 0 (by omega) (by omega)
  by_cases h : (l.length : Int) > 40
  · rw [if_pos h, if_pos (by omega)]
    exact key _ (fun x hx => hw x (List.mem_of_mem_take hx)) (by rw [List.length_take]; omega)
  · rw [if_neg h]
    exact key l hw (by omega)
end Go.Proofs.Ytdgeenmpmjdbfaa.Pure
