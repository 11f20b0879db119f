/- JudgeParts: a span's pairs are those of its two halves: the plain statement of the law. -/
import Derived.Test.YtppbdngfiphliaaJudB
import Derived.Test.YtppbdngfiphliaaPx15
set_option linter.unusedVariables false
set_option linter.unusedSimpArgs false
namespace Go.Proofs.Ytppbdngfiphliaa.Pure
open Go.RowKit Go.Proofs.Ytppbdngfiphliaa.P Go.Proofs.YtppbdngfiphliaaW.PrintWords Go.Proofs.YtppbdngfiphliaaW.PrintLast Go.Proofs.YtppbdngfiphliaaW.PrintMore
theorem parts_split {a m b : ByteArray} (hm : m.toList ≠ []) (h1 : Op.bytesLess m.toList a.toList = false) (h2 : b.toList = [] ∨ Op.bytesLess b.toList m.toList = false) :
    ∀ {l : List S38} {p : Option ByteArray}, goodP p l = true → l.filter (inP a m) ++ l.filter (inP m b) = l.filter (inP a b)
 | [], _, _ => rfl
 | x :: xs, p, h => by
  simp only [goodP, Bool.and_eq_true] at h
  have ih := parts_split hm h1 h2 h.2.2
  by_cases hx : Op.bytesLess x.f0.toList m.toList = true
  · have e2 : inP m b x = false := by unfold inP; rw [hx]; rfl
    have e3 : inP a b x = inP a m x := by
      unfold inP
      rw [hx]
      rcases h2 with h2 | h2
      · simp [h2, hm]
      · simp [hm, lt_le hx h2]
    rw [List.filter_cons, List.filter_cons, List.filter_cons, e2, e3]
    cases inP a m x
    · exact ih
    · simp only [if_true, List.cons_append, Bool.false_eq_true, if_false]
      rw [ih]
  · have hxf := Bool.eq_false_iff.2 hx
    have none_ : ∀ z ∈ x :: xs, inP a m z = false := by
      intro z hz
      have : Op.bytesLess z.f0.toList m.toList = false := by
        rcases List.mem_cons.1 hz with e | hz
        · rw [e]; exact hxf
        · have g := good_above h.2.2 x.f0 rfl z hz
          cases hc : Op.bytesLess z.f0.toList m.toList with
          | false => rfl
          | true => rw [less_trans _ _ _ g hc] at hxf; cases hxf
      unfold inP
      rw [this]
      simp [hm]
    have e1 : (x :: xs).filter (inP a m) = [] := List.filter_eq_nil_iff.2 (fun z hz => by rw [none_ z hz]; decide)
    rw [e1, List.nil_append]
    refine List.filter_congr (fun z hz => ?_)
    have hzm : Op.bytesLess z.f0.toList m.toList = false := by
      rcases List.mem_cons.1 hz with e | hz
      · rw [e]; exact hxf
      · have g := good_above h.2.2 x.f0 rfl z hz
        cases hc : Op.bytesLess z.f0.toList m.toList with
        | false => rfl
        | true => rw [less_trans _ _ _ g hc] at hxf; cases hxf
    have hza : Op.bytesLess z.f0.toList a.toList = false := le_trans' h1 hzm
    unfold inP
    rw [hzm, hza]
theorem JudgeParts : engrosslaw28_JudgeParts.Pure := by
  intro l0 a1 a2 a3 w0 _ _ _
  obtain ⟨k, hk⟩ : ∃ k : Nat, 6000 ≤ k := ⟨6000, Nat.le_refl _⟩
  refine ⟨k, ?_⟩
  unfold engrosslaw28_JudgeParts.f
  rw [begun28 (by omega)]
  simp only [Option.bind_some]
  rw [if_pos trivial]
  obtain ⟨w, ea, fa, la⟩ := pairs_is l0 (fun x hx => wf_FP (w0.2 x hx)) (k := k) (by omega)
  obtain ⟨a, es, _⟩ := cut_is a1 (n := 20)
  obtain ⟨m, et, _⟩ := cut_is a2 (n := 20)
  obtain ⟨b, eu, _⟩ := cut_is a3 (n := 20)
  rw [show ((20 : Nat) : Int) = 20 from rfl] at es et eu
  have g0 : goodP none ([] : List S38) = true := rfl
  obtain ⟨d, hd⟩ : ∃ d, d = w.foldl stepP [] := ⟨_, rfl⟩
  have gd : goodP none d = true := by rw [hd]; exact fold_good _ g0
  have fd : FPL d := by rw [hd]; exact fold_FPL _ (fun x hx => by cases hx) fa
  have ld : d.length ≤ 15 := by have := fold_len w []; rw [hd]; simp only [List.length_nil] at this; omega
  rw [ea]
  simp only [Option.bind_some]
  rw [over_is [] w (by simp) (by omega) (by omega), if_pos g0, ← hd, es, et, eu]
  simp only [Option.bind_some]
  obtain ⟨k, rfl⟩ : ∃ m, k = m + 1 := ⟨k - 1, by omega⟩
  have out : ∀ x : Bool, x = true → engrosslaw28_JudgeParts.j0 (k + 1) a m b d x = some true := by
    intro x hx
    simp only [engrosslaw28_JudgeParts.j0]
    rw [if_pos hx]
  by_cases hm : m.toList = []
  · rw [if_pos hm]
    exact out true rfl
  · rw [if_neg hm]
    by_cases h1 : Op.bytesLess m.toList a.toList = true
    · rw [if_pos h1]
      exact out true rfl
    · rw [if_neg h1]
      have main : (b.toList = [] ∨ Op.bytesLess b.toList m.toList = false) → engrosslaw28_JudgeParts.j0 (k + 1) a m b d false = some true := by
        intro h2
        have hsp := parts_split hm (Bool.eq_false_iff.2 h1) h2 gd
        have l1 : (d.filter (inP a m)).length ≤ 15 := Nat.le_trans (List.length_filter_le _ _) ld
        have l2 : (d.filter (inP m b)).length ≤ 15 := Nat.le_trans (List.length_filter_le _ _) ld
        have l3 : (d.filter (inP a b)).length ≤ 15 := Nat.le_trans (List.length_filter_le _ _) ld
        have f3 : FPL (d.filter (inP a b)) := fun x hx => fd x ((List.mem_filter.1 hx).1)
        simp only [engrosslaw28_JudgeParts.j0]
        rw [if_neg (by decide), part_is d a m (by omega) (by omega), part_is d m b (by omega) (by omega), part_is d a b (by omega) (by omega)]
        simp only [Option.bind_some, List.nil_append, List.length_nil]
        rw [if_pos (by omega)]
        try simp only [Option.bind_some]
        rw [if_pos (by omega), hsp, same_is _ _ f3 f3 (by omega) (by omega), sameP_self]
        rfl
      by_cases hb : b.toList = []
      · rw [if_pos hb]
        exact main (.inl hb)
      · rw [if_neg hb]
        cases h2 : Op.bytesLess b.toList m.toList
        · exact main (.inr h2)
        · exact out true rfl
end Go.Proofs.Ytppbdngfiphliaa.Pure
