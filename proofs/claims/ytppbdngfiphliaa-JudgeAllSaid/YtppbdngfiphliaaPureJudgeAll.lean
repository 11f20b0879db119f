/- JudgeAll: of any pairs: what is sorted, the same, over, a part, a value: the plain statement of the law. -/
import Derived.Test.YtppbdngfiphliaaJudB
import Derived.Test.YtppbdngfiphliaaPx14
set_option linter.unusedVariables false
set_option linter.unusedSimpArgs false
namespace Go.Proofs.Ytppbdngfiphliaa.Pure
open Go.RowKit Go.Proofs.Ytppbdngfiphliaa.P Go.Proofs.YtppbdngfiphliaaW.PrintWords Go.Proofs.YtppbdngfiphliaaW.PrintLast Go.Proofs.YtppbdngfiphliaaW.PrintMore
theorem all_l0 (b : List S38) (hb : FPL b) (hbl : b.length ≤ 15) (o : List S38) (ho : FPL o) (hol : o.length ≤ 400) (hog : goodP none o = true) (cs : List S38) : ∀ (k i : Nat) (d : List S38), b.drop i = cs → cs.length + 2100 < k → goodP none d = true → d.length + cs.length ≤ 400 → FPL d → cs.foldl stepP d = o →
    engrosslaw28_JudgeAll.l0 k b o d (i : Int) = some true := by
  induction cs with
  | nil =>
    intro k i d hd hk hg hn hf he
    obtain ⟨k, rfl⟩ : ∃ m, k = m + 1 := ⟨k - 1, by simp at hk; omega⟩
    have := jdrop_nil hd
    simp only [List.foldl_nil] at he
    subst he
    simp only [engrosslaw28_JudgeAll.l0]
    rw [if_neg (by omega), eqs_is d d hf hf (by omega) (by omega), sameP_self, sorted_is d (by omega) (by omega), hg]
    rfl
  | cons c cs ih =>
    intro k i d hd hk hg hn hf he
    simp only [List.length_cons] at hk hn
    obtain ⟨k, rfl⟩ : ∃ m, k = m + 1 := ⟨k - 1, by omega⟩
    obtain ⟨hlt, h1, h2⟩ := jdrop_step hd
    have hfc : FP c := by rw [← h1]; exact hb _ (List.getElem_mem _)
    simp only [List.foldl_cons] at he
    simp only [engrosslaw28_JudgeAll.l0]
    rw [if_pos (by omega), if_pos (by omega), rd38 hlt, h1, rmaykey_is, jw64 (x := (i : Int) + 1) (by omega), j_succ]
    simp only [Option.bind_some]
    cases hm1 : mayK c.f0
    · have hst : stepP d c = d := by unfold stepP; rw [hm1]; rfl
      rw [hst] at he
      rw [if_neg (by decide)]
      exact ih k (i + 1) d h2 (by omega) hg (by omega) hf he
    · rw [if_pos rfl, rmay_is _ hfc]
      simp only [Option.bind_some]
      cases hm2 : mayV c.f1.f0 c.f1.f1 c.f1.f2
      · have hst : stepP d c = d := by unfold stepP; rw [hm1, hm2]; rfl
        rw [hst] at he
        rw [if_neg (by decide)]
        exact ih k (i + 1) d h2 (by omega) hg (by omega) hf he
      · have hst : stepP d c = setL c d := by unfold stepP; rw [hm1, hm2]; rfl
        rw [if_pos rfl, set_is d c (by omega) hg (by omega)]
        simp only [Option.bind_some]
        have hl := setL_len c d
        refine ih k (i + 1) (setL c d) h2 (by omega) (setL_good hm1 hm2 hg rfl) (by omega) ?_ (by rw [← hst]; exact he)
        intro z hz
        rcases setL_mem hz with e | hz
        · rw [e]; exact hfc
        · exact hf z hz
theorem JudgeAll : engrosslaw28_JudgeAll.Pure := by
  intro l0 l1 a2 a3 w0 w1 _ _
  obtain ⟨k, hk⟩ : ∃ k : Nat, 6000 ≤ k := ⟨6000, Nat.le_refl _⟩
  refine ⟨k, ?_⟩
  unfold engrosslaw28_JudgeAll.f
  rw [begun28 (by omega)]
  simp only [Option.bind_some]
  rw [if_pos trivial]
  obtain ⟨a, ea, fa, la⟩ := pairs_is l0 (fun x hx => wf_FP (w0.2 x hx)) (k := k) (by omega)
  obtain ⟨b, eb, fb, lb⟩ := pairs_is l1 (fun x hx => wf_FP (w1.2 x hx)) (k := k) (by omega)
  obtain ⟨s, es, _⟩ := cut_is a2 (n := 20)
  obtain ⟨t, et, _⟩ := cut_is a3 (n := 20)
  rw [show ((20 : Nat) : Int) = 20 from rfl] at es et
  have hfil : FPL (a.filter (inP s t)) := fun x hx => fa x ((List.mem_filter.1 hx).1)
  have hfl : (a.filter (inP s t)).length ≤ 15 := Nat.le_trans (List.length_filter_le _ _) la
  rw [ea, eb, es, et]
  simp only [Option.bind_some]
  rw [sorted_is a (by omega) (by omega), rsorted_is a fa (by omega) (by omega), same_is a b fa fb (by omega) (by omega), eqs_is a b fa fb (by omega) (by omega), part_is a s t (by omega) (by omega), rpart_is a s t (by omega) (by omega)]
  simp only [Option.bind_some]
  rw [if_neg (by simp), if_neg (by simp), eqs_is _ _ hfil hfil (by omega) (by omega), sameP_self]
  simp only [Option.bind_some, Bool.not_true]
  obtain ⟨k, rfl⟩ : ∃ m, k = m + 2 := ⟨k - 2, by omega⟩
  obtain ⟨v1, v2⟩ := val_is a s (k := k + 1) (by omega) (by omega)
  simp only [engrosslaw28_JudgeAll.j0]
  rw [if_neg (by decide), v1, v2]
  simp only [Option.bind_some]
  rw [if_neg (by simp), req_is _ (valP_lt s fa) _ _ (valP_lt s fa)]
  have hself : eqV (valP s a).1 (valP s a).2.1 (valP s a).2.2.1 (valP s a).1 (valP s a).2.1 (valP s a).2.2.1 = true := by simp [eqV]
  rw [hself]
  simp only [Option.bind_some, Bool.not_true, engrosslaw28_JudgeAll.j1]
  rw [if_neg (by decide), over_is a b (by omega) (by omega) (by omega), rsorted_is a fa (by omega) (by omega)]
  simp only [Option.bind_some]
  by_cases hg : goodP none a = true
  · rw [if_pos hg, if_pos hg]
    have hl := fold_len b a
    have := all_l0 b fb lb (b.foldl stepP a) (fold_FPL b fa fb) (by omega) (fold_good b hg) b k 0 a rfl (by omega) hg (by omega) fa rfl
    rw [show ((0 : Nat) : Int) = 0 from rfl] at this
    exact this
  · rw [if_neg hg, if_neg hg]
    rfl
end Go.Proofs.Ytppbdngfiphliaa.Pure
