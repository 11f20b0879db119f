/- JudgeOver: laid over in two parts it is the same; nothing laid over changes nothing; what is handed in stays: the plain statement of the law. -/
import Derived.Test.YtppbdngfiphliaaJudB
import Derived.Test.YtppbdngfiphliaaPx15
set_option linter.unusedVariables false
set_option linter.unusedSimpArgs false
namespace Go.Proofs.Ytppbdngfiphliaa.Pure
open Go.RowKit Go.Proofs.Ytppbdngfiphliaa.P Go.Proofs.YtppbdngfiphliaaW.PrintWords Go.Proofs.YtppbdngfiphliaaW.PrintLast Go.Proofs.YtppbdngfiphliaaW.PrintMore
theorem JudgeOver : engrosslaw28_JudgeOver.Pure := by
  intro l0 a1 w0 _
  obtain ⟨k, hk⟩ : ∃ k : Nat, 6000 ≤ k := ⟨6000, Nat.le_refl _⟩
  refine ⟨k, ?_⟩
  unfold engrosslaw28_JudgeOver.f
  rw [begun28 (by omega)]
  simp only [Option.bind_some]
  rw [if_pos trivial]
  obtain ⟨w, ea, fa, la⟩ := pairs_is l0 (fun x hx => wf_FP (w0.2 x hx)) (k := k) (by omega)
  rw [ea]
  simp only [Option.bind_some]
  obtain ⟨k, rfl⟩ : ∃ m, k = m + 1 := ⟨k - 1, by omega⟩
  have out : ∀ x : Bool, x = true → engrosslaw28_JudgeOver.j0 (k + 1) w a1 x = some true := by
    intro x hx
    simp only [engrosslaw28_JudgeOver.j0]
    rw [if_pos hx]
  by_cases g : a1 < 0
  · rw [if_pos g]
    exact out true rfl
  · rw [if_neg g]
    by_cases g2 : a1 > (w.length : Int)
    · exact out _ (decide_eq_true g2)
    · rw [decide_eq_false g2]
      obtain ⟨i, rfl⟩ : ∃ i : Nat, a1 = (i : Int) := ⟨a1.toNat, by omega⟩
      have hil : i ≤ w.length := by omega
      have e0 : FPL ([] : List S38) := fun x hx => by cases hx
      have ft : FPL (w.take i) := fun x hx => fa x (List.mem_of_mem_take hx)
      have fd : FPL (w.drop i) := fun x hx => fa x (List.mem_of_mem_drop hx)
      have lt : (w.take i).length ≤ 15 := by rw [List.length_take]; omega
      have ld : (w.drop i).length ≤ 15 := by rw [List.length_drop]; omega
      have g0 : goodP none ([] : List S38) = true := rfl
      obtain ⟨d, hd⟩ : ∃ d, d = (w.take i).foldl stepP [] := ⟨_, rfl⟩
      have gd : goodP none d = true := by rw [hd]; exact fold_good _ g0
      have fdd : FPL d := by rw [hd]; exact fold_FPL _ e0 ft
      have ldd : d.length ≤ 15 := by have := fold_len (w.take i) []; rw [hd]; simp only [List.length_nil] at this; omega
      obtain ⟨e, he⟩ : ∃ e, e = (w.drop i).foldl stepP d := ⟨_, rfl⟩
      have ge : goodP none e = true := by rw [he]; exact fold_good _ gd
      have fe : FPL e := by rw [he]; exact fold_FPL _ fdd fd
      have le : e.length ≤ 30 := by have := fold_len (w.drop i) d; rw [he]; omega
      have hw : w.foldl stepP [] = e := by
        rw [he, hd, ← List.foldl_append, List.take_append_drop]
      simp only [engrosslaw28_JudgeOver.j0]
      rw [if_neg (by decide), if_pos (by omega), if_pos (by omega), Int.toNat_natCast, over_is [] (w.take i) (by simp) (by omega) (by omega), if_pos g0, ← hd]
      simp only [Option.bind_some]
      rw [over_is d (w.drop i) (by omega) (by omega) (by omega), if_pos gd, ← he, over_is [] w (by simp) (by omega) (by omega), if_pos g0, hw]
      simp only [Option.bind_some]
      rw [same_is e e fe fe (by omega) (by omega), sameP_self, over_is e [] (by omega) (by simp) (by omega), if_pos ge]
      simp only [Option.bind_some, List.foldl_nil, if_true]
      rw [same_is e e fe fe (by omega) (by omega), sameP_self, sorted_is d (by omega) (by omega), gd]
      rfl
end Go.Proofs.Ytppbdngfiphliaa.Pure
