/- NumCut: a number or a text that is cut off anywhere is not all there: the plain statement of the law, for every number, text and cut. -/
import Derived.Test.YtdgeenmpmjdbfaaNumB
import Derived.Test.YtdgeenmpmjdbfaaPx4
set_option linter.unusedVariables false
set_option linter.unusedSimpArgs false
namespace Go.Proofs.Ytdgeenmpmjdbfaa.Pure
open Go.RowKit Go.Proofs.Ytdgeenmpmjdbfaa.P Go.Proofs.YtdgeenmpmjdbfaaW.PrintWords Go.Proofs.YtdgeenmpmjdbfaaW.PrintLast Go.Proofs.YtdgeenmpmjdbfaaW.PrintMore

theorem take_in {l : List Int} (h : ∀ c ∈ l, 0 ≤ c ∧ c ≤ 255) (n : Nat) : ∀ c ∈ l.take n, 0 ≤ c ∧ c ≤ 255 := fun c hc => h c (List.mem_of_mem_take hc)
theorem NumCut : engrosslaw1_NumCut.Pure := by
  intro n s cut hn hs hc
  have hcb : -9223372036854775808 ≤ cut ∧ cut ≤ 9223372036854775807 := by simpa [Lit.wf, IntKind.min, IntKind.max, IntKind.signed, IntKind.bits] using hc
  refine ⟨200, ?_⟩
  unfold engrosslaw1_NumCut.f
  rw [begun1 (by omega)]
  simp only [Option.bind_some, if_true]
  obtain ⟨t, ht, hts, _⟩ := cut_is s (n := 100)
  rw [show (100 : Int) = ((100 : Nat) : Int) from rfl, ht]
  simp only [Option.bind_some]
  rw [put_is hn (by omega) (by simp), List.nil_append]
  simp only [Option.bind_some]
  rw [puttext_is (by omega) (by omega) (by simp), List.nil_append]
  simp only [Option.bind_some]
  have hbl := putN_len hn
  have hcl := putS_len (s := t) (by omega)
  by_cases h1 : cut < 1
  · rw [if_pos h1]
  · rw [if_neg h1]
    have text : cut ≤ ((putS t).length : Int) → getS ((putS t).take (((putS t).length : Int) - cut).toNat) = ((⟨#[]⟩ : ByteArray), 0, 2) := fun h => getS_cut (by omega) (by omega)
    by_cases h2 : cut ≤ ((putN n).length : Int)
    · rw [if_pos h2, w64 (x := ((putN n).length : Int) - cut) (by omega), if_pos (by omega), if_pos (by omega), get_is (take_in (putN_bytes hn) _) (by rw [List.length_take]; omega) (by omega)]
      simp only [Option.bind_some]
      rw [getN_cut hn (by omega)]
      simp only [if_true]
      rw [show (200 : Nat) = 199 + 1 from rfl]
      simp only [engrosslaw1_NumCut.j0]
      rw [if_neg (by simp)]
      by_cases h3 : cut ≤ ((putS t).length : Int)
      · rw [if_pos h3, w64 (x := ((putS t).length : Int) - cut) (by omega), if_pos (by omega), if_pos (by omega), gettext_is (take_in (putS_bytes (by omega)) _) (by rw [List.length_take]; omega) (by omega)]
        simp only [Option.bind_some]
        rw [text h3]
        simp only [if_true]
        rw [if_pos (by decide +kernel)]
        rfl
      · rw [if_neg h3]
    · rw [if_neg h2]
      by_cases h3 : cut ≤ ((putS t).length : Int)
      · rw [if_pos h3, w64 (x := ((putS t).length : Int) - cut) (by omega), if_pos (by omega), if_pos (by omega), gettext_is (take_in (putS_bytes (by omega)) _) (by rw [List.length_take]; omega) (by omega)]
        simp only [Option.bind_some]
        rw [text h3]
        simp only [if_true]
        rw [if_pos (by decide +kernel)]
        rfl
      · rw [if_neg h3]
end Go.Proofs.Ytdgeenmpmjdbfaa.Pure
