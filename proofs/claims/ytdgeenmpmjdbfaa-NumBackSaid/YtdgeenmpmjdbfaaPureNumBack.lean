/- NumBack: any number and text go to their bytes and back, whatever stands ahead and behind: the plain statement of the law. -/
import Derived.Test.YtdgeenmpmjdbfaaNumB
import Derived.Test.YtdgeenmpmjdbfaaPx3
set_option linter.unusedVariables false
set_option linter.unusedSimpArgs false
namespace Go.Proofs.Ytdgeenmpmjdbfaa.Pure
open Go.RowKit Go.Proofs.Ytdgeenmpmjdbfaa.P Go.Proofs.YtdgeenmpmjdbfaaW.PrintWords Go.Proofs.YtdgeenmpmjdbfaaW.PrintLast Go.Proofs.YtdgeenmpmjdbfaaW.PrintMore

theorem app_in {l m : List Int} (h : ∀ c ∈ l, 0 ≤ c ∧ c ≤ 255) (h2 : ∀ c ∈ m, 0 ≤ c ∧ c ≤ 255) : ∀ c ∈ l ++ m, 0 ≤ c ∧ c ≤ 255 := by
  intro c hc
  rcases List.mem_append.1 hc with hc | hc
  · exact h c hc
  · exact h2 c hc
theorem str_app (l m : List Int) : (strOfNums (l ++ m)).toList = (strOfNums l ++ strOfNums m).toList := by
  rw [Go.ByteArray.toList_eq, Go.ByteArray.toList_eq]
  simp [strOfNums]

theorem NumBack : engrosslaw1_NumBack.Pure := by
  intro ahead rest n s _ _ ha _ _ hr hn hs
  refine ⟨200, ?_⟩
  unfold engrosslaw1_NumBack.f
  rw [begun1 (by omega)]
  simp only [Option.bind_some, if_true]
  obtain ⟨t, ht, hts, _⟩ := cut_is s (n := 100)
  rw [show (20 : Int) = ((20 : Nat) : Int) from rfl, show (100 : Int) = ((100 : Nat) : Int) from rfl, short_is, short_is, ht]
  try simp only [Option.bind_some]
  have hal : (ahead.take 20).length ≤ 20 := by rw [List.length_take]; omega
  have hrl : (rest.take 20).length ≤ 20 := by rw [List.length_take]; omega
  have hab : ∀ c ∈ ahead.take 20, 0 ≤ c ∧ c ≤ 255 := fun c hc => wf_u8 (ha c (List.mem_of_mem_take hc))
  have hrb : ∀ c ∈ rest.take 20, 0 ≤ c ∧ c ≤ 255 := fun c hc => wf_u8 (hr c (List.mem_of_mem_take hc))
  generalize ahead.take 20 = A at hal hab
  generalize rest.take 20 = R at hrl hrb
  have hbl := putN_len hn
  have hcl := putS_len (s := t) (by omega)
  rw [if_pos (by simp; omega), List.nil_append, put_is hn (by omega) (by omega)]
  try simp only [Option.bind_some]
  rw [puttext_is (s := t) (by omega) (by omega) (by omega)]
  try simp only [Option.bind_some]
  rw [rput_is hn (by omega)]
  try simp only [Option.bind_some]
  rw [if_pos (by rw [strOfNums_size, strOfNums_size]; omega), if_pos (str_app _ _), rputtext_is (by omega) (by omega)]
  try simp only [Option.bind_some]
  rw [if_pos (by rw [strOfNums_size, strOfNums_size]; omega), str_app, show (200 : Nat) = 199 + 1 from rfl]
  simp only [engrosslaw1_NumBack.j0]
  rw [if_neg (by simp), if_pos (by omega), if_pos (by simp only [List.length_append]; omega)]
  try simp only [Option.bind_some]
  have e1 : ((A.length : Int) : Int).toNat = A.length := by omega
  rw [e1, List.drop_left, if_pos (by simp; omega), List.nil_append]
  try simp only [Option.bind_some]
  rw [if_pos (by omega), get_is (app_in (putN_bytes hn) hrb) (by rw [List.length_append]; omega) (by omega)]
  try simp only [Option.bind_some]
  rw [if_pos (by simp only [List.length_append]; omega)]
  rw [List.drop_left, if_pos (by simp; omega), List.nil_append, if_pos (by omega), gettext_is (app_in (putS_bytes (by omega)) hrb) (by rw [List.length_append]; omega) (by omega)]
  try simp only [Option.bind_some]
  rw [getN_putN hn, getS_putS (by omega)]
  rw [if_pos rfl, if_pos rfl]
  rw [w64 (x := ((A ++ putN n).length : Int) - A.length) (by simp only [List.length_append]; omega), w64 (x := ((A ++ putS t).length : Int) - A.length) (by simp only [List.length_append]; omega), if_pos (by simp only [List.length_append]; omega), if_pos rfl, if_pos rfl]
  simp only [Option.some.injEq, beq_iff_eq, List.length_append]
  omega
end Go.Proofs.Ytdgeenmpmjdbfaa.Pure
