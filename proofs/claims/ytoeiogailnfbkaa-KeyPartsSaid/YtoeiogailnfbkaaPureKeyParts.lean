/- KeyParts: the middle text parts what lies between: the plain statement of the law. -/
import Derived.Test.YtoeiogailnfbkaaKeyB
import Derived.Test.YtoeiogailnfbkaaPx6
set_option linter.unusedVariables false
set_option linter.unusedSimpArgs false
namespace Go.Proofs.Ytoeiogailnfbkaa.Pure
open Go.RowKit Go.Proofs.Ytoeiogailnfbkaa.P Go.Proofs.YtoeiogailnfbkaaW.PrintWords Go.Proofs.YtoeiogailnfbkaaW.PrintLast Go.Proofs.YtoeiogailnfbkaaW.PrintMore
theorem KeyParts : engrosslaw5_KeyParts.Pure := by
  intro a0 b0 c0 _ _ _
  refine ⟨60, ?_⟩
  unfold engrosslaw5_KeyParts.f
  rw [begun5 (by omega)]
  simp only [Option.bind_some, if_true]
  obtain ⟨a, ea, ha⟩ := cut_is a0 (n := 20)
  obtain ⟨b, eb, hb⟩ := cut_is b0 (n := 20)
  obtain ⟨c, ec, hc⟩ := cut_is c0 (n := 20)
  rw [show (20 : Int) = ((20 : Nat) : Int) from rfl, ea, eb, ec]
  simp only [Option.bind_some]
  by_cases h : Op.bytesLess a.toList b.toList = true
  · obtain ⟨m, hm, ho, hl, e⟩ := mid_lt hb h (k := 60) (by omega)
    rw [if_pos h, e]
    simp only [Option.bind_some]
    have hle : Op.bytesLess b.toList (b.extract 0 m).toList = false := by
      rw [ext_list, List.drop_zero]; exact less_take _ _
    unfold ov at ho
    by_cases h2 : Op.bytesLess a.toList c.toList = true
    · rw [if_pos h2]
      by_cases h3 : Op.bytesLess c.toList b.toList = true
      · rw [if_pos h3]
      · rw [if_neg h3, le_trans' hle (Bool.eq_false_iff.2 h3)]
        rfl
    · rw [if_neg h2, le_lt (Bool.eq_false_iff.2 h2) ho]
  · rw [if_neg h, mid_ge hb h (by omega)]
    simp only [Option.bind_some]
    have : (⟨#[]⟩ : ByteArray).toList = [] := by rw [Go.ByteArray.toList_eq]
    rw [this]; rfl
end Go.Proofs.Ytoeiogailnfbkaa.Pure
