/- KeySpan: a span and the next one make the whole: the plain statement of the law. -/
import Derived.Test.YtoeiogailnfbkaaKeyB
import Derived.Test.YtoeiogailnfbkaaPx5
set_option linter.unusedVariables false
set_option linter.unusedSimpArgs false
namespace Go.Proofs.Ytoeiogailnfbkaa.Pure
open Go.RowKit Go.Proofs.Ytoeiogailnfbkaa.P Go.Proofs.YtoeiogailnfbkaaW.PrintWords Go.Proofs.YtoeiogailnfbkaaW.PrintLast Go.Proofs.YtoeiogailnfbkaaW.PrintMore
theorem KeySpan : engrosslaw5_KeySpan.Pure := by
  intro s0 a0 b0 c0 _ _ _ _
  refine ⟨60, ?_⟩
  unfold engrosslaw5_KeySpan.f
  rw [begun5 (by omega)]
  simp only [Option.bind_some, if_true]
  obtain ⟨s, es, hs⟩ := cut_is s0 (n := 20)
  obtain ⟨a, ea, ha⟩ := cut_is a0 (n := 20)
  obtain ⟨b, eb, hb⟩ := cut_is b0 (n := 20)
  obtain ⟨c, ec, hc⟩ := cut_is c0 (n := 20)
  rw [show (20 : Int) = ((20 : Nat) : Int) from rfl, es, ea, eb, ec]
  simp only [Option.bind_some]
  rw [show (60 : Nat) = 59 + 1 from rfl]
  simp only [engrosslaw5_KeySpan.j0]
  by_cases h1 : b.toList = ([] : List UInt8)
  · rw [if_pos h1, if_pos trivial]
  · rw [if_neg h1]
    by_cases h2 : Op.bytesLess b.toList a.toList = true
    · rw [if_pos h2, if_pos trivial]
    · rw [if_neg h2]
      have key : (c.toList = [] ∨ Op.bytesLess c.toList b.toList = false) →
          (if false = true then some true else (key_In.f s a b).bind fun t204 => (key_In.f s b c).bind fun t205 => if t204 = true then (if t205 = true then some false else (key_In.f s a c).bind fun t206 => some (t206 == true)) else (key_In.f s a c).bind fun t207 => some (t207 == t205)) = some true := by
        intro hc'
        rw [if_neg (by decide), in_key, in_key, in_key]
        simp only [Option.bind_some, h1, decide_false, Bool.false_or]
        have h2' := Bool.eq_false_iff.2 h2
        rcases less_tri s.toList b.toList with g | g | g
        · rw [g]
          cases hsa : Op.bytesLess s.toList a.toList
          · rcases hc' with hc' | hc'
            · simp [hc']
            · have := lt_le g hc'
              simp [this]
          · simp
        · rw [g, less_irr, h2']
          simp
        · have hg := less_asym g
          have : Op.bytesLess s.toList a.toList = false := le_trans' h2' hg
          rw [hg, this]
          simp
      by_cases h3 : c.toList = ([] : List UInt8)
      · rw [if_pos h3]; exact key (.inl h3)
      · rw [if_neg h3]
        cases h4 : Op.bytesLess c.toList b.toList
        · exact key (.inr h4)
        · rw [if_pos rfl]
end Go.Proofs.Ytoeiogailnfbkaa.Pure
