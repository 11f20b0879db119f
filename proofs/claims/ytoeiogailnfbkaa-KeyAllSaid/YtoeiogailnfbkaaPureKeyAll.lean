/- KeyAll: any three texts, as the reference says: the plain statement of the law. -/
import Derived.Test.YtoeiogailnfbkaaKeyB
import Derived.Test.YtoeiogailnfbkaaPx3
import Derived.Test.YtoeiogailnfbkaaPx4
set_option linter.unusedVariables false
set_option linter.unusedSimpArgs false
namespace Go.Proofs.Ytoeiogailnfbkaa.Pure
open Go.RowKit Go.Proofs.Ytoeiogailnfbkaa.P Go.Proofs.YtoeiogailnfbkaaW.PrintWords Go.Proofs.YtoeiogailnfbkaaW.PrintLast Go.Proofs.YtoeiogailnfbkaaW.PrintMore
theorem in_ref (s a b : ByteArray) : engrossref1_In.f s a b = key_In.f s a b := rfl
theorem may_ref (s : ByteArray) : engrossref1_MayKey.f s = key_May.f s := by
  rw [may_key]
  unfold engrossref1_MayKey.f
  by_cases h : (s.size : Int) ≥ 1
  · rw [if_pos h]
    congr 1
    rw [Bool.eq_iff_iff]
    simp
    omega
  · rw [if_neg h]
    congr 1
    rw [Bool.eq_iff_iff]
    simp
    omega
theorem bt0 (s : ByteArray) (h : 0 < s.size) : (bt s 0 == 102) = decide ((s.extract 0 1).toList = ([102] : List UInt8)) := by
  have e : (s.extract 0 1).toList = [s[0]'h] := by
    rw [ext_list, List.drop_zero, Go.ByteArray.toList_eq]
    have h1 : 0 < s.data.toList.length := h
    cases hl : s.data.toList with
    | nil => rw [hl] at h1; cases h1
    | cons a l =>
      have : s.data.toList[0]? = some (s.data[0]'h) := by
        rw [List.getElem?_eq_getElem (by exact h)]
        rfl
      rw [hl] at this
      have : a = s.data[0]'h := Option.some.inj this
      rw [this]
      rfl
  rw [e]
  have e2 : bt s 0 = ((s[0]'h).toNat : Int) := by
    unfold bt
    rw [dif_pos (show (0 : Int).toNat < s.size from h)]
    rfl
  rw [e2, Bool.eq_iff_iff]
  simp only [beq_iff_eq, decide_eq_true_eq, List.cons.injEq, and_true, ← UInt8.toNat_inj]
  constructor
  · intro h
    have : (s[0]'‹_›).toNat = 102 := by omega
    rw [this]; rfl
  · intro h
    rw [h]; rfl
theorem all_j1 (k : Nat) (s a b : ByteArray) (f : Nat) (ok : Bool) (h : ok = false → f = 0) : engrosslaw5_KeyAll.j1 (k + 1) s a b f ok ok = some true := by
  simp only [engrosslaw5_KeyAll.j1]
  rw [may_ref, in_ref, may_key, in_key]
  simp only [Option.bind_some]
  rw [if_pos (by simp), if_pos (by simp), if_pos (by simp)]
  cases ok
  · rw [if_neg (by decide), bits_is, h rfl]; rfl
  · rw [if_pos rfl]
theorem KeyAll : engrosslaw5_KeyAll.Pure := by
  intro s0 a0 b0 _ _ _
  refine ⟨60, ?_⟩
  unfold engrosslaw5_KeyAll.f
  rw [begun5 (by omega)]
  simp only [Option.bind_some, if_true]
  obtain ⟨s, es, hs⟩ := cut_is s0 (n := 20)
  obtain ⟨a, ea, ha⟩ := cut_is a0 (n := 20)
  obtain ⟨b, eb, hb⟩ := cut_is b0 (n := 20)
  rw [show (20 : Int) = ((20 : Nat) : Int) from rfl, es, ea, eb]
  simp only [Option.bind_some]
  rw [float_key s (by omega) (by omega)]
  simp only [Option.bind_some]
  rw [show (60 : Nat) = 58 + 1 + 1 from rfl]
  simp only [engrosslaw5_KeyAll.j0]
  have hno : (flL s).2 = false → (flL s).1 = 0 := by
    unfold flL ofL
    split
    · split
      · split
        · intro h; cases h
        · intro _; rfl
      · intro _; rfl
    · intro _; rfl
  by_cases h9 : (s.size : Int) = 9
  · rw [if_pos h9, if_pos (by omega), bt0 s (by omega)]
    by_cases hf : (s.extract 0 1).toList = ([102] : List UInt8)
    · have hl : (bytesOf (s.extract 1 s.size)).length = 8 := by rw [bytesOf_length, ByteArray.size_extract]; omega
      rw [if_pos (by rw [decide_eq_true_eq]; exact hf), if_pos (by omega), if_pos (by rw [ByteArray.size_extract]; omega), rof_is (bytesOf_bytes _) (by omega), if_pos hl]
      simp only [Option.bind_some]
      have e : flL s = if pl (fo (unbe (bytesOf (s.extract 1 s.size)))) = unbe (bytesOf (s.extract 1 s.size)) then (fo (unbe (bytesOf (s.extract 1 s.size))), true) else (0, false) := by
        unfold flL ofL
        rw [if_pos hf, if_pos hl]
      by_cases hp : pl (fo (unbe (bytesOf (s.extract 1 s.size)))) = unbe (bytesOf (s.extract 1 s.size))
      · rw [if_pos hp] at e
        rw [e, decide_eq_true hp, if_pos rfl, bits_is]
        simp only [Option.bind_some]
        rw [if_pos (by simp)]
        exact all_j1 _ _ _ _ _ _ (fun h => by cases h)
      · rw [if_neg hp] at e
        rw [e, decide_eq_false hp, if_neg (by decide)]
        exact all_j1 _ _ _ _ _ _ (fun _ => rfl)
    · rw [if_neg (by rw [decide_eq_true_eq]; exact hf)]
      have e : flL s = (0, false) := by unfold flL; rw [if_neg hf]
      rw [e]
      exact all_j1 _ _ _ _ _ _ (fun _ => rfl)
  · rw [if_neg h9, if_neg (by decide)]
    have e : (flL s).2 = false := by
      unfold flL ofL
      split
      · rw [if_neg (by rw [bytesOf_length, ByteArray.size_extract]; omega)]
      · rfl
    rw [e]
    exact all_j1 _ _ _ _ _ _ (fun _ => hno e)
end Go.Proofs.Ytoeiogailnfbkaa.Pure
