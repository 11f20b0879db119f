/- The law NodeKids returns true for every input: the words, the walks and the plain statement that its row needs. No condition. (Merged by a program of this session out of its own texts.) -/
import Derived.ArgAppend
import Derived.Below
import Derived.BigQuiet
import Derived.Deep.AppendLies
import Derived.Deep.CutBlock
import Derived.Deep.DeepCutAuto
import Derived.Deep.Draws
import Derived.Deep.LoopGhost
import Derived.Deep.OwnRows
import Derived.Deep.QuietTactic
import Derived.Deep.RegionHeld3
import Derived.KernelRfl
import Derived.Laws.BitsAllLaws
import Derived.Laws.BitsLemmas
import Derived.Laws.BytesArg
import Derived.Laws.Cover2
import Derived.Laws.Externs
import Derived.Laws.FloatArith
import Derived.Laws.IdiomCopy
import Derived.Laws.MakeOwn
import Derived.Laws.OwnMore
import Derived.Laws.Rows
import Derived.Laws.Slices
import Derived.Laws.StructEq
import Derived.Lib.AppendStr
import Derived.Lib.ConvBytes
import Derived.Maps.AppendAt
import Derived.OrdersHeld
import Derived.OwnWalk
import Derived.RowKit
import Derived.RowKit3
import Derived.Tactics
import Derived.Test.YtmmjpieafbjggaaProg
import Derived.WalkKit
import Derived.WideLaws
import Derived.Test.YtmmjpieafbjggaaQNodeKids2
import Derived.Test.YtmmjpieafbjggaaQNodeKids3
import Derived.Test.YtmmjpieafbjggaaQNodeKids4
import Derived.Test.YtmmjpieafbjggaaQNodeKids5
import Derived.Test.YtmmjpieafbjggaaQNodeKids6
import Derived.Test.YtmmjpieafbjggaaQNodeKids7
import Derived.Test.YtmmjpieafbjggaaQNodeKids8
section
set_option linter.unusedVariables false
set_option linter.unusedSimpArgs false
namespace Go.Proofs.Ytmmjpieafbjggaa.Pure
open Go.RowKit Go.Proofs.Ytmmjpieafbjggaa.P Go.Proofs.YtmmjpieafbjggaaW.PrintWords Go.Proofs.YtmmjpieafbjggaaW.PrintLast Go.Proofs.YtmmjpieafbjggaaW.PrintMore
theorem clean_is (a : Nat) : float_Clean.f a = some (if 9218868437227405312 < a % 9223372036854775808 then 9221120237041090560 else a) := by
  unfold float_Clean.f math_IsNaN.f
  rw [self_ne]
  simp only [Option.bind_some, decide_eq_true_eq]
  split <;> rfl
theorem w64' {x : Int} (h : -9223372036854775808 ≤ x ∧ x ≤ 9223372036854775807) : wrap64 x = x := by unfold wrap64; omega
end Go.Proofs.Ytmmjpieafbjggaa.Pure
end
section
set_option linter.unusedVariables false
set_option linter.unusedSimpArgs false
namespace Go.Proofs.Ytmmjpieafbjggaa.Pure
open Go.RowKit Go.Proofs.Ytmmjpieafbjggaa.P Go.Proofs.YtmmjpieafbjggaaW.PrintWords Go.Proofs.YtmmjpieafbjggaaW.PrintLast Go.Proofs.YtmmjpieafbjggaaW.PrintMore
theorem w64 {x : Int} (h : -9223372036854775808 ≤ x ∧ x ≤ 9223372036854775807) : wrap64 x = x := by unfold wrap64; omega
end Go.Proofs.Ytmmjpieafbjggaa.Pure
end
section
set_option linter.unusedVariables false
set_option linter.unusedSimpArgs false
namespace Go.Proofs.Ytmmjpieafbjggaa.Pure
open Go.RowKit Go.Proofs.Ytmmjpieafbjggaa.P Go.Proofs.YtmmjpieafbjggaaW.PrintWords Go.Proofs.YtmmjpieafbjggaaW.PrintLast Go.Proofs.YtmmjpieafbjggaaW.PrintMore
/-- All NaNs one. -/
def cl (f : Nat) : Nat := if 9218868437227405312 < f % 9223372036854775808 then 9221120237041090560 else f
/-- May a value be? -/
def mayV (kd : Int) (f : Nat) (s : ByteArray) : Bool :=
  if kd = 0 then decide (f = 0) && decide (s.toList = []) else if kd = 1 then decide (s.toList = []) && decide (cl f = f) else if kd = 2 then decide (f = 0) && decide (s.size ≤ 20) else false
theorem may_is (kd : Int) (f : Nat) (s : ByteArray) : datum_May.f kd f s = some (mayV kd f s) := by
  unfold datum_May.f mayV datum_zero.f
  simp only [Option.bind_some]
  by_cases h0 : kd = 0
  · rw [if_pos h0, if_pos h0]
    by_cases hf : f = 0
    · subst hf
      rw [if_pos (by rfl)]
      congr 1
      rw [Bool.eq_iff_iff]
      simp
    · rw [if_neg (by simp; omega)]
      simp [hf]
  · rw [if_neg h0, if_neg h0]
    by_cases h1 : kd = 1
    · rw [if_pos h1, if_pos h1]
      by_cases hs : s.toList = []
      · rw [if_pos hs, clean_is]
        simp only [Option.bind_some]
        congr 1
        rw [Bool.eq_iff_iff]
        unfold cl
        simp only [hs, decide_true, Bool.true_and, beq_iff_eq, decide_eq_true_eq]
        omega
      · rw [if_neg hs]
        simp [hs]
    · rw [if_neg h1, if_neg h1]
      by_cases h2 : kd = 2
      · rw [if_pos h2, if_pos h2]
        by_cases hf : f = 0
        · subst hf
          rw [if_pos (by rfl)]
          congr 1
          rw [Bool.eq_iff_iff]
          simp
          omega
        · rw [if_neg (by simp; omega)]
          simp [hf]
      · rw [if_neg h2, if_neg h2]
theorem cut_mid {l : List Int} {n : Nat} : (l.take (n + 8)).drop n = (l.drop n).take 8 := by
  rw [List.drop_take]
  congr 1
  omega
end Go.Proofs.Ytmmjpieafbjggaa.Pure
end
section
set_option linter.unusedVariables false
set_option linter.unusedSimpArgs false
namespace Go.Proofs.Ytmmjpieafbjggaa.Pure
open Go.RowKit Go.Proofs.Ytmmjpieafbjggaa.P Go.Proofs.YtmmjpieafbjggaaW.PrintWords Go.Proofs.YtmmjpieafbjggaaW.PrintLast Go.Proofs.YtmmjpieafbjggaaW.PrintMore
/-- May a text be a key? -/
def mayK (s : ByteArray) : Bool := decide (1 ≤ s.size) && decide (s.size ≤ 16)
theorem list_nil_iff (s : ByteArray) : s.toList = ([] : List UInt8) ↔ s.size = 0 := by
  rw [Go.ByteArray.toList_eq]
  constructor
  · intro h
    have := congrArg List.length h
    rw [Array.length_toList] at this
    exact this
  · intro h
    refine List.eq_nil_of_length_eq_zero ?_
    rw [Array.length_toList]
    exact h
theorem maykey_is (s : ByteArray) : key_May.f s = some (mayK s) := by
  unfold key_May.f mayK
  by_cases h : s.toList = ([] : List UInt8)
  · rw [if_pos h]
    have := (list_nil_iff s).1 h
    simp [this]
  · rw [if_neg h]
    have h0 : ¬ s.size = 0 := fun e => h ((list_nil_iff s).2 e)
    congr 1
    rw [Bool.eq_iff_iff]
    simp only [decide_eq_true_eq, Bool.and_eq_true]
    omega
/-- May a cell be? -/
def mayC (s : ByteArray) (kd : Int) (f : Nat) (t : ByteArray) (x : Int) (kd' : Int) (f' : Nat) (t' : ByteArray) : Bool :=
  mayK s && mayV kd f t && mayV kd' f' t' && decide (0 ≤ x) && decide (x ≤ 1099511627776) && (decide (0 < x) || decide (kd' = 0) && decide (kd ≠ 0))
theorem maycell_is (s : ByteArray) (kd : Int) (f : Nat) (t : ByteArray) (x : Int) (kd' : Int) (f' : Nat) (t' : ByteArray) {k : Nat} (hk : 1 ≤ k) : cell_May.f k s kd f t x kd' f' t' = some (mayC s kd f t x kd' f' t') := by
  obtain ⟨k, rfl⟩ : ∃ m, k = m + 1 := ⟨k - 1, by omega⟩
  unfold cell_May.f mayC
  rw [maykey_is, may_is, may_is]
  simp only [Option.bind_some, cell_May.j0, cell_none.f]
  cases mayK s
  · simp
  · cases mayV kd f t
    · simp
    · cases mayV kd' f' t'
      · simp
      · simp only [if_true, Bool.true_and]
        by_cases h0 : x < 0
        · rw [if_pos h0, decide_eq_false (show ¬ 0 ≤ x by omega)]; simp
        · rw [if_neg h0, decide_eq_true (show 0 ≤ x by omega)]
          by_cases h1 : x > 1099511627776
          · rw [decide_eq_true h1, decide_eq_false (show ¬ x ≤ 1099511627776 by omega)]; simp
          · rw [decide_eq_false h1, decide_eq_true (show x ≤ 1099511627776 by omega)]
            by_cases h2 : x > 0
            · simp [h2]
            · rw [if_neg (by decide), if_neg h2, decide_eq_false (show ¬ 0 < x by omega)]
              by_cases h3 : kd' = 0
              · simp only [h3, decide_true, Bool.true_and, Bool.false_or, if_true]
                by_cases h4 : kd = 0
                · simp [h4]
                · simp [h4]
              · simp [h3]
theorem toList_inj {s s' : ByteArray} (h : s.toList = s'.toList) : s = s' := by
  rw [Go.ByteArray.toList_eq, Go.ByteArray.toList_eq] at h
  exact ByteArray.ext (Array.toList_inj.1 h)
end Go.Proofs.Ytmmjpieafbjggaa.Pure
end
section
set_option linter.unusedVariables false
set_option linter.unusedSimpArgs false
namespace Go.Proofs.Ytmmjpieafbjggaa.Pure
open Go.RowKit Go.Proofs.Ytmmjpieafbjggaa.P Go.Proofs.YtmmjpieafbjggaaW.PrintWords Go.Proofs.YtmmjpieafbjggaaW.PrintLast Go.Proofs.YtmmjpieafbjggaaW.PrintMore
theorem drop_step {α : Type} {l : List α} {c : α} {cs : List α} {i : Nat} (h : l.drop i = c :: cs) : ∃ hlt : i < l.length, l[i] = c ∧ l.drop (i + 1) = cs := by
  have hlt : i < l.length := by
    have := congrArg List.length h
    simp at this
    omega
  have := List.getElem_cons_drop hlt
  rw [h] at this
  exact ⟨hlt, List.cons.inj this⟩
theorem drop_nil {α : Type} {l : List α} {i : Nat} (h : l.drop i = []) : l.length ≤ i := List.drop_eq_nil_iff.1 h
/-- What stands ahead of a place. -/
def prevO {α : Type} (l : List α) (i : Nat) : Option α := if i = 0 then none else l[i - 1]?
theorem prevO_zero {α : Type} (l : List α) : prevO l 0 = none := rfl
theorem prevO_succ {α : Type} {l : List α} {c : α} {cs : List α} {i : Nat} (h : l.drop i = c :: cs) : prevO l (i + 1) = some c := by
  obtain ⟨hlt, h1, _⟩ := drop_step h
  unfold prevO
  rw [if_neg (by omega), Nat.add_sub_cancel, List.getElem?_eq_getElem hlt, h1]
theorem prevO_pos {α : Type} {l : List α} {i : Nat} (h0 : 0 < i) (h1 : i ≤ l.length) : ∃ hlt : i - 1 < l.length, prevO l i = some (l[i - 1]'hlt) := by
  refine ⟨by omega, ?_⟩
  unfold prevO
  rw [if_neg (by omega), List.getElem?_eq_getElem (by omega)]
theorem rd62 {l : List S62} {i : Nat} (h : i < l.length) : rd_T62 l (i : Int) = l[i] := by
  unfold rd_T62
  simp [List.getD, h]
theorem rd56 {l : List S56} {i : Nat} (h : i < l.length) : rd_T56 l (i : Int) = l[i] := by
  unfold rd_T56
  simp [List.getD, h]
theorem rdS {l : List ByteArray} {i : Nat} (h : i < l.length) : rdOf ByteArray.empty l (i : Int) = l[i] := by
  unfold rdOf
  simp [List.getD, h]
theorem rdI {l : List Int} {i : Nat} (h : i < l.length) : rd l (i : Int) = l[i] := by
  unfold rd
  simp [List.getD, h]
def mayCell (x : S62) : Bool := mayC x.f0 x.f1.f0 x.f1.f1 x.f1.f2 x.f2 x.f3.f0 x.f3.f1 x.f3.f2
/-- Below a key, if there is one ahead. -/
def ltO (p : Option ByteArray) (s : ByteArray) : Bool := match p with | none => true | some q => Op.bytesLess q.toList s.toList
def goodC : Option ByteArray → List S62 → Bool
 | _, [] => true
 | p, x :: xs => mayCell x && (ltO p x.f0 && goodC (some x.f0) xs)
def goodK : Option ByteArray → List ByteArray → Bool
 | _, [] => true
 | p, x :: xs => mayK x && (ltO p x && goodK (some x) xs)
def goodI (l : List Int) : Bool := l.all fun n => decide (2 ≤ n) && decide (n < 32)
/-- May a node be? -/
def mayN (leaf : Bool) (cs : List S62) (keys : List ByteArray) (kids : List Int) : Bool :=
  if leaf = true then goodC none cs && (decide (keys.length = 0) && decide (kids.length = 0))
  else decide (cs.length = 0) && (goodK none keys && (goodI kids && (decide (1 ≤ kids.length) && (decide (kids.length ≤ 32) && decide (keys.length + 1 = kids.length)))))
theorem mayn_l0 (l : List S62) (keys : List ByteArray) (kids : List Int) (hl : l.length ≤ 1000) (cs : List S62) : ∀ (k i : Nat), l.drop i = cs → cs.length + 10 < k →
    node_May.l0 k l (l.length : Int) (i : Int) true l keys kids = some (goodC ((prevO l i).map S62.f0) cs && (decide (keys.length = 0) && decide (kids.length = 0))) := by
  induction cs with
  | nil =>
    intro k i hd hk
    obtain ⟨k, rfl⟩ : ∃ m, k = m + 1 := ⟨k - 1, by omega⟩
    have hi := drop_nil hd
    simp only [node_May.l0]
    rw [if_neg (by omega), if_pos trivial]
    simp only [goodC, Bool.true_and]
    by_cases h0 : keys.length = 0
    · rw [if_pos (by omega), decide_eq_true h0, Bool.true_and]
      congr 1
      rw [Bool.eq_iff_iff]
      simp only [beq_iff_eq, decide_eq_true_eq]
      omega
    · rw [if_neg (by omega), decide_eq_false h0, Bool.false_and]
  | cons c cs ih =>
    intro k i hd hk
    obtain ⟨k, rfl⟩ : ∃ m, k = m + 1 := ⟨k - 1, by omega⟩
    obtain ⟨hlt, hc, hd2⟩ := drop_step hd
    simp only [List.length_cons] at hk
    simp only [node_May.l0]
    rw [if_pos (by omega), if_pos (by omega), if_pos (by omega), if_pos trivial, rd62 hlt, hc, maycell_is _ _ _ _ _ _ _ _ (by omega), w64 (x := (i : Int) + 1) (by omega), show (i : Int) + 1 = ((i + 1 : Nat) : Int) from rfl]
    simp only [Option.bind_some, goodC]
    have hih := ih k (i + 1) hd2 (by omega)
    rw [prevO_succ hd] at hih
    show (if mayCell c = true then _ else _) = _
    cases hm : mayCell c
    · rw [if_neg (by decide)]
      simp
    · rw [if_pos rfl]
      by_cases h0 : 0 < i
      · obtain ⟨hlt', hp⟩ := prevO_pos (l := l) h0 (by omega)
        rw [if_pos (by omega), w64 (x := (i : Int) - 1) (by omega), show (i : Int) - 1 = ((i - 1 : Nat) : Int) by omega, if_pos (by omega), if_pos (by omega), rd62 hlt', hp]
        simp only [Option.map_some, ltO]
        by_cases hb : Op.bytesLess (l[i - 1].f0).toList (c.f0).toList = true
        · rw [if_pos hb, hih, hb]
          simp
        · rw [if_neg hb, Bool.eq_false_iff.2 hb]
          simp
      · have hi0 : i = 0 := by omega
        subst hi0
        rw [if_neg (by omega), hih, prevO_zero]
        simp [ltO]
theorem mayn_l2 (l : List Int) (keys : List ByteArray) (cs : List S62) (hl : l.length ≤ 1000) (ks : List Int) : ∀ (k i : Nat), l.drop i = ks → ks.length + 2 < k →
    node_May.l2 k l (l.length : Int) (i : Int) false cs keys l = some (goodI ks && (decide (1 ≤ l.length) && (decide (l.length ≤ 32) && decide (keys.length + 1 = l.length)))) := by
  induction ks with
  | nil =>
    intro k i hd hk
    obtain ⟨k, rfl⟩ : ∃ m, k = m + 1 := ⟨k - 1, by omega⟩
    have hi := drop_nil hd
    simp only [node_May.l2]
    rw [if_neg (by omega), w64 (x := (l.length : Int) - 1) (by omega)]
    simp only [goodI, List.all_nil, Bool.true_and]
    by_cases h1 : 1 ≤ l.length
    · rw [if_pos (by omega), decide_eq_true h1, Bool.true_and]
      by_cases h2 : l.length ≤ 32
      · rw [if_pos (by omega), decide_eq_true h2, Bool.true_and]
        congr 1
        rw [Bool.eq_iff_iff]
        simp only [beq_iff_eq, decide_eq_true_eq]
        omega
      · rw [if_neg (by omega), decide_eq_false h2, Bool.false_and]
    · rw [if_neg (by omega), decide_eq_false h1, Bool.false_and]
  | cons c ks ih =>
    intro k i hd hk
    obtain ⟨k, rfl⟩ : ∃ m, k = m + 1 := ⟨k - 1, by omega⟩
    obtain ⟨hlt, hc, hd2⟩ := drop_step hd
    simp only [List.length_cons] at hk
    simp only [node_May.l2]
    have hih := ih k (i + 1) hd2 (by omega)
    rw [if_pos (by omega), if_pos (by omega), if_pos (by omega), rdI hlt, hc, w64 (x := (i : Int) + 1) (by omega), show (i : Int) + 1 = ((i + 1 : Nat) : Int) from rfl, hih]
    simp only [goodI, List.all_cons]
    by_cases h2 : c < 2
    · rw [if_pos h2, decide_eq_false (show ¬ 2 ≤ c by omega)]
      simp
    · rw [if_neg h2, decide_eq_true (show 2 ≤ c by omega)]
      by_cases h3 : c ≥ 32
      · rw [if_pos h3, decide_eq_false (show ¬ c < 32 by omega)]
        simp
      · rw [if_neg h3, decide_eq_true (show c < 32 by omega)]
        simp
theorem mayn_l1 (l : List ByteArray) (kids : List Int) (cs : List S62) (hl : l.length ≤ 1000) (hl2 : kids.length ≤ 1000) (ks : List ByteArray) : ∀ (k i : Nat), l.drop i = ks → ks.length + kids.length + 10 < k →
    node_May.l1 k l (l.length : Int) (i : Int) false cs l kids = some (goodK (prevO l i) ks && (goodI kids && (decide (1 ≤ kids.length) && (decide (kids.length ≤ 32) && decide (l.length + 1 = kids.length))))) := by
  induction ks with
  | nil =>
    intro k i hd hk
    obtain ⟨k, rfl⟩ : ∃ m, k = m + 1 := ⟨k - 1, by omega⟩
    have hi := drop_nil hd
    simp only [node_May.l1]
    rw [if_neg (by omega)]
    have h := mayn_l2 kids l cs hl2 kids k 0 rfl (by omega)
    rw [show ((0 : Nat) : Int) = 0 from rfl] at h
    rw [h]
    simp [goodK]
  | cons c ks ih =>
    intro k i hd hk
    obtain ⟨k, rfl⟩ : ∃ m, k = m + 1 := ⟨k - 1, by omega⟩
    obtain ⟨hlt, hc, hd2⟩ := drop_step hd
    simp only [List.length_cons] at hk
    simp only [node_May.l1]
    have hih := ih k (i + 1) hd2 (by omega)
    rw [prevO_succ hd] at hih
    rw [if_pos (by omega), if_pos (by omega), if_pos (by omega), rdS hlt, hc, maykey_is, w64 (x := (i : Int) + 1) (by omega), show (i : Int) + 1 = ((i + 1 : Nat) : Int) from rfl]
    simp only [Option.bind_some, goodK]
    cases hm : mayK c
    · rw [if_neg (by decide)]
      simp
    · rw [if_pos rfl]
      by_cases h0 : 0 < i
      · obtain ⟨hlt', hp⟩ := prevO_pos (l := l) h0 (by omega)
        rw [if_pos (by omega), w64 (x := (i : Int) - 1) (by omega), show (i : Int) - 1 = ((i - 1 : Nat) : Int) by omega, if_pos (by omega), if_pos (by omega), rdS hlt', hp]
        simp only [ltO]
        by_cases hb : Op.bytesLess (l[i - 1]).toList c.toList = true
        · rw [if_pos hb, hih, hb]
          simp
        · rw [if_neg hb, Bool.eq_false_iff.2 hb]
          simp
      · have hi0 : i = 0 := by omega
        subst hi0
        rw [if_neg (by omega), hih, prevO_zero]
        simp [ltO]
theorem maynode_is (leaf : Bool) (cs : List S62) (keys : List ByteArray) (kids : List Int) (h1 : cs.length ≤ 1000) (h2 : keys.length ≤ 1000) (h3 : kids.length ≤ 1000) {k : Nat} (hk : 4000 ≤ k) :
    node_May.f k leaf cs keys kids = some (mayN leaf cs keys kids) := by
  unfold node_May.f mayN
  cases leaf
  · rw [if_neg (by decide)]
    obtain ⟨k, rfl⟩ : ∃ m, k = m + 1 := ⟨k - 1, by omega⟩
    cases cs with
    | nil =>
      simp only [node_May.l0, List.length_nil]
      rw [if_neg (by decide), if_neg (by decide)]
      have h := mayn_l1 keys kids [] h2 h3 keys k 0 rfl (by omega)
      rw [show ((0 : Nat) : Int) = 0 from rfl, prevO_zero] at h
      rw [h]
      simp
    | cons c cs =>
      simp only [node_May.l0]
      rw [if_pos (by simp only [List.length_cons]; omega), if_pos (by decide), if_pos (by simp only [List.length_cons]; omega), if_neg (by decide)]
      simp
  · rw [if_pos rfl]
    have h := mayn_l0 cs keys kids h1 cs k 0 rfl (by omega)
    rw [show ((0 : Nat) : Int) = 0 from rfl, prevO_zero] at h
    exact h
theorem mayN_inner {cs : List S62} {keys : List ByteArray} {kids : List Int} (h : mayN false cs keys kids = true) : cs = [] ∧ goodK none keys = true ∧ goodI kids = true ∧ 1 ≤ kids.length ∧ kids.length ≤ 32 ∧ keys.length + 1 = kids.length := by
  unfold mayN at h
  rw [if_neg (by decide)] at h
  simp only [Bool.and_eq_true, decide_eq_true_eq] at h
  exact ⟨List.eq_nil_of_length_eq_zero h.1, h.2.1, h.2.2.1, h.2.2.2.1, h.2.2.2.2.1, h.2.2.2.2.2⟩
def toC (x : S56) : S62 := ⟨x.f0, x.f1, x.f2, x.f3⟩
theorem ofn_l0 (leaf : Bool) (l : List S56) (keys : List ByteArray) (kids : List Int) (hl : l.length ≤ 1000) (cs : List S56) : ∀ (k i : Nat) (acc : List S62), l.drop i = cs → cs.length + 2 < k → acc.length ≤ i →
    engrosslaw11_Of.l0 k (i : Int) leaf l keys kids leaf acc keys kids = some (leaf, acc ++ cs.map toC, keys, kids) := by
  induction cs with
  | nil =>
    intro k i acc hd hk ha
    obtain ⟨k, rfl⟩ : ∃ m, k = m + 1 := ⟨k - 1, by omega⟩
    have hi := drop_nil hd
    simp only [engrosslaw11_Of.l0]
    rw [if_neg (by omega)]
    simp
  | cons c cs ih =>
    intro k i acc hd hk ha
    obtain ⟨k, rfl⟩ : ∃ m, k = m + 1 := ⟨k - 1, by omega⟩
    obtain ⟨hlt, hc, hd2⟩ := drop_step hd
    simp only [List.length_cons] at hk
    simp only [engrosslaw11_Of.l0]
    rw [if_pos (by omega), if_pos (by omega), rd56 hlt, hc]
    simp only [engrosslaw10_Of.f, Option.bind_some]
    rw [if_pos (by omega), w64 (x := (i : Int) + 1) (by omega), show (i : Int) + 1 = ((i + 1 : Nat) : Int) from rfl]
    have := ih k (i + 1) (acc ++ [toC c]) hd2 (by omega) (by rw [List.length_append]; simp; omega)
    rw [show (⟨c.f0, (⟨c.f1.f0, c.f1.f1, c.f1.f2⟩ : S54), c.f2, (⟨c.f3.f0, c.f3.f1, c.f3.f2⟩ : S54)⟩ : S62) = toC c from rfl, this]
    simp
theorem ofn_is (leaf : Bool) (l : List S56) (keys : List ByteArray) (kids : List Int) (hl : l.length ≤ 1000) {k : Nat} (hk : 1010 ≤ k) : engrosslaw11_Of.f k leaf l keys kids = some (leaf, l.map toC, keys, kids) := by
  unfold engrosslaw11_Of.f
  have := ofn_l0 leaf l keys kids hl l k 0 [] rfl (by omega) (by simp)
  rw [show ((0 : Nat) : Int) = 0 from rfl] at this
  rw [this]
  simp
end Go.Proofs.Ytmmjpieafbjggaa.Pure
end
section
set_option linter.unusedVariables false
set_option linter.unusedSimpArgs false
namespace Go.Proofs.Ytmmjpieafbjggaa.Pure
open Go.RowKit Go.Proofs.Ytmmjpieafbjggaa.P Go.Proofs.YtmmjpieafbjggaaW.PrintWords Go.Proofs.YtmmjpieafbjggaaW.PrintLast Go.Proofs.YtmmjpieafbjggaaW.PrintMore
/-- Texts, each below the next ones. -/
def Rise (l : List ByteArray) : Prop := ∀ (i j : Nat) (hi : i < l.length) (hj : j < l.length), i < j → Op.bytesLess l[i].toList l[j].toList = true
theorem rise_cons {c : ByteArray} {cs : List ByteArray} (h : ∀ x ∈ cs, Op.bytesLess c.toList x.toList = true) (hr : Rise cs) : Rise (c :: cs) := by
  intro i j hi hj hij
  cases j with
  | zero => omega
  | succ j =>
    simp only [List.length_cons] at hi hj
    cases i with
    | zero => exact h _ (List.getElem_mem (by omega))
    | succ i => exact hr i j (by omega) (by omega) (by omega)
theorem good_rise : ∀ {l : List ByteArray} {p : Option ByteArray}, goodK p l = true → Rise l ∧ ∀ q, p = some q → ∀ x ∈ l, Op.bytesLess q.toList x.toList = true
 | [], _, _ => ⟨fun i j hi => by simp at hi, fun q _ x hx => by cases hx⟩
 | c :: cs, p, h => by
  simp only [goodK, Bool.and_eq_true] at h
  obtain ⟨_, h2, h3⟩ := h
  obtain ⟨r1, r2⟩ := good_rise h3
  refine ⟨rise_cons (r2 c rfl) r1, fun q hq x hx => ?_⟩
  subst hq
  simp only [ltO] at h2
  rcases List.mem_cons.1 hx with e | hx
  · rw [e]; exact h2
  · exact less_trans _ _ _ h2 (r2 c rfl x hx)
theorem nans (s : ByteArray) : cmp_isNaN_string.f s = some false := by
  unfold cmp_isNaN_string.f
  simp
theorem nans2 (s : ByteArray) : slices_isNaN_string.f s = some false := by
  unfold slices_isNaN_string.f
  simp
theorem cless (a b : ByteArray) : cmp_Less_string.f a b = some (Op.bytesLess a.toList b.toList) := by
  unfold cmp_Less_string.f
  rw [nans]
  simp only [Option.bind_some]
  rw [if_neg (by decide)]
theorem mid_is {lo hi : Nat} (h : lo ≤ 1000) (h2 : hi ≤ 1000) : wrap64 ((IntKind.u64.wrap (wrap64 ((lo : Int) + (hi : Int)))) / 2) = (((lo + hi) / 2 : Nat) : Int) := by
  rw [w64 (x := (lo : Int) + hi) (by omega), IntKind.wrap_u64, w64 (by omega)]
  omega
theorem bs_l0 (l : List ByteArray) (x : ByteArray) (hr : Rise l) (hl : l.length ≤ 1000) (d : Nat) : ∀ (k lo hi : Nat), hi - lo ≤ d → lo ≤ hi → hi ≤ l.length → d + 2 < k →
    (∀ (j : Nat) (h : j < l.length), j < lo → Op.bytesLess l[j].toList x.toList = true) → (∀ (j : Nat) (h : j < l.length), hi ≤ j → Op.bytesLess l[j].toList x.toList = false) →
    ∃ (i : Nat) (y : Bool), slices_BinarySearch_string_string.l0 k l x (l.length : Int) (lo : Int) (hi : Int) = some ((i : Int), y) ∧ i ≤ l.length ∧
      (∀ (j : Nat) (h : j < l.length), j < i → Op.bytesLess l[j].toList x.toList = true) ∧ (∀ (j : Nat) (h : j < l.length), i ≤ j → Op.bytesLess l[j].toList x.toList = false) ∧
      (y = true ↔ ∃ h : i < l.length, l[i] = x) := by
  induction d with
  | zero =>
    intro k lo hi hd hlh hhl hk h1 h2
    obtain ⟨k, rfl⟩ : ∃ m, k = m + 1 := ⟨k - 1, by omega⟩
    have hE : lo = hi := by omega
    subst hE
    simp only [slices_BinarySearch_string_string.l0]
    rw [if_neg (by omega)]
    by_cases hn : lo < l.length
    · rw [if_pos (by omega), if_pos (by omega), if_pos (by omega), rdS hn]
      by_cases he : l[lo].toList = x.toList
      · rw [if_pos he]
        exact ⟨lo, true, rfl, by omega, h1, h2, iff_of_true rfl ⟨hn, toList_inj he⟩⟩
      · rw [if_neg he, nans2]
        simp only [Option.bind_some]
        rw [if_neg (by decide)]
        refine ⟨lo, false, rfl, by omega, h1, h2, iff_of_false (by decide) ?_⟩
        rintro ⟨_, e⟩
        exact he (by rw [e])
    · rw [if_neg (by omega)]
      refine ⟨lo, false, rfl, by omega, h1, h2, iff_of_false (by decide) ?_⟩
      rintro ⟨e, _⟩
      exact hn e
  | succ d ih =>
    intro k lo hi hd hlh hhl hk h1 h2
    by_cases hE : lo = hi
    · exact ih k lo hi (by omega) hlh hhl (by omega) h1 h2
    · obtain ⟨k, rfl⟩ : ∃ m, k = m + 1 := ⟨k - 1, by omega⟩
      have hm : (lo + hi) / 2 < l.length := by omega
      simp only [slices_BinarySearch_string_string.l0]
      rw [if_pos (by omega), mid_is (by omega) (by omega), if_pos (by omega), if_pos (by omega), rdS hm, cless]
      simp only [Option.bind_some]
      by_cases hb : Op.bytesLess (l[(lo + hi) / 2]).toList x.toList = true
      · rw [if_pos hb, w64 (x := (((lo + hi) / 2 : Nat) : Int) + 1) (by omega), show (((lo + hi) / 2 : Nat) : Int) + 1 = (((lo + hi) / 2 + 1 : Nat) : Int) from rfl]
        refine ih k ((lo + hi) / 2 + 1) hi (by omega) (by omega) hhl (by omega) ?_ h2
        intro j hj hlt
        by_cases he : j = (lo + hi) / 2
        · subst he; exact hb
        · exact less_trans _ _ _ (hr j ((lo + hi) / 2) hj hm (by omega)) hb
      · rw [if_neg hb]
        refine ih k lo ((lo + hi) / 2) (by omega) (by omega) (by omega) (by omega) h1 ?_
        intro j hj hle
        by_cases he : j = (lo + hi) / 2
        · subst he; exact Bool.eq_false_iff.2 hb
        · cases hc : Op.bytesLess l[j].toList x.toList with
          | false => rfl
          | true => exact absurd (less_trans _ _ _ (hr ((lo + hi) / 2) j hm hj (by omega)) hc) hb
/-- How many keys are at most a key: the kid it is led to. -/
theorem kid_is {keys : List ByteArray} {kids : List Int} (x : ByteArray) (hm : mayN false [] keys kids = true) {k : Nat} (hk : 4002 ≤ k) :
    ∃ c : Nat, node_Kid.f k false [] keys kids x = some (c : Int) ∧ c ≤ keys.length ∧ (∀ (j : Nat) (h : j < keys.length), j < c → Op.bytesLess x.toList keys[j].toList = false) ∧
      (∀ (j : Nat) (h : j < keys.length), c ≤ j → Op.bytesLess x.toList keys[j].toList = true) := by
  obtain ⟨k, rfl⟩ : ∃ m, k = m + 1 := ⟨k - 1, by omega⟩
  obtain ⟨_, g1, g2, n1, n2, n3⟩ := mayN_inner hm
  have hr := (good_rise g1).1
  obtain ⟨i, y, he, hi, h1, h2, h3⟩ := bs_l0 keys x hr (by omega) keys.length k 0 keys.length (by omega) (by omega) (by omega) (by omega) (fun j h hj => by omega) (fun j h hj => by omega)
  unfold node_Kid.f
  rw [if_neg (by decide), maynode_is false [] keys kids (by simp) (by omega) (by omega) (by omega), hm]
  simp only [Option.bind_some, node_Kid.j0]
  rw [if_neg (by decide)]
  unfold slices_BinarySearch_string_string.f
  rw [show ((0 : Nat) : Int) = 0 from rfl] at he
  rw [he]
  simp only [Option.bind_some]
  by_cases hy : y = true
  · obtain ⟨hlt, hx⟩ := h3.1 hy
    rw [if_pos hy, w64 (x := (i : Int) + 1) (by omega)]
    refine ⟨i + 1, rfl, by omega, fun j h hj => ?_, fun j h hj => ?_⟩
    · by_cases hji : j = i
      · subst hji; rw [hx]; exact less_irr _
      · exact less_asym (h1 j h (by omega))
    · rw [← hx]; exact hr i j hlt h (by omega)
  · rw [if_neg hy]
    refine ⟨i, rfl, hi, fun j h hj => less_asym (h1 j h hj), fun j h hj => ?_⟩
    rcases less_tri x.toList keys[j].toList with g | g | g
    · exact g
    · exfalso
      have hxj : keys[j] = x := toList_inj g.symm
      by_cases hji : j = i
      · subst hji; exact hy (h3.2 ⟨h, hxj⟩)
      · have := hr i j (by omega) h (by omega)
        rw [hxj, h2 i (by omega) (Nat.le_refl _)] at this
        cases this
    · rw [h2 j h hj] at g
      cases g
end Go.Proofs.Ytmmjpieafbjggaa.Pure
end
section
set_option linter.unusedVariables false
set_option linter.unusedSimpArgs false
namespace Go.Proofs.Ytmmjpieafbjggaa.Pure
open Go.RowKit Go.Proofs.Ytmmjpieafbjggaa.P Go.Proofs.YtmmjpieafbjggaaW.PrintWords Go.Proofs.YtmmjpieafbjggaaW.PrintLast Go.Proofs.YtmmjpieafbjggaaW.PrintMore
def keysK (n : Nat) : List ByteArray := (List.range (n - 1)).map fun j : Nat => strOfNums ([98 + (j : Int)] : List Int)
def kidsK (n : Nat) : List Int := (List.range n).map fun j : Nat => 2 + (j : Int)
theorem keysK_len (n : Nat) : (keysK n).length = n - 1 := by simp [keysK]
theorem kidsK_len (n : Nat) : (kidsK n).length = n := by simp [kidsK]
theorem keysK_succ {i : Nat} (h : 0 < i) (hi : i ≤ 20) : keysK i ++ [strOfNums ([(wrap64 (97 + (i : Int))) % 256] : List Int)] = keysK (i + 1) := by
  obtain ⟨j, rfl⟩ : ∃ j, i = j + 1 := ⟨i - 1, by omega⟩
  unfold keysK
  rw [w64 (by omega), Nat.add_sub_cancel, Nat.add_sub_cancel, List.range_succ, List.map_append, List.map_cons, List.map_nil]
  congr 4
  omega
theorem kidsK_succ {i : Nat} (hi : i ≤ 20) : kidsK i ++ [wrap64 (2 + (i : Int))] = kidsK (i + 1) := by
  unfold kidsK
  rw [w64 (by omega), List.range_succ, List.map_append, List.map_cons, List.map_nil]
theorem mayK_all : ∀ n, n < 21 → 1 ≤ n → mayN false [] (keysK n) (kidsK n) = true := by decide +kernel
theorem kids_l0 (n : Nat) (h1 : 1 ≤ n) (h2 : n ≤ 20) (key : ByteArray) (d : Nat) : ∀ (k i : Nat), n - i = d → i ≤ n → d + 5000 < k →
    engrosslaw11_NodeKids.l0 k (n : Int) key (i : Int) false (keysK i) (kidsK i) = some true := by
  induction d with
  | zero =>
    intro k i hd hi hk
    obtain ⟨k, rfl⟩ : ∃ m, k = m + 1 := ⟨k - 1, by omega⟩
    obtain rfl : i = n := by omega
    have hm := mayK_all i (by omega) h1
    obtain ⟨c, hc, hcl, ha, hb⟩ := kid_is key hm (k := k) (by omega)
    have hl := keysK_len i
    simp only [engrosslaw11_NodeKids.l0]
    rw [if_neg (by omega), ofn_is false [] (keysK i) (kidsK i) (by simp) (by omega)]
    simp only [Option.bind_some, List.map_nil]
    rw [hc]
    simp only [Option.bind_some]
    rw [if_neg (by omega), if_neg (by omega), w64 (x := (i : Int) - 1) (by omega)]
    by_cases h0 : c = 0
    · rw [if_pos (by omega)]
      by_cases h3 : (c : Int) = (i : Int) - 1
      · rw [if_pos h3]
      · have hlt : c < (keysK i).length := by omega
        rw [if_neg h3, if_pos (by omega), if_pos (by omega), rdS hlt, hb c hlt (Nat.le_refl _)]
    · have hlt' : c - 1 < (keysK i).length := by omega
      rw [if_neg (by omega), w64 (x := (c : Int) - 1) (by omega), show (c : Int) - 1 = ((c - 1 : Nat) : Int) by omega, if_pos (by omega), if_pos (by omega), rdS hlt', if_neg (by rw [ha (c - 1) hlt' (by omega)]; decide)]
      by_cases h3 : (c : Int) = (i : Int) - 1
      · rw [if_pos h3]
      · have hlt : c < (keysK i).length := by omega
        rw [if_neg h3, if_pos (by omega), if_pos (by omega), rdS hlt, hb c hlt (Nat.le_refl _)]
  | succ d ih =>
    intro k i hd hi hk
    obtain ⟨k, rfl⟩ : ∃ m, k = m + 1 := ⟨k - 1, by omega⟩
    have hl := keysK_len i
    have hl2 := kidsK_len i
    simp only [engrosslaw11_NodeKids.l0]
    rw [if_pos (by omega), if_pos (by omega)]
    simp only [Option.bind_some]
    have hih := ih k (i + 1) (by omega) (by omega) (by omega)
    rw [kidsK_succ (by omega), w64 (x := (i : Int) + 1) (by omega), show (i : Int) + 1 = ((i + 1 : Nat) : Int) from rfl]
    by_cases h0 : 0 < i
    · rw [if_pos (by omega), if_pos (by omega), keysK_succ h0 (by omega), hih]
    · obtain rfl : i = 0 := by omega
      rw [if_neg (by omega)]
      exact hih
theorem NodeKids : engrosslaw11_NodeKids.Pure := by
  intro n key _ _
  obtain ⟨k, hk⟩ : ∃ k : Nat, 6000 ≤ k := ⟨6000, Nat.le_refl _⟩
  refine ⟨k, ?_⟩
  obtain ⟨k, rfl⟩ : ∃ m, k = m + 1 := ⟨k - 1, by omega⟩
  unfold engrosslaw11_NodeKids.f
  rw [begun11 (by omega)]
  simp only [Option.bind_some, engrosslaw11_NodeKids.j0]
  rw [if_pos trivial]
  by_cases h1 : n < 1
  · rw [if_pos h1, if_pos trivial]
  · rw [if_neg h1]
    by_cases h2 : n > 20
    · rw [if_pos h2, if_pos trivial]
    · rw [if_neg h2]
      by_cases h3 : ((key.size : Int) > 16)
      · rw [decide_eq_true h3, if_pos rfl]
      · rw [decide_eq_false h3, if_neg (by decide)]
        obtain ⟨m, rfl⟩ : ∃ m : Nat, n = (m : Int) := ⟨n.toNat, by omega⟩
        exact kids_l0 m (by omega) (by omega) key m k 0 (by omega) (by omega) (by omega)
end Go.Proofs.Ytmmjpieafbjggaa.Pure
end
