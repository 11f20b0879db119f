/- What the functions of package cell and the reference's answer, as plain lists. Condition: the rows stay below 2^46 bytes. -/
import Derived.Test.YtjhbeaffcdkhcaaDatV
import Derived.Test.YtjhbeaffcdkhcaaPx1
import Derived.Test.YtjhbeaffcdkhcaaPx2
import Derived.Test.YtjhbeaffcdkhcaaPx3
import Derived.Test.YtjhbeaffcdkhcaaPx4
import Derived.Test.YtjhbeaffcdkhcaaPx5
import Derived.Test.YtjhbeaffcdkhcaaPx6
import Derived.Test.YtjhbeaffcdkhcaaPx8
set_option linter.unusedVariables false
set_option linter.unusedSimpArgs false
namespace Go.Proofs.Ytjhbeaffcdkhcaa.Pure
open Go.RowKit Go.Proofs.Ytjhbeaffcdkhcaa.P Go.Proofs.YtjhbeaffcdkhcaaW.PrintWords Go.Proofs.YtjhbeaffcdkhcaaW.PrintLast Go.Proofs.YtjhbeaffcdkhcaaW.PrintMore

/-- May a text be a key? -/
def mayK (s : ByteArray) : Bool := decide (1 ≤ s.size) && decide (s.size ≤ 16)
theorem list_nil_iff (s : ByteArray) : s.toList = ([] : List UInt8) ↔ s.size = 0 := by
  rw [Go.ByteArray.toList_eq]
  constructor
  · intro h
    have := congrArg List.length h
    rw [Array.length_toList] at this
    exact this
  · intro h
    refine List.eq_nil_of_length_eq_zero ?_
    rw [Array.length_toList]
    exact h
theorem maykey_is (s : ByteArray) : key_May.f s = some (mayK s) := by
  unfold key_May.f mayK
  by_cases h : s.toList = ([] : List UInt8)
  · rw [if_pos h]
    have := (list_nil_iff s).1 h
    simp [this]
  · rw [if_neg h]
    have h0 : ¬ s.size = 0 := fun e => h ((list_nil_iff s).2 e)
    congr 1
    rw [Bool.eq_iff_iff]
    simp only [decide_eq_true_eq, Bool.and_eq_true]
    omega
theorem rmaykey_is (s : ByteArray) : engrossref1_MayKey.f s = some (mayK s) := by
  unfold engrossref1_MayKey.f mayK
  by_cases h : (s.size : Int) ≥ 1
  · rw [if_pos h]
    congr 1
    rw [Bool.eq_iff_iff]
    simp only [decide_eq_true_eq, Bool.and_eq_true]
    omega
  · rw [if_neg h]
    congr 1
    rw [Bool.eq_iff_iff]
    simp only [decide_eq_true_eq, Bool.and_eq_true, Bool.false_eq_true, false_iff]
    omega
/-- May a cell be? -/
def mayC (s : ByteArray) (kd : Int) (f : Nat) (t : ByteArray) (x : Int) (kd' : Int) (f' : Nat) (t' : ByteArray) : Bool :=
  mayK s && mayV kd f t && mayV kd' f' t' && decide (0 ≤ x) && decide (x ≤ 1099511627776) && (decide (0 < x) || decide (kd' = 0) && decide (kd ≠ 0))
theorem maycell_is (s : ByteArray) (kd : Int) (f : Nat) (t : ByteArray) (x : Int) (kd' : Int) (f' : Nat) (t' : ByteArray) {k : Nat} (hk : 1 ≤ k) : cell_May.f k s kd f t x kd' f' t' = some (mayC s kd f t x kd' f' t') := by
  obtain ⟨k, rfl⟩ : ∃ m, k = m + 1 := ⟨k - 1, by omega⟩
  unfold cell_May.f mayC
  rw [maykey_is, may_is, may_is]
  simp only [Option.bind_some, cell_May.j0, cell_none.f]
  cases mayK s
  · simp
  · cases mayV kd f t
    · simp
    · cases mayV kd' f' t'
      · simp
      · simp only [if_true, Bool.true_and]
        by_cases h0 : x < 0
        · rw [if_pos h0, decide_eq_false (show ¬ 0 ≤ x by omega)]; simp
        · rw [if_neg h0, decide_eq_true (show 0 ≤ x by omega)]
          by_cases h1 : x > 1099511627776
          · rw [decide_eq_true h1, decide_eq_false (show ¬ x ≤ 1099511627776 by omega)]; simp
          · rw [decide_eq_false h1, decide_eq_true (show x ≤ 1099511627776 by omega)]
            by_cases h2 : x > 0
            · simp [h2]
            · rw [if_neg (by decide), if_neg h2, decide_eq_false (show ¬ 0 < x by omega)]
              by_cases h3 : kd' = 0
              · simp only [h3, decide_true, Bool.true_and, Bool.false_or, if_true]
                by_cases h4 : kd = 0
                · simp [h4]
                · simp [h4]
              · simp [h3]
theorem rmaycell_is (s : ByteArray) (kd : Int) {f : Nat} (hf : f < 18446744073709551616) (t : ByteArray) (x : Int) (kd' : Int) {f' : Nat} (hf' : f' < 18446744073709551616) (t' : ByteArray) : engrossref10_May.f s kd f t x kd' f' t' = some (mayC s kd f t x kd' f' t') := by
  unfold engrossref10_May.f mayC
  rw [rmaykey_is, rmay_is kd hf, rmay_is kd' hf']
  simp only [Option.bind_some]
  cases mayK s
  · simp
  · cases mayV kd f t
    · simp
    · cases mayV kd' f' t'
      · simp
      · simp only [if_true, Bool.true_and]
        by_cases h0 : x < 0
        · rw [if_pos h0, decide_eq_false (show ¬ 0 ≤ x by omega)]; simp
        · rw [if_neg h0, decide_eq_true (show 0 ≤ x by omega)]
          by_cases h1 : x > 1099511627776
          · rw [if_pos h1, decide_eq_false (show ¬ x ≤ 1099511627776 by omega)]; simp
          · rw [if_neg h1, decide_eq_true (show x ≤ 1099511627776 by omega)]
            by_cases h2 : x > 0
            · simp [h2]
            · rw [if_neg h2, decide_eq_false (show ¬ 0 < x by omega)]
              by_cases h3 : kd' = 0
              · simp only [h3, decide_true, Bool.true_and, Bool.false_or, if_true]
                by_cases h4 : kd = 0
                · simp [h4]
                · simp [h4]
              · simp [h3]
theorem mayC_cases {s : ByteArray} {kd : Int} {f : Nat} {t : ByteArray} {x : Int} {kd' : Int} {f' : Nat} {t' : ByteArray} (h : mayC s kd f t x kd' f' t' = true) :
    (1 ≤ s.size ∧ s.size ≤ 16) ∧ mayV kd f t = true ∧ mayV kd' f' t' = true ∧ 0 ≤ x ∧ x ≤ 1099511627776 ∧ (0 < x ∨ (kd' = 0 ∧ kd ≠ 0)) := by
  unfold mayC mayK at h
  simp only [Bool.and_eq_true, Bool.or_eq_true, decide_eq_true_eq] at h
  obtain ⟨⟨⟨⟨⟨h1, h2⟩, h3⟩, h4⟩, h5⟩, h6⟩ := h
  exact ⟨h1, h2, h3, h4, h5, h6⟩
theorem mayV_none {kd : Int} {f : Nat} {t : ByteArray} (h : mayV kd f t = true) (h0 : kd = 0) : f = 0 ∧ t = (⟨#[]⟩ : ByteArray) := by
  rcases mayV_cases h with ⟨_, h1, h2⟩ | ⟨h1, _⟩ | ⟨h1, _⟩
  · exact ⟨h1, nil_eq h2⟩
  · omega
  · omega
theorem mayV_wf {kd : Int} {f : Nat} {t : ByteArray} (h : mayV kd f t = true) : (Lit.int .i64 kd).wf = true ∧ t.size ≤ 20 := by
  rcases mayV_cases h with ⟨rfl, _, h2⟩ | ⟨rfl, _, h2⟩ | ⟨rfl, _, h2⟩
  · exact ⟨by decide, by have := (list_nil_iff t).1 h2; omega⟩
  · exact ⟨by decide, by have := (list_nil_iff t).1 h2; omega⟩
  · exact ⟨by decide, h2⟩
theorem txn_wf {x : Int} (h0 : 0 ≤ x) (h1 : x ≤ 1099511627776) : (Lit.int .i64 x).wf = true := by
  simp [Lit.wf, IntKind.min, IntKind.max, IntKind.signed, IntKind.bits]
  omega
/-- Are two cells the same? -/
def eqC (s : ByteArray) (kd : Int) (f : Nat) (t : ByteArray) (x : Int) (kd' : Int) (f' : Nat) (t' : ByteArray) (s2 : ByteArray) (kd2 : Int) (f2 : Nat) (t2 : ByteArray) (x2 : Int) (kd2' : Int) (f2' : Nat) (t2' : ByteArray) : Bool :=
  decide (s.toList = s2.toList) && decide (x = x2) && eqV kd f t kd2 f2 t2 && eqV kd' f' t' kd2' f2' t2'
theorem eqcell_is (s : ByteArray) (kd : Int) {f : Nat} (hf : f < 18446744073709551616) (t : ByteArray) (x : Int) (kd' : Int) {f' : Nat} (hf' : f' < 18446744073709551616) (t' : ByteArray) (s2 : ByteArray) (kd2 : Int) {f2 : Nat} (hf2 : f2 < 18446744073709551616) (t2 : ByteArray) (x2 : Int) (kd2' : Int) {f2' : Nat} (hf2' : f2' < 18446744073709551616) (t2' : ByteArray) :
    cell_Eq.f s kd f t x kd' f' t' s2 kd2 f2 t2 x2 kd2' f2' t2' = some (eqC s kd f t x kd' f' t' s2 kd2 f2 t2 x2 kd2' f2' t2') := by
  unfold cell_Eq.f eqC
  by_cases h1 : s.toList = s2.toList
  · rw [if_pos h1]
    by_cases h2 : x = x2
    · rw [if_pos h2, eq_is kd hf t kd2 hf2 t2, eq_is kd' hf' t' kd2' hf2' t2']
      simp only [Option.bind_some]
      cases eqV kd f t kd2 f2 t2 <;> simp [h1, h2]
    · rw [if_neg h2]; simp [h2]
  · rw [if_neg h1]; simp [h1]
theorem reqcell_is (s : ByteArray) (kd : Int) {f : Nat} (hf : f < 18446744073709551616) (t : ByteArray) (x : Int) (kd' : Int) {f' : Nat} (hf' : f' < 18446744073709551616) (t' : ByteArray) (s2 : ByteArray) (kd2 : Int) {f2 : Nat} (hf2 : f2 < 18446744073709551616) (t2 : ByteArray) (x2 : Int) (kd2' : Int) {f2' : Nat} (hf2' : f2' < 18446744073709551616) (t2' : ByteArray) :
    engrossref10_Eq.f s kd f t x kd' f' t' s2 kd2 f2 t2 x2 kd2' f2' t2' = some (eqC s kd f t x kd' f' t' s2 kd2 f2 t2 x2 kd2' f2' t2') := by
  unfold engrossref10_Eq.f eqC
  by_cases h1 : s.toList = s2.toList
  · rw [if_pos h1]
    by_cases h2 : x = x2
    · rw [if_pos h2, req_is kd hf t kd2 hf2 t2, req_is kd' hf' t' kd2' hf2' t2']
      simp only [Option.bind_some]
      cases eqV kd f t kd2 f2 t2 <;> simp [h1, h2]
    · rw [if_neg h2]; simp [h2]
  · rw [if_neg h1]; simp [h1]
theorem eqV_self (kd : Int) (f : Nat) (s : ByteArray) : eqV kd f s kd f s = true := by simp [eqV]
theorem eqC_self (s : ByteArray) (kd : Int) (f : Nat) (t : ByteArray) (x : Int) (kd' : Int) (f' : Nat) (t' : ByteArray) : eqC s kd f t x kd' f' t' s kd f t x kd' f' t' = true := by simp [eqC, eqV]
theorem toList_inj {s s' : ByteArray} (h : s.toList = s'.toList) : s = s' := by
  rw [Go.ByteArray.toList_eq, Go.ByteArray.toList_eq] at h
  exact ByteArray.ext (Array.toList_inj.1 h)
theorem eqV_may {kd : Int} {f : Nat} {s : ByteArray} {kd' : Int} {f' : Nat} {s' : ByteArray} (h : mayV kd f s = true) (h' : mayV kd' f' s' = true) (hf : f < 18446744073709551616) (hf' : f' < 18446744073709551616) (he : eqV kd f s kd' f' s' = true) : kd = kd' ∧ f = f' ∧ s = s' := by
  unfold eqV at he
  simp only [Bool.and_eq_true, decide_eq_true_eq] at he
  obtain ⟨⟨rfl, hs⟩, hp⟩ := he
  refine ⟨rfl, ?_, toList_inj hs⟩
  have h1 := fo_pl hf
  have h2 := fo_pl hf'
  rw [hp, h2] at h1
  have c1 : cl f = f := by
    rcases mayV_cases h with ⟨_, h0, _⟩ | ⟨_, h0, _⟩ | ⟨_, h0, _⟩
    · subst h0; rfl
    · exact h0
    · subst h0; rfl
  have c2 : cl f' = f' := by
    rcases mayV_cases h' with ⟨_, h0, _⟩ | ⟨_, h0, _⟩ | ⟨_, h0, _⟩
    · subst h0; rfl
    · exact h0
    · subst h0; rfl
  have h3 : cl f' = cl f := h1
  rw [c1, c2] at h3
  exact h3.symm
/-- A cell's bytes. -/
def putC (s : ByteArray) (kd : Int) (f : Nat) (t : ByteArray) (x : Int) (kd' : Int) (f' : Nat) (t' : ByteArray) : List Int :=
  putS s ++ (putV kd f t ++ (putN x ++ (if x > 0 then putV kd' f' t' else [])))
theorem tail_len {x : Int} {kd' : Int} {f' : Nat} {t' : ByteArray} (h : (Lit.int .i64 kd').wf = true) (ht : t'.size ≤ 65536) : (if x > 0 then putV kd' f' t' else []).length ≤ 65556 := by
  have := putV_len h f' ht
  split
  · omega
  · simp
theorem putcell_is {s : ByteArray} {kd : Int} {f : Nat} {t : ByteArray} {x : Int} {kd' : Int} {f' : Nat} {t' : ByteArray} (hs : s.size ≤ 65536) (hkd : (Lit.int .i64 kd).wf = true) (hf : f < 18446744073709551616) (ht : t.size ≤ 65536) (hx : (Lit.int .i64 x).wf = true) (hkd' : (Lit.int .i64 kd').wf = true) (hf' : f' < 18446744073709551616) (ht' : t'.size ≤ 65536)
    {k : Nat} (hk : 12 ≤ k) {b : List Int} (hb : b.length + 400000 ≤ 140737488355327) : cell_Put.f k b s kd f t x kd' f' t' = some (b ++ putC s kd f t x kd' f' t') := by
  unfold cell_Put.f putC
  have h1 := (putS_len hs).1
  have h2 := putV_len hkd f ht
  have h3 := (putN_len hx).1
  rw [puttext_is hs hk (by omega)]
  simp only [Option.bind_some]
  rw [dput_is hkd hf ht hk (by rw [List.length_append]; omega)]
  simp only [Option.bind_some]
  rw [put_is hx hk (by simp only [List.length_append]; omega)]
  simp only [Option.bind_some]
  by_cases h : x > 0
  · rw [if_pos h, if_pos h, dput_is hkd' hf' ht' hk (by simp only [List.length_append]; omega)]
    simp only [Option.bind_some, List.append_assoc]
  · rw [if_neg h, if_neg h]
    simp only [List.append_nil, List.append_assoc]
theorem rbytes_cell {s : ByteArray} {kd : Int} {f : Nat} {t : ByteArray} {x : Int} {kd' : Int} {f' : Nat} {t' : ByteArray} (hs : s.size ≤ 65536) (hkd : (Lit.int .i64 kd).wf = true) (hf : f < 18446744073709551616) (ht : t.size ≤ 65536) (hx : (Lit.int .i64 x).wf = true) (hkd' : (Lit.int .i64 kd').wf = true) (hf' : f' < 18446744073709551616) (ht' : t'.size ≤ 65536)
    {k : Nat} (hk : 12 ≤ k) : engrossref10_Bytes.f k s kd f t x kd' f' t' = some (putC s kd f t x kd' f' t') := by
  unfold engrossref10_Bytes.f putC
  have h1 := (putS_len hs).1
  have h2 := putV_len hkd f ht
  have h3 := (putN_len hx).1
  have h4 := putV_len hkd' f' ht'
  rw [rputtext_is hs hk]
  simp only [Option.bind_some]
  rw [rput_val hkd hf ht hk]
  simp only [Option.bind_some]
  rw [if_pos (by omega), rput_is hx hk]
  simp only [Option.bind_some]
  rw [if_pos (by simp only [List.length_append]; omega)]
  by_cases h : x > 0
  · rw [if_pos h, if_pos h, rput_val hkd' hf' ht' hk]
    simp only [Option.bind_some]
    rw [if_pos (by simp only [List.length_append]; omega)]
    simp only [List.append_assoc]
  · rw [if_neg h, if_neg h]
    simp only [List.append_nil, List.append_assoc]
theorem putC_len {s : ByteArray} {kd : Int} {f : Nat} {t : ByteArray} {x : Int} {kd' : Int} {f' : Nat} {t' : ByteArray} (hs : s.size ≤ 65536) (hkd : (Lit.int .i64 kd).wf = true) (ht : t.size ≤ 65536) (hx : (Lit.int .i64 x).wf = true) (hkd' : (Lit.int .i64 kd').wf = true) (ht' : t'.size ≤ 65536) :
    (putC s kd f t x kd' f' t').length ≤ 300000 ∧ 1 ≤ (putC s kd f t x kd' f' t').length := by
  have h1 := putS_len hs
  have h2 := putV_len hkd f ht
  have h3 := (putN_len hx).1
  have h4 := tail_len (x := x) (f' := f') hkd' ht'
  unfold putC
  simp only [List.length_append]
  omega
theorem putC_bytes {s : ByteArray} {kd : Int} {f : Nat} {t : ByteArray} {x : Int} {kd' : Int} {f' : Nat} {t' : ByteArray} (hs : s.size ≤ 65536) (hkd : (Lit.int .i64 kd).wf = true) (ht : t.size ≤ 65536) (hx : (Lit.int .i64 x).wf = true) (hkd' : (Lit.int .i64 kd').wf = true) (ht' : t'.size ≤ 65536) :
    ∀ c ∈ putC s kd f t x kd' f' t', 0 ≤ c ∧ c ≤ 255 := by
  unfold putC
  refine app_in (putS_bytes hs) (app_in (putV_bytes hkd f ht) (app_in (putN_bytes hx) ?_))
  split
  · exact putV_bytes hkd' f' ht'
  · intro c hc; cases hc
/-- What is handed back where no cell is told. -/
def noC (e : Int) : ByteArray × Int × Nat × ByteArray × Int × Int × Nat × ByteArray × Int × Int := ((⟨#[]⟩ : ByteArray), 0, 0, (⟨#[]⟩ : ByteArray), 0, 0, 0, (⟨#[]⟩ : ByteArray), 0, e)
/-- What the first bytes say: a cell, how many bytes, what went wrong. -/
def getC (l : List Int) : ByteArray × Int × Nat × ByteArray × Int × Int × Nat × ByteArray × Int × Int :=
  let g := getS l
  if g.2.2 ≠ 0 then noC g.2.2 else
  let v := getV (l.drop g.2.1.toNat)
  if v.2.2.2.2 ≠ 0 then noC v.2.2.2.2 else
  let t := getN (l.drop (g.2.1 + v.2.2.2.1).toNat)
  if t.2.2 ≠ 0 then noC t.2.2 else
  if t.1 > 0 then
    (let w := getV (l.drop (g.2.1 + v.2.2.2.1 + t.2.1).toNat)
    if w.2.2.2.2 ≠ 0 then noC w.2.2.2.2 else
    if mayC g.1 v.1 v.2.1 v.2.2.1 t.1 w.1 w.2.1 w.2.2.1 = true then (g.1, v.1, v.2.1, v.2.2.1, t.1, w.1, w.2.1, w.2.2.1, g.2.1 + v.2.2.2.1 + t.2.1 + w.2.2.2.1, 0) else noC 1)
  else if mayC g.1 v.1 v.2.1 v.2.2.1 t.1 0 0 (⟨#[]⟩ : ByteArray) = true then (g.1, v.1, v.2.1, v.2.2.1, t.1, 0, 0, (⟨#[]⟩ : ByteArray), g.2.1 + v.2.2.2.1 + t.2.1, 0) else noC 1
theorem getV_in {l : List Int} (h : (getV l).2.2.2.2 = 0) : 1 ≤ (getV l).2.2.2.1 ∧ (getV l).2.2.2.1 ≤ l.length := by
  unfold getV at h ⊢
  by_cases h0 : (getN l).2.2 ≠ 0
  · rw [if_pos h0] at h; exact absurd h h0
  · rw [if_neg h0] at h ⊢
    have hin := getN_in (show (getN l).2.2 = 0 by omega)
    by_cases k0 : (getN l).1 = 0
    · rw [if_pos k0]; exact hin
    · rw [if_neg k0] at h ⊢
      by_cases k1 : (getN l).1 = 1
      · rw [if_pos k1] at h ⊢
        by_cases k8 : (l.length : Int) - (getN l).2.1 < 8
        · rw [if_pos k8] at h; cases h
        · rw [if_neg k8] at h ⊢
          split at h
          · rename_i ho
            rw [if_pos ho]; dsimp only; omega
          · cases h
      · rw [if_neg k1] at h ⊢
        by_cases k2 : (getN l).1 = 2
        · rw [if_pos k2] at h ⊢
          by_cases ks : (getS (l.drop (getN l).2.1.toNat)).2.2 ≠ 0
          · rw [if_pos ks] at h; exact absurd h ks
          · rw [if_neg ks] at h ⊢
            have hsi := getS_in (show (getS (l.drop (getN l).2.1.toNat)).2.2 = 0 by omega)
            rw [List.length_drop] at hsi
            split at h
            · rename_i h20
              rw [if_pos h20]; dsimp only; omega
            · cases h
        · rw [if_neg k2] at h; cases h
theorem drop_bytes {l : List Int} (hl : ∀ c ∈ l, 0 ≤ c ∧ c ≤ 255) (n : Nat) : ∀ c ∈ l.drop n, 0 ≤ c ∧ c ≤ 255 := fun c hc => hl c (List.mem_of_mem_drop hc)
theorem getcell_is {l : List Int} (hl : ∀ c ∈ l, 0 ≤ c ∧ c ≤ 255) (hn : l.length ≤ 140737488355328) {k : Nat} (hk : 60 ≤ k) : cell_Get.f k l = some (getC l) := by
  unfold cell_Get.f getC noC
  rw [gettext_is hl hn (by omega)]
  simp only [Option.bind_some]
  by_cases hg : (getS l).2.2 = 0
  · have i1 := getS_in hg
    obtain ⟨a, ea⟩ : ∃ a : Nat, (getS l).2.1 = a := ⟨(getS l).2.1.toNat, by omega⟩
    rw [ea] at i1
    rw [if_pos hg, if_neg (show ¬ (getS l).2.2 ≠ 0 by simp [hg]), ea]
    rw [Int.toNat_natCast, if_pos (by omega), if_pos (by omega), dget_is (drop_bytes hl _) (by rw [List.length_drop]; omega) (by omega)]
    simp only [Option.bind_some]
    generalize hv : getV (l.drop a) = v
    by_cases hve : v.2.2.2.2 = 0
    · have i2 := getV_in (l := l.drop a) (by rw [hv]; exact hve)
      rw [hv, List.length_drop] at i2
      obtain ⟨b, eb⟩ : ∃ b : Nat, v.2.2.2.1 = b := ⟨v.2.2.2.1.toNat, by omega⟩
      rw [eb] at i2
      rw [if_pos hve, if_neg (show ¬ v.2.2.2.2 ≠ 0 by simp [hve]), eb]
      rw [w64 (x := (a : Int) + b) (by omega), if_pos (by omega), if_pos (by omega)]
      have e1 : ((a : Int) + b).toNat = a + b := by omega
      rw [e1, get_is (drop_bytes hl _) (by rw [List.length_drop]; omega) (by omega)]
      simp only [Option.bind_some]
      generalize ht : getN (l.drop (a + b)) = t
      by_cases hte : t.2.2 = 0
      · have i3 := getN_in (l := l.drop (a + b)) (by rw [ht]; exact hte)
        rw [ht, List.length_drop] at i3
        obtain ⟨c, ec⟩ : ∃ c : Nat, t.2.1 = c := ⟨t.2.1.toNat, by omega⟩
        rw [ec] at i3
        rw [if_pos hte, if_neg (show ¬ t.2.2 ≠ 0 by simp [hte]), ec]
        rw [w64 (x := (a : Int) + b + c) (by omega)]
        by_cases hx : t.1 > 0
        · have e2 : ((a : Int) + b + c).toNat = a + b + c := by omega
          rw [if_pos hx, if_pos hx, if_pos (by omega), if_pos (by omega), e2, dget_is (drop_bytes hl _) (by rw [List.length_drop]; omega) (by omega)]
          simp only [Option.bind_some]
          generalize hw : getV (l.drop (a + b + c)) = w
          by_cases hwe : w.2.2.2.2 = 0
          · have i4 := getV_in (l := l.drop (a + b + c)) (by rw [hw]; exact hwe)
            rw [hw, List.length_drop] at i4
            rw [if_pos hwe, if_neg (show ¬ w.2.2.2.2 ≠ 0 by simp [hwe]), maycell_is _ _ _ _ _ _ _ _ (by omega)]
            simp only [Option.bind_some]
            rw [w64 (x := (a : Int) + b + c + w.2.2.2.1) (by omega)]
            split <;> rfl
          · rw [if_neg hwe, if_pos (show w.2.2.2.2 ≠ 0 from hwe)]
        · rw [if_neg hx, if_neg hx, maycell_is _ _ _ _ _ _ _ _ (by omega)]
          simp only [Option.bind_some]
          split <;> rfl
      · rw [if_neg hte, if_pos (show t.2.2 ≠ 0 from hte)]
    · rw [if_neg hve, if_pos (show v.2.2.2.2 ≠ 0 from hve)]
  · rw [if_neg hg, if_pos (show (getS l).2.2 ≠ 0 from hg)]
theorem noC_lt (e : Int) : (noC e).2.2.1 < 18446744073709551616 ∧ (noC e).2.2.2.2.2.2.1 < 18446744073709551616 := by unfold noC; dsimp only; omega
theorem getC_lt {l : List Int} (hl : ∀ c ∈ l, 0 ≤ c ∧ c ≤ 255) : (getC l).2.2.1 < 18446744073709551616 ∧ (getC l).2.2.2.2.2.2.1 < 18446744073709551616 := by
  unfold getC
  dsimp only
  split
  · exact noC_lt _
  · split
    · exact noC_lt _
    · split
      · exact noC_lt _
      · split
        · split
          · exact noC_lt _
          · split
            · exact ⟨getV_lt (drop_bytes hl _), getV_lt (drop_bytes hl _)⟩
            · exact noC_lt _
        · split
          · exact ⟨getV_lt (drop_bytes hl _), by dsimp only; omega⟩
          · exact noC_lt _
theorem getC_putC {s : ByteArray} {kd : Int} {f : Nat} {t : ByteArray} {x : Int} {kd' : Int} {f' : Nat} {t' : ByteArray} (h : mayC s kd f t x kd' f' t' = true) (hf : f < 18446744073709551616) (hf' : f' < 18446744073709551616) (rest : List Int) :
    getC (putC s kd f t x kd' f' t' ++ rest) = (s, kd, f, t, x, kd', f', t', ((putC s kd f t x kd' f' t').length : Int), 0) := by
  obtain ⟨⟨hk1, hk2⟩, hv, hv', hx0, hx1, hx2⟩ := mayC_cases h
  have hw := txn_wf hx0 hx1
  unfold getC putC
  simp only [List.append_assoc]
  rw [getS_putS (by omega)]
  dsimp only
  rw [if_neg (by decide), Int.toNat_natCast, List.drop_left, getV_putV hv hf]
  dsimp only
  have e1 : ((putS s).length + (putV kd f t).length : Int).toNat = (putS s).length + (putV kd f t).length := by omega
  rw [if_neg (by decide), e1, ← List.drop_drop, List.drop_left, List.drop_left, getN_putN hw]
  dsimp only
  rw [if_neg (by decide)]
  by_cases hx : x > 0
  · have e2 : ((putS s).length + (putV kd f t).length + (putN x).length : Int).toNat = (putS s).length + (putV kd f t).length + (putN x).length := by omega
    rw [if_pos hx, if_pos hx, e2, ← List.drop_drop, ← List.drop_drop, List.drop_left, List.drop_left, List.drop_left, getV_putV hv' hf']
    dsimp only
    rw [if_neg (by decide), if_pos h]
    simp only [List.length_append, Prod.mk.injEq, true_and, and_true]
    omega
  · have h0 : kd' = 0 := by omega
    obtain ⟨rfl, rfl⟩ := mayV_none hv' h0
    subst h0
    rw [if_neg hx, if_neg hx, if_pos h]
    simp only [List.length_append, List.length_nil, Prod.mk.injEq, true_and, and_true]
    omega
theorem eqC_iff {s : ByteArray} {kd : Int} {f : Nat} {t : ByteArray} {x : Int} {kd' : Int} {f' : Nat} {t' : ByteArray} {s2 : ByteArray} {kd2 : Int} {f2 : Nat} {t2 : ByteArray} {x2 : Int} {kd2' : Int} {f2' : Nat} {t2' : ByteArray}
    (h : mayC s kd f t x kd' f' t' = true) (h2 : mayC s2 kd2 f2 t2 x2 kd2' f2' t2' = true) (hf : f < 18446744073709551616) (hf' : f' < 18446744073709551616) (hf2 : f2 < 18446744073709551616) (hf2' : f2' < 18446744073709551616) :
    eqC s kd f t x kd' f' t' s2 kd2 f2 t2 x2 kd2' f2' t2' = true ↔ putC s kd f t x kd' f' t' = putC s2 kd2 f2 t2 x2 kd2' f2' t2' := by
  constructor
  · intro he
    unfold eqC at he
    simp only [Bool.and_eq_true, decide_eq_true_eq] at he
    obtain ⟨⟨⟨h1, rfl⟩, h3⟩, h4⟩ := he
    obtain ⟨_, v1, v2, _⟩ := mayC_cases h
    obtain ⟨_, v3, v4, _⟩ := mayC_cases h2
    obtain ⟨rfl, rfl, rfl⟩ := eqV_may v1 v3 hf hf2 h3
    obtain ⟨rfl, rfl, rfl⟩ := eqV_may v2 v4 hf' hf2' h4
    rw [toList_inj h1]
  · intro he
    have e1 := getC_putC h hf hf' []
    have e2 := getC_putC h2 hf2 hf2' []
    rw [he, e2] at e1
    simp only [Prod.mk.injEq] at e1
    obtain ⟨rfl, rfl, rfl, rfl, rfl, rfl, rfl, rfl, _, _⟩ := e1
    exact eqC_self _ _ _ _ _ _ _ _
end Go.Proofs.Ytjhbeaffcdkhcaa.Pure
