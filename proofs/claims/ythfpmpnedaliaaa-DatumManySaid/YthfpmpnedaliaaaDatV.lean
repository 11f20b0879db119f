/- What the functions of package datum and the reference's answer, as plain lists. Condition: the rows stay below 2^46 bytes. -/
import Derived.Test.YthfpmpnedaliaaaFltK
import Derived.Test.YthfpmpnedaliaaaNumR
import Derived.Test.YthfpmpnedaliaaaPx1
import Derived.Test.YthfpmpnedaliaaaPx3
import Derived.Test.YthfpmpnedaliaaaPx4
set_option linter.unusedVariables false
set_option linter.unusedSimpArgs false
namespace Go.Proofs.Ythfpmpnedaliaaa.Pure
open Go.RowKit Go.Proofs.Ythfpmpnedaliaaa.P Go.Proofs.YthfpmpnedaliaaaW.PrintWords Go.Proofs.YthfpmpnedaliaaaW.PrintLast Go.Proofs.YthfpmpnedaliaaaW.PrintMore

/-- All NaNs one. -/
def cl (f : Nat) : Nat := if 9218868437227405312 < f % 9223372036854775808 then 9221120237041090560 else f
/-- May a value be? -/
def mayV (kd : Int) (f : Nat) (s : ByteArray) : Bool :=
  if kd = 0 then decide (f = 0) && decide (s.toList = []) else if kd = 1 then decide (s.toList = []) && decide (cl f = f) else if kd = 2 then decide (f = 0) && decide (s.size ≤ 20) else false
theorem may_is (kd : Int) (f : Nat) (s : ByteArray) : datum_May.f kd f s = some (mayV kd f s) := by
  unfold datum_May.f mayV datum_zero.f
  simp only [Option.bind_some]
  by_cases h0 : kd = 0
  · rw [if_pos h0, if_pos h0]
    by_cases hf : f = 0
    · subst hf
      rw [if_pos (by rfl)]
      congr 1
      rw [Bool.eq_iff_iff]
      simp
    · rw [if_neg (by simp; omega)]
      simp [hf]
  · rw [if_neg h0, if_neg h0]
    by_cases h1 : kd = 1
    · rw [if_pos h1, if_pos h1]
      by_cases hs : s.toList = []
      · rw [if_pos hs, clean_is]
        simp only [Option.bind_some]
        congr 1
        rw [Bool.eq_iff_iff]
        unfold cl
        simp only [hs, decide_true, Bool.true_and, beq_iff_eq, decide_eq_true_eq]
        omega
      · rw [if_neg hs]
        simp [hs]
    · rw [if_neg h1, if_neg h1]
      by_cases h2 : kd = 2
      · rw [if_pos h2, if_pos h2]
        by_cases hf : f = 0
        · subst hf
          rw [if_pos (by rfl)]
          congr 1
          rw [Bool.eq_iff_iff]
          simp
          omega
        · rw [if_neg (by simp; omega)]
          simp [hf]
      · rw [if_neg h2, if_neg h2]
theorem rmay_is (kd : Int) {f : Nat} (hf : f < 18446744073709551616) (s : ByteArray) : engrossref1_MayVal.f kd f s = some (mayV kd f s) := by
  unfold engrossref1_MayVal.f mayV engrossref1_bits.f
  simp only [Option.bind_some]
  by_cases h0 : kd = 0
  · rw [if_pos h0, if_pos h0]
    by_cases hf : f = 0
    · subst hf
      rw [if_pos (by rfl)]
      congr 1
      rw [Bool.eq_iff_iff]
      simp
    · rw [if_neg (by omega)]
      simp [hf]
  · rw [if_neg h0, if_neg h0]
    by_cases h1 : kd = 1
    · rw [if_pos h1, if_pos h1]
      by_cases hs : s.toList = []
      · rw [if_pos hs, rclean_is hf]
        simp only [Option.bind_some]
        rw [bits_is]
        simp only [Option.bind_some]
        congr 1
        unfold cl
        simp [hs]
      · rw [if_neg hs]
        simp [hs]
    · rw [if_neg h1, if_neg h1]
      by_cases h2 : kd = 2
      · rw [if_pos h2, if_pos h2]
        by_cases hf : f = 0
        · subst hf
          rw [if_pos (by rfl)]
          congr 1
          rw [Bool.eq_iff_iff]
          simp
          omega
        · rw [if_neg (by omega)]
          simp [hf]
      · rw [if_neg h2, if_neg h2]
/-- Are two values the same? -/
def eqV (kd : Int) (f : Nat) (s : ByteArray) (kd' : Int) (f' : Nat) (s' : ByteArray) : Bool := decide (kd = kd') && decide (s.toList = s'.toList) && decide (pl f = pl f')
theorem eq_is (kd : Int) {f : Nat} (hf : f < 18446744073709551616) (s : ByteArray) (kd' : Int) {f' : Nat} (hf' : f' < 18446744073709551616) (s' : ByteArray) : datum_Eq.f kd f s kd' f' s' = some (eqV kd f s kd' f' s') := by
  unfold datum_Eq.f eqV float_Same.f
  by_cases h0 : kd = kd'
  · rw [if_pos h0]
    by_cases hs : s.toList = s'.toList
    · rw [if_pos hs, place_is hf, place_is hf']
      simp only [Option.bind_some]
      congr 1
      rw [Bool.eq_iff_iff]
      simp only [h0, hs, decide_true, Bool.true_and, beq_iff_eq, decide_eq_true_eq]
      omega
    · rw [if_neg hs]
      simp [hs]
  · rw [if_neg h0]
    simp [h0]
theorem req_is (kd : Int) {f : Nat} (hf : f < 18446744073709551616) (s : ByteArray) (kd' : Int) {f' : Nat} (hf' : f' < 18446744073709551616) (s' : ByteArray) : engrossref1_EqVal.f kd f s kd' f' s' = some (eqV kd f s kd' f' s') := by
  unfold engrossref1_EqVal.f eqV
  by_cases h0 : kd = kd'
  · rw [if_pos h0]
    by_cases hs : s.toList = s'.toList
    · rw [if_pos hs, rplace_is hf, rplace_is hf']
      simp only [Option.bind_some]
      congr 1
      rw [Bool.eq_iff_iff]
      simp only [h0, hs, decide_true, Bool.true_and, beq_iff_eq, decide_eq_true_eq]
      omega
    · rw [if_neg hs]
      simp [hs]
  · rw [if_neg h0]
    simp [h0]
/-- What follows a value's kind. -/
def tailV (kd : Int) (f : Nat) (s : ByteArray) : List Int := if kd = 1 then be 8 (pl f) else if kd = 2 then putS s else []
/-- A value's bytes. -/
def putV (kd : Int) (f : Nat) (s : ByteArray) : List Int := putN kd ++ tailV kd f s
theorem tailV_len (kd : Int) (f : Nat) {s : ByteArray} (hs : s.size ≤ 65536) : (tailV kd f s).length ≤ 65546 := by
  unfold tailV
  have := (putS_len hs).1
  split
  · rw [be_len]; omega
  · split
    · omega
    · simp
theorem putV_len {kd : Int} (h : (Lit.int .i64 kd).wf = true) (f : Nat) {s : ByteArray} (hs : s.size ≤ 65536) : (putV kd f s).length ≤ 65556 := by
  have h1 := (putN_len h).1
  have h2 := tailV_len kd f hs
  unfold putV
  rw [List.length_append]
  omega
theorem putV_bytes {kd : Int} (h : (Lit.int .i64 kd).wf = true) (f : Nat) {s : ByteArray} (hs : s.size ≤ 65536) : ∀ c ∈ putV kd f s, 0 ≤ c ∧ c ≤ 255 := by
  intro c hc
  rcases List.mem_append.1 hc with hc | hc
  · exact putN_bytes h c hc
  · unfold tailV at hc
    split at hc
    · exact be_bytes _ _ c hc
    · split at hc
      · exact putS_bytes hs c hc
      · cases hc
theorem dput_is {kd : Int} (h : (Lit.int .i64 kd).wf = true) {f : Nat} (hf : f < 18446744073709551616) {s : ByteArray} (hs : s.size ≤ 65536) {k : Nat} (hk : 12 ≤ k) {b : List Int} (hb : b.length + 70000 ≤ 140737488355327) : datum_Put.f k b kd f s = some (b ++ putV kd f s) := by
  unfold datum_Put.f putV tailV
  have h1 := (putN_len h).1
  rw [put_is h hk (by omega)]
  simp only [Option.bind_some]
  by_cases e1 : kd = 1
  · rw [if_pos e1, if_pos e1, bytes_is hf (by omega)]
    simp only [Option.bind_some]
    rw [if_pos (by rw [be_len, List.length_append]; omega), List.append_assoc]
  · rw [if_neg e1, if_neg e1]
    by_cases e2 : kd = 2
    · rw [if_pos e2, if_pos e2, puttext_is hs hk (by rw [List.length_append]; omega), List.append_assoc]
      rfl
    · rw [if_neg e2, if_neg e2, List.append_nil]
theorem rput_val {kd : Int} (h : (Lit.int .i64 kd).wf = true) {f : Nat} (hf : f < 18446744073709551616) {s : ByteArray} (hs : s.size ≤ 65536) {k : Nat} (hk : 12 ≤ k) : engrossref1_PutVal.f k kd f s = some (putV kd f s) := by
  unfold engrossref1_PutVal.f putV tailV
  have h1 := (putN_len h).1
  have h2 := (putS_len hs).1
  rw [rput_is h hk]
  simp only [Option.bind_some]
  by_cases e1 : kd = 1
  · rw [if_pos e1, if_pos e1, rbytes_is hf (by omega)]
    simp only [Option.bind_some]
    rw [if_pos (by rw [be_len]; omega)]
  · rw [if_neg e1, if_neg e1]
    by_cases e2 : kd = 2
    · rw [if_pos e2, if_pos e2, rputtext_is hs hk]
      simp only [Option.bind_some]
      rw [if_pos (by omega)]
    · rw [if_neg e2, if_neg e2, List.append_nil]
/-- What the first bytes say: a value, how many bytes, what went wrong. -/
def getV (l : List Int) : Int × Nat × ByteArray × Int × Int :=
  if (getN l).2.2 ≠ 0 then (0, 0, (⟨#[]⟩ : ByteArray), 0, (getN l).2.2)
  else if (getN l).1 = 0 then (0, 0, (⟨#[]⟩ : ByteArray), (getN l).2.1, 0)
  else if (getN l).1 = 1 then (if (l.length : Int) - (getN l).2.1 < 8 then (0, 0, (⟨#[]⟩ : ByteArray), 0, 2)
    else if (ofL ((l.drop (getN l).2.1.toNat).take 8)).2 = true then (1, (ofL ((l.drop (getN l).2.1.toNat).take 8)).1, (⟨#[]⟩ : ByteArray), (getN l).2.1 + 8, 0) else (0, 0, (⟨#[]⟩ : ByteArray), 0, 1))
  else if (getN l).1 = 2 then (if (getS (l.drop (getN l).2.1.toNat)).2.2 ≠ 0 then (0, 0, (⟨#[]⟩ : ByteArray), 0, (getS (l.drop (getN l).2.1.toNat)).2.2)
    else if (getS (l.drop (getN l).2.1.toNat)).1.size ≤ 20 then (2, 0, (getS (l.drop (getN l).2.1.toNat)).1, (getN l).2.1 + (getS (l.drop (getN l).2.1.toNat)).2.1, 0) else (0, 0, (⟨#[]⟩ : ByteArray), 0, 1))
  else (0, 0, (⟨#[]⟩ : ByteArray), 0, 1)
theorem nil_list : (⟨#[]⟩ : ByteArray).toList = [] := by rw [Go.ByteArray.toList_eq]
theorem ofL_clean {l : List Int} (h : (ofL l).2 = true) : cl (ofL l).1 = (ofL l).1 := by
  unfold ofL at h ⊢
  split at h
  · rename_i h8
    rw [if_pos h8]
    split at h
    · rename_i hp
      rw [if_pos hp]
      show cl (fo (unbe l)) = fo (unbe l)
      unfold cl
      by_cases hn : 9218868437227405312 < fo (unbe l) % 9223372036854775808
      · rw [if_pos hn]
        have : pl (fo (unbe l)) = 0 := by unfold pl; rw [if_pos hn]
        rw [this] at hp
        rw [← hp]
        rfl
      · rw [if_neg hn]
    · cases h
  · cases h
theorem ofL_lt {l : List Int} (hb : ∀ c ∈ l, 0 ≤ c ∧ c ≤ 255) : (ofL l).1 < 18446744073709551616 := by
  unfold ofL
  split
  · rename_i h8
    split
    · have := unbe_lt hb
      rw [h8] at this
      exact fo_lt (by simpa using this)
    · omega
  · omega
theorem cut_mid {l : List Int} {n : Nat} : (l.take (n + 8)).drop n = (l.drop n).take 8 := by
  rw [List.drop_take]
  congr 1
  omega
theorem getS_in {l : List Int} (h : (getS l).2.2 = 0) : 0 ≤ (getS l).2.1 ∧ (getS l).2.1 ≤ l.length := by
  unfold getS at h ⊢
  by_cases h1 : (getN l).2.2 ≠ 0
  · rw [if_pos h1] at h; exact absurd h h1
  · rw [if_neg h1] at h ⊢
    have := getN_in (show (getN l).2.2 = 0 by omega)
    by_cases h2 : (getN l).1 < 0 ∨ (getN l).1 > 65536
    · rw [if_pos h2] at h; cases h
    · rw [if_neg h2] at h ⊢
      by_cases h3 : (getN l).1 > (l.length : Int) - (getN l).2.1
      · rw [if_pos h3] at h; cases h
      · rw [if_neg h3]
        dsimp only
        omega
theorem dget_is {l : List Int} (hl : ∀ c ∈ l, 0 ≤ c ∧ c ≤ 255) (hn : l.length ≤ 140737488355328) {k : Nat} (hk : 60 ≤ k) : datum_Get.f k l = some (getV l) := by
  unfold datum_Get.f getV
  rw [get_is hl hn (by omega)]
  simp only [Option.bind_some]
  by_cases h0 : (getN l).2.2 = 0
  · have hin := getN_in h0
    rw [if_pos h0, if_neg (show ¬ (getN l).2.2 ≠ 0 by simp [h0])]
    obtain ⟨n, en⟩ : ∃ n : Nat, (getN l).2.1 = n := ⟨(getN l).2.1.toNat, by omega⟩
    rw [en] at hin ⊢
    rw [Int.toNat_natCast]
    by_cases k0 : (getN l).1 = 0
    · rw [if_pos k0, if_pos k0, k0, may_is]
      simp only [Option.bind_some]
      rw [if_pos (by unfold mayV; rw [if_pos rfl, nil_list]; rfl), w64 (x := (n : Int) + 0) (by omega), Int.add_zero]
    · rw [if_neg k0, if_neg k0]
      by_cases k1 : (getN l).1 = 1
      · rw [if_pos k1, if_pos k1, w64 (x := (l.length : Int) - n) (by omega)]
        by_cases h8 : (l.length : Int) - n < 8
        · rw [if_pos h8, if_pos h8]
        · rw [if_neg h8, if_neg h8, w64 (x := (n : Int) + 8) (by omega), if_pos (by omega), if_pos (by omega), if_pos (by omega)]
          rw [show ((n : Int) + 8).toNat = n + 8 by omega, cut_mid]
          have hb : ∀ c ∈ (l.drop n).take 8, 0 ≤ c ∧ c ≤ 255 := fun c hc => hl c (List.mem_of_mem_drop (List.mem_of_mem_take hc))
          rw [of_is hb (by omega)]
          simp only [Option.bind_some]
          by_cases ho : (ofL ((l.drop n).take 8)).2 = true
          · rw [if_pos ho, if_pos ho, k1, may_is]
            simp only [Option.bind_some]
            rw [if_pos (by unfold mayV; rw [if_neg (by decide), if_pos rfl, nil_list, ofL_clean ho]; simp)]
          · rw [if_neg ho, if_neg ho]
      · rw [if_neg k1, if_neg k1]
        by_cases k2 : (getN l).1 = 2
        · rw [if_pos k2, if_pos k2, if_pos (by omega), if_pos (by omega)]
          rw [gettext_is (fun c hc => hl c (List.mem_of_mem_drop hc)) (by rw [List.length_drop]; omega) (by omega)]
          simp only [Option.bind_some]
          by_cases hs : (getS (l.drop n)).2.2 = 0
          · have hsi := getS_in hs
            rw [List.length_drop] at hsi
            rw [if_pos hs, if_neg (show ¬ (getS (l.drop n)).2.2 ≠ 0 by simp [hs]), k2, may_is]
            simp only [Option.bind_some]
            by_cases h20 : (getS (l.drop n)).1.size ≤ 20
            · rw [if_pos (by unfold mayV; simp [h20]), if_pos h20, w64 (x := (n : Int) + (getS (l.drop n)).2.1) (by omega)]
            · rw [if_neg (by unfold mayV; simp; omega), if_neg h20]
          · rw [if_neg hs, if_pos (show (getS (l.drop n)).2.2 ≠ 0 from hs)]
        · rw [if_neg k2, if_neg k2]
  · rw [if_neg h0, if_pos (show (getN l).2.2 ≠ 0 from h0)]
theorem getV_lt {l : List Int} (hl : ∀ c ∈ l, 0 ≤ c ∧ c ≤ 255) : (getV l).2.1 < 18446744073709551616 := by
  unfold getV
  split
  · dsimp only; omega
  · split
    · dsimp only; omega
    · split
      · split
        · dsimp only; omega
        · split
          · exact ofL_lt (fun c hc => hl c (List.mem_of_mem_drop (List.mem_of_mem_take hc)))
          · dsimp only; omega
      · split
        · split
          · dsimp only; omega
          · split
            · dsimp only; omega
            · dsimp only; omega
        · dsimp only; omega
theorem mayV_cases {kd : Int} {f : Nat} {s : ByteArray} (h : mayV kd f s = true) : (kd = 0 ∧ f = 0 ∧ s.toList = []) ∨ (kd = 1 ∧ cl f = f ∧ s.toList = []) ∨ (kd = 2 ∧ f = 0 ∧ s.size ≤ 20) := by
  unfold mayV at h
  split at h
  · rename_i h0
    simp at h
    exact .inl ⟨h0, h⟩
  · split at h
    · rename_i h1
      simp at h
      exact .inr (.inl ⟨h1, h.2, h.1⟩)
    · split at h
      · rename_i h2
        simp at h
        exact .inr (.inr ⟨h2, h⟩)
      · cases h
theorem nil_eq {s : ByteArray} (h : s.toList = []) : s = (⟨#[]⟩ : ByteArray) := by
  rw [Go.ByteArray.toList_eq] at h
  exact ByteArray.ext (Array.toList_inj.1 h)
theorem getV_putV {kd : Int} {f : Nat} {s : ByteArray} (h : mayV kd f s = true) (hf : f < 18446744073709551616) (rest : List Int) : getV (putV kd f s ++ rest) = (kd, f, s, ((putV kd f s).length : Int), 0) := by
  rcases mayV_cases h with ⟨rfl, rfl, hs⟩ | ⟨rfl, hc, hs⟩ | ⟨rfl, rfl, hs⟩
  · have hw : (Lit.int .i64 0).wf = true := by decide
    have hg := getN_putN hw (tailV 0 0 s ++ rest)
    unfold getV putV
    rw [List.append_assoc, hg]
    dsimp only
    rw [if_neg (by decide), if_pos rfl, nil_eq hs]
    simp [tailV]
  · obtain rfl := nil_eq hs
    have hw : (Lit.int .i64 1).wf = true := by decide
    have hg := getN_putN hw (tailV 1 f (⟨#[]⟩ : ByteArray) ++ rest)
    have ht : tailV 1 f (⟨#[]⟩ : ByteArray) = be 8 (pl f) := by unfold tailV; rw [if_pos rfl]
    unfold getV putV
    rw [List.append_assoc, hg]
    dsimp only
    rw [Int.toNat_natCast, List.drop_left]
    rw [if_neg (by decide), if_neg (by decide), if_pos rfl, if_neg (by simp only [List.length_append, ht, be_len]; omega)]
    have e1 : (tailV 1 f (⟨#[]⟩ : ByteArray) ++ rest).take 8 = be 8 (pl f) := by
      rw [ht, List.take_append_of_le_length (by rw [be_len]; omega), List.take_of_length_le (by rw [be_len]; omega)]
    have e2 : ofL (be 8 (pl f)) = (f, true) := by
      rw [ofL_be (pl_lt hf)]
      have ef := fo_pl hf
      rw [if_pos (by rw [ef, pl_clean hf]), ef]
      unfold cl at hc
      rw [hc]
    rw [e1, e2, if_pos rfl, List.length_append, ht, be_len]
    rfl
  · have hw : (Lit.int .i64 2).wf = true := by decide
    have hg := getN_putN hw (tailV 2 0 s ++ rest)
    have ht : tailV 2 0 s = putS s := by unfold tailV; rw [if_neg (by decide), if_pos rfl]
    unfold getV putV
    rw [List.append_assoc, hg]
    dsimp only
    rw [Int.toNat_natCast, List.drop_left, ht, getS_putS (by omega)]
    dsimp only
    rw [if_neg (by decide), if_neg (by decide), if_neg (by decide), if_pos rfl, if_neg (by decide), if_pos hs, List.length_append]
    rfl
theorem getV_cut {kd : Int} {f : Nat} {s : ByteArray} (h : mayV kd f s = true) (hf : f < 18446744073709551616) {m : Nat} (hm : m < (putV kd f s).length) : getV ((putV kd f s).take m) = (0, 0, (⟨#[]⟩ : ByteArray), 0, 2) := by
  have hw : (Lit.int .i64 kd).wf = true := by rcases mayV_cases h with ⟨rfl, _⟩ | ⟨rfl, _⟩ | ⟨rfl, _⟩ <;> decide
  unfold putV at hm ⊢
  rcases Nat.lt_or_ge m (putN kd).length with h1 | h1
  · rw [List.take_append_of_le_length (by omega)]
    unfold getV
    rw [getN_cut hw h1]
    rfl
  · obtain ⟨j, rfl⟩ : ∃ j, m = (putN kd).length + j := ⟨m - (putN kd).length, by omega⟩
    rw [List.take_length_add_append]
    have hj : j < (tailV kd f s).length := by rw [List.length_append] at hm; omega
    unfold getV
    rw [getN_putN hw]
    dsimp only
    rw [Int.toNat_natCast, List.drop_left]
    rcases mayV_cases h with ⟨rfl, _, _⟩ | ⟨rfl, _, _⟩ | ⟨rfl, rfl, hs⟩
    · exact absurd hj (by simp [tailV])
    · have ht : tailV 1 f s = be 8 (pl f) := by unfold tailV; rw [if_pos rfl]
      rw [ht] at hj ⊢
      rw [be_len] at hj
      rw [if_neg (by decide), if_neg (by decide), if_pos rfl, if_pos (by simp only [List.length_append, List.length_take, be_len]; omega)]
    · have ht : tailV 2 0 s = putS s := by unfold tailV; rw [if_neg (by decide), if_pos rfl]
      rw [ht] at hj ⊢
      rw [getS_cut (by omega) hj]
      rw [if_neg (by decide), if_neg (by decide), if_neg (by decide), if_pos rfl, if_pos (by decide)]
theorem toNat_lt {x : Int} (h : (Lit.int .u64 x).wf = true) : x.toNat < 18446744073709551616 := by have := wf_u64 h; omega
theorem str_inj {a b : List Int} (ha : ∀ c ∈ a, 0 ≤ c ∧ c ≤ 255) (hb : ∀ c ∈ b, 0 ≤ c ∧ c ≤ 255) : (strOfNums a).toList = (strOfNums b).toList ↔ a = b := by
  constructor
  · intro h
    have h2 : strOfNums a = strOfNums b := by
      rw [Go.ByteArray.toList_eq, Go.ByteArray.toList_eq] at h
      exact ByteArray.ext (Array.toList_inj.1 h)
    rw [← bytes_str ha, ← bytes_str hb, h2]
  · intro h; rw [h]
theorem app_in {a b : List Int} (h1 : ∀ c ∈ a, 0 ≤ c ∧ c ≤ 255) (h2 : ∀ c ∈ b, 0 ≤ c ∧ c ≤ 255) : ∀ c ∈ a ++ b, 0 ≤ c ∧ c ≤ 255 := by
  intro c hc
  rcases List.mem_append.1 hc with hc | hc
  · exact h1 c hc
  · exact h2 c hc
theorem str_app (l m : List Int) : (strOfNums (l ++ m)).toList = (strOfNums l ++ strOfNums m).toList := by
  rw [Go.ByteArray.toList_eq, Go.ByteArray.toList_eq]
  simp [strOfNums]
end Go.Proofs.Ythfpmpnedaliaaa.Pure
