/- The helpers of the cell laws: begun is true; cells that are not too long. No condition. -/
import Derived.Test.YtjhbeaffcdkhcaaCelV
import Derived.Test.YtjhbeaffcdkhcaaPx5
import Derived.Test.YtjhbeaffcdkhcaaPx6
set_option linter.unusedVariables false
set_option linter.unusedSimpArgs false
namespace Go.Proofs.Ytjhbeaffcdkhcaa.Pure
open Go.RowKit Go.Proofs.Ytjhbeaffcdkhcaa.P Go.Proofs.YtjhbeaffcdkhcaaW.PrintWords Go.Proofs.YtjhbeaffcdkhcaaW.PrintLast Go.Proofs.YtjhbeaffcdkhcaaW.PrintMore
theorem begun10 {k : Nat} (hk : 60 ≤ k) : engrosslaw10_begun.f k = some true :=
  at_rounds (g := fun k => engrosslaw10_begun.f k) (fun k => engrosslaw10_begun.mono k) hk (show engrosslaw10_begun.f 60 = some true by decide +kernel)
theorem val10 (kd : Int) (f : Nat) (s : ByteArray) : ∃ t : ByteArray, engrosslaw10_Val.f kd f s = some (kd, f, t) ∧ t.size ≤ 25 := by
  unfold engrosslaw10_Val.f
  obtain ⟨t, e, h, _⟩ := cut_is s (n := 25)
  rw [show (25 : Int) = ((25 : Nat) : Int) from rfl, e]
  exact ⟨t, rfl, h⟩
theorem cut10 (s : ByteArray) (kd : Int) (f : Nat) (t : ByteArray) (x : Int) (kd' : Int) (f' : Nat) (t' : ByteArray) :
    ∃ s2 t2 t2' : ByteArray, engrosslaw10_Cut.f s kd f t x kd' f' t' = some (s2, kd, f, t2, x, kd', f', t2') ∧ s2.size ≤ 20 ∧ t2.size ≤ 25 ∧ t2'.size ≤ 25 := by
  unfold engrosslaw10_Cut.f
  obtain ⟨s2, e, h, _⟩ := cut_is s (n := 20)
  obtain ⟨t2, e2, h2⟩ := val10 kd f t
  obtain ⟨t3, e3, h3⟩ := val10 kd' f' t'
  rw [show (20 : Int) = ((20 : Nat) : Int) from rfl, e, e2, e3]
  exact ⟨s2, t2, t3, rfl, h, h2, h3⟩
theorem of10 (s : ByteArray) (kd : Int) (f : Nat) (t : ByteArray) (x : Int) (kd' : Int) (f' : Nat) (t' : ByteArray) : engrosslaw10_Of.f s kd f t x kd' f' t' = some (s, kd, f, t, x, kd', f', t') := rfl
theorem back10 (s : ByteArray) (kd : Int) (f : Nat) (t : ByteArray) (x : Int) (kd' : Int) (f' : Nat) (t' : ByteArray) : engrosslaw10_Back.f s kd f t x kd' f' t' = some (s, kd, f, t, x, kd', f', t') := rfl
theorem write10 (s : ByteArray) (kd : Int) (f : Nat) (t : ByteArray) (x : Int) (kd' : Int) (f' : Nat) (t' : ByteArray) (y : Int) (k2 : Int) (g : Nat) (u : ByteArray) : cell_Write.f s kd f t x kd' f' t' y k2 g u = some (s, kd, f, t, y, k2, g, u) := rfl
/-- What a transaction sees. -/
def seeC (kd : Int) (f : Nat) (t : ByteArray) (x : Int) (kd' : Int) (f' : Nat) (t' : ByteArray) (y : Int) : Int × Nat × ByteArray := if y > 0 ∧ x = y then (kd', f', t') else (kd, f, t)
theorem see10 (s : ByteArray) (kd : Int) (f : Nat) (t : ByteArray) (x : Int) (kd' : Int) (f' : Nat) (t' : ByteArray) (y : Int) : cell_See.f s kd f t x kd' f' t' y = some (seeC kd f t x kd' f' t' y) := by
  unfold cell_See.f seeC
  by_cases h : y > 0
  · by_cases h2 : x = y
    · rw [if_pos h, if_pos h2, if_pos ⟨h, h2⟩]
    · rw [if_pos h, if_neg h2, if_neg (fun e => h2 e.2)]
  · rw [if_neg h, if_neg (fun e => h e.1)]
theorem rsee10 (s : ByteArray) (kd : Int) (f : Nat) (t : ByteArray) (x : Int) (kd' : Int) (f' : Nat) (t' : ByteArray) (y : Int) : engrossref10_See.f s kd f t x kd' f' t' y = some (seeC kd f t x kd' f' t' y) := by
  unfold engrossref10_See.f seeC
  by_cases h : y > 0
  · by_cases h2 : x = y
    · rw [if_pos h, if_pos h2, if_pos ⟨h, h2⟩]
    · rw [if_pos h, if_neg h2, if_neg (fun e => h2 e.2)]
  · rw [if_neg h, if_neg (fun e => h e.1)]
/-- What is left of a cell with this value. -/
def leftC (s : ByteArray) (kd : Int) (f : Nat) (t : ByteArray) : ByteArray × Int × Nat × ByteArray × Int × Int × Nat × ByteArray × Bool :=
  if kd = 0 then ((⟨#[]⟩ : ByteArray), 0, 0, (⟨#[]⟩ : ByteArray), 0, 0, 0, (⟨#[]⟩ : ByteArray), false) else (s, kd, f, t, 0, 0, 0, (⟨#[]⟩ : ByteArray), true)
theorem undo10 (s : ByteArray) (kd : Int) (f : Nat) (t : ByteArray) (x : Int) (kd' : Int) (f' : Nat) (t' : ByteArray) : cell_Undo.f s kd f t x kd' f' t' = some (leftC s kd f t) := by
  unfold cell_Undo.f cell_left.f cell_none.f leftC
  simp only [Option.bind_some, beq_iff_eq]
  split <;> rfl
theorem commit10 (s : ByteArray) (kd : Int) (f : Nat) (t : ByteArray) (x : Int) (kd' : Int) (f' : Nat) (t' : ByteArray) : cell_Commit.f s kd f t x kd' f' t' = some (if x > 0 then leftC s kd' f' t' else leftC s kd f t) := by
  unfold cell_Commit.f
  rw [undo10, undo10]
  simp only [Option.bind_some]
  split <;> rfl
theorem rundo10 (s : ByteArray) (kd : Int) (f : Nat) (t : ByteArray) (x : Int) (kd' : Int) (f' : Nat) (t' : ByteArray) : engrossref10_Undo.f s kd f t x kd' f' t' = some (leftC s kd f t) := by
  unfold engrossref10_Undo.f leftC
  split <;> rfl
theorem rcommit10 {s : ByteArray} {kd : Int} {f : Nat} {t : ByteArray} {x : Int} {kd' : Int} {f' : Nat} {t' : ByteArray} (h : mayC s kd f t x kd' f' t' = true) : engrossref10_Commit.f s kd f t x kd' f' t' = some (if x > 0 then leftC s kd' f' t' else leftC s kd f t) := by
  obtain ⟨_, hv, hv', hx0, hx1, hx2⟩ := mayC_cases h
  unfold engrossref10_Commit.f leftC
  by_cases h0 : x = 0
  · have h1 : kd' = 0 ∧ kd ≠ 0 := by omega
    obtain ⟨rfl, rfl⟩ := mayV_none hv' h1.1
    rw [if_pos h0, if_neg (by omega), if_neg h1.2, h0, h1.1]
  · rw [if_neg h0, if_pos (show x > 0 by omega)]
    split <;> rfl
theorem leftC_lt {s : ByteArray} {kd : Int} {f : Nat} {t : ByteArray} (hf : f < 18446744073709551616) : (leftC s kd f t).2.2.1 < 18446744073709551616 ∧ (leftC s kd f t).2.2.2.2.2.2.1 < 18446744073709551616 := by
  unfold leftC
  split
  · dsimp only; omega
  · exact ⟨hf, by dsimp only; omega⟩
theorem seeC_lt {kd : Int} {f : Nat} {t : ByteArray} {x : Int} {kd' : Int} {f' : Nat} {t' : ByteArray} {y : Int} (hf : f < 18446744073709551616) (hf' : f' < 18446744073709551616) : (seeC kd f t x kd' f' t' y).2.1 < 18446744073709551616 := by
  unfold seeC
  split
  · exact hf'
  · exact hf
end Go.Proofs.Ytjhbeaffcdkhcaa.Pure
