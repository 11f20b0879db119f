/- The change laws' helper begun is true. No condition. -/
import Derived.Test.YtijnfnlahhgpgaaDoorChgE
import Derived.Test.YtijnfnlahhgpgaaDoorPx5
set_option linter.unusedVariables false
set_option linter.unusedSimpArgs false
namespace Go.Proofs.YtijnfnlahhgpgaaDoor.Pure
open Go.RowKit Go.Proofs.YtijnfnlahhgpgaaDoor.P Go.Proofs.YtijnfnlahhgpgaaDoorW.PrintWords Go.Proofs.YtijnfnlahhgpgaaDoorW.PrintLast Go.Proofs.YtijnfnlahhgpgaaDoorW.PrintMore
theorem trimZ_zeros (m : List Int) (n : Nat) : trimZ (m ++ List.replicate n 0) = trimZ m := by
  induction n with
  | zero => simp
  | succ n ih => rw [List.replicate_succ', ← List.append_assoc, trimZ_nought, ih]
theorem trimZ_pageOf {l : List Int} (h : l.length ≤ 256) : trimZ (pageOf l) = trimZ l := by
  unfold pageOf
  rw [trimZ_zeros, List.take_of_length_le h]
theorem putN_small {n : Nat} (h : n < 64) : putN (n : Int) = [((2 * n : Nat) : Int)] := by
  unfold putN
  rw [zz_nat, enc_lo (by omega)]
theorem mayI_one {n : Int} {l : List Int} (h0 : 0 ≤ n) (h1 : n < 96) (h : l.length = 256) : mayI [⟨n, l⟩] = true := by
  simp [mayI, goodI, okI, ltI, h0, h1, h]
theorem begun16 {k : Nat} (hk : 2000 ≤ k) : engrosslaw16_begun.f k = some true := by
  have hp : (pageOf [97, 98]).length = 256 := pageOf_len _
  have hm : mayI [(⟨3, pageOf [97, 98]⟩ : S38)] = true := mayI_one (by decide) (by decide) hp
  have h97 : IB [97, 98] := by intro c hc; simp at hc; omega
  have hb : ∀ x ∈ [(⟨3, pageOf [97, 98]⟩ : S38)], IB x.f1 := by
    intro x hx
    rw [List.mem_singleton.1 hx]
    exact IB_page h97
  have he : encF [(⟨3, pageOf [97, 98]⟩ : S38)] = bytesI [⟨3, pageOf [97, 98]⟩] := by unfold encF; rw [if_pos hm]
  have hs : (strOfNums [97, 98]).size = 2 := by rw [strOfNums_size]; rfl
  have hy : bytesI [(⟨3, pageOf [97, 98]⟩ : S38)] = [2, 6, 4, 97, 98] := by
    unfold bytesI encs encs encX putS
    simp only
    rw [trimZ_pageOf (by decide), show trimZ [97, 98] = [97, 98] from trimZ_last [97] (by decide), hs, bytes_str h97]
    rw [show (([(⟨3, pageOf [97, 98]⟩ : S38)].length : Nat) : Int) = ((1 : Nat) : Int) from rfl, putN_small (by decide), show (3 : Int) = ((3 : Nat) : Int) from rfl, putN_small (n := 3) (by decide), putN_small (n := 2) (by decide)]
    rfl
  unfold engrosslaw16_begun.f
  rw [of_is (by decide)]
  simp only [Option.bind_some]
  rw [encode_is (by decide) hb (by omega), he]
  simp only [Option.bind_some]
  rw [decode_is (bytesI_IB hm) (by have := (bytesI_len hm).1; omega) hk, dec_enc hm hb]
  simp only [Option.bind_some]
  rw [may_is (by decide) (by omega), hm]
  simp only [Option.bind_some]
  rw [if_pos trivial, may_is (by decide) (by omega), show mayI [] = false from rfl]
  simp only [Option.bind_some]
  rw [if_neg (by decide), hy, if_pos (by rw [Go.ByteArray.toList_eq]; rfl), if_pos trivial, eq_is (by decide) (by omega), eqI_self]
  simp only [Option.bind_some]
  rw [if_pos trivial, eq_is (by decide) (by omega)]
  rfl
end Go.Proofs.YtijnfnlahhgpgaaDoor.Pure
