/- ChangeBytes: changes go to bytes and back; what may not be does not; bytes that were changed are nobody's, or just theirs: the plain statement of the law. -/
import Derived.Test.YtijnfnlahhgpgaaDoorChgB
import Derived.Laws.BitsAllLaws
import Derived.Test.YtijnfnlahhgpgaaDoorPx8
set_option linter.unusedVariables false
set_option linter.unusedSimpArgs false
namespace Go.Proofs.YtijnfnlahhgpgaaDoor.Pure
open Go.RowKit Go.Proofs.YtijnfnlahhgpgaaDoor.P Go.Proofs.YtijnfnlahhgpgaaDoorW.PrintWords Go.Proofs.YtijnfnlahhgpgaaDoorW.PrintLast Go.Proofs.YtijnfnlahhgpgaaDoorW.PrintMore
theorem xor_u8 {a b : Int} (ha : 0 ≤ a ∧ a ≤ 255) (hb : 0 ≤ b ∧ b ≤ 255) : 0 ≤ Go.bits .xor .u8 a b ∧ Go.bits .xor .u8 a b ≤ 255 := by
  rw [u8_xor a b ha.1 (by omega) hb.1 (by omega)]
  have := Nat.xor_lt_two_pow (n := 8) (show a.toNat < 2 ^ 8 by omega) (show b.toNat < 2 ^ 8 by omega)
  omega
theorem bytes_j1 {p : List Int} (hp : IB p) (h0 : 1 ≤ p.length) (hl : p.length ≤ 100000) (at_ x : Int) (hx : 0 ≤ x ∧ x ≤ 255) {k : Nat} (hk : 2100 ≤ k) : engrosslaw16_ChangeBytes.j1 k at_ x p false = some true := by
  obtain ⟨k, rfl⟩ : ∃ m, k = m + 1 := ⟨k - 1, by omega⟩
  simp only [engrosslaw16_ChangeBytes.j1]
  rw [if_neg (by decide)]
  by_cases hn : at_ < 0
  · rw [if_pos hn]
  rw [if_neg hn, if_pos (by simp only [List.length_nil]; omega)]
  simp only [Option.bind_some, List.nil_append]
  obtain ⟨n, rfl⟩ : ∃ n : Nat, at_ = (n : Int) := ⟨at_.toNat, by omega⟩
  have hm : Int.tmod (n : Int) (p.length : Int) = ((n % p.length : Nat) : Int) := rfl
  have hi : n % p.length < p.length := Nat.mod_lt _ (by omega)
  rw [hm]
  clear hm
  generalize n % p.length = i at hi ⊢
  rw [if_neg (by omega), if_pos (by omega), if_pos (by omega), Int.toNat_natCast]
  have hrd : 0 ≤ rd p (i : Int) ∧ rd p (i : Int) ≤ 255 := by
    have e : rd p (i : Int) = p[i] := by unfold rd; simp [List.getD, hi]
    rw [e]
    exact hp _ (List.getElem_mem _)
  have hset : IB (p.set i (Go.bits .xor .u8 (rd p (i : Int)) x)) := by
    intro c hc
    rcases List.mem_or_eq_of_mem_set hc with h | h
    · exact hp c h
    · rw [h]; exact xor_u8 hrd hx
  rw [tells_is hset (by rw [List.length_set]; omega) (by omega)]
  simp only [Option.bind_some]
  rw [if_pos trivial, if_pos (by omega), tells_is (IB_take hset _) (by rw [List.length_take, List.length_set]; omega) (by omega)]
  simp only [Option.bind_some]
  rw [if_pos trivial, if_pos (by rw [List.length_set]; omega), tells_is (IB_app hset (fun c hc => by rw [List.mem_singleton.1 hc]; exact hx)) (by rw [List.length_append, List.length_set, List.length_singleton]; omega) (by omega)]
  rfl
theorem ChangeBytes : engrosslaw16_ChangeBytes.Pure := by
  intro x0 x1 at_ x w0 w1 _ hx
  have hx := wf_u8 hx
  obtain ⟨k, hk⟩ : ∃ k : Nat, 4000 ≤ k := ⟨4000, Nat.le_refl _⟩
  refine ⟨k, ?_⟩
  unfold engrosslaw16_ChangeBytes.f
  rw [begun16 (by omega)]
  simp only [Option.bind_some]
  rw [if_pos trivial]
  obtain ⟨l, e1, l1, l2⟩ := images_is x0 w0.2 (n := 8) (by decide) (k := k) (by omega)
  obtain ⟨m, e2, m1, m2⟩ := images_is x1 w1.2 (n := 8) (by decide) (k := k) (by omega)
  rw [show engrosslaw16_Images.f k x0 8 = some l from e1, show engrosslaw16_Images.f k x1 8 = some m from e2]
  simp only [Option.bind_some]
  rw [encode_is (by omega) l2 (by omega), may_is (by omega) (by omega), rmay_is (by omega) (by omega)]
  simp only [Option.bind_some]
  rw [if_neg (by simp), rencode_is (by omega) (by omega)]
  simp only [Option.bind_some]
  rw [if_pos trivial, eq_is (by omega) (by omega), req_is (by omega) (by omega)]
  simp only [Option.bind_some]
  obtain ⟨k, rfl⟩ : ∃ m, k = m + 1 := ⟨k - 1, by omega⟩
  simp only [engrosslaw16_ChangeBytes.j0]
  rw [if_neg (by simp)]
  cases hm : mayI l
  · have he : encF l = [] := by unfold encF; rw [if_neg (by rw [hm]; decide)]
    rw [he, if_pos (by simp)]
  · have he : encF l = bytesI l := by unfold encF; rw [if_pos hm]
    have hl := bytesI_len hm
    rw [he, if_neg (by omega), decode_is (bytesI_IB hm) (by omega) (by omega), dec_enc hm l2]
    simp only [Option.bind_some]
    rw [if_pos trivial, req_is (by omega) (by omega), eqI_self]
    simp only [Option.bind_some]
    exact bytes_j1 (bytesI_IB hm) (by omega) (by omega) at_ x hx (by omega)
end Go.Proofs.YtijnfnlahhgpgaaDoor.Pure
