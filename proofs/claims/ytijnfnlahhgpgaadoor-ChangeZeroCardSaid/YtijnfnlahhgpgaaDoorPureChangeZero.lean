/- ChangeZero: a page of noughts is told as one, with few bytes: the plain statement of the law. -/
import Derived.Test.YtijnfnlahhgpgaaDoorChgB
import Derived.Test.YtijnfnlahhgpgaaDoorPx9
set_option linter.unusedVariables false
set_option linter.unusedSimpArgs false
namespace Go.Proofs.YtijnfnlahhgpgaaDoor.Pure
open Go.RowKit Go.Proofs.YtijnfnlahhgpgaaDoor.P Go.Proofs.YtijnfnlahhgpgaaDoorW.PrintWords Go.Proofs.YtijnfnlahhgpgaaDoorW.PrintLast Go.Proofs.YtijnfnlahhgpgaaDoorW.PrintMore
def sevens (n : Nat) : List Int := List.replicate n 7 ++ List.replicate (256 - n) 0
theorem sevens_len {n : Nat} (h : n ≤ 256) : (sevens n).length = 256 := by
  unfold sevens
  rw [List.length_append, List.length_replicate, List.length_replicate]
  omega
theorem sevens_set {n : Nat} (h : n < 256) : (sevens n).set n 7 = sevens (n + 1) := by
  unfold sevens
  have e : 256 - n = (256 - (n + 1)) + 1 := by omega
  rw [e, List.replicate_succ, List.set_append_right _ _ (by rw [List.length_replicate]; exact Nat.le_refl _), List.length_replicate, Nat.sub_self, List.set_cons_zero, List.replicate_succ' (n := n), List.append_assoc]
  rfl
theorem sevens_IB (n : Nat) : IB (sevens n) := by
  refine IB_app (fun c hc => ?_) (IB_zeros _)
  obtain rfl := List.eq_of_mem_replicate hc
  omega
theorem sevens_trim (n : Nat) : trimZ (sevens n) = List.replicate n 7 := by
  unfold sevens
  rw [trimZ_zeros]
  cases n with
  | zero => rfl
  | succ n => rw [List.replicate_succ', trimZ_last _ (by decide)]
theorem putN_two {n : Nat} (h : n < 8000) : 1 ≤ (putN (n : Int)).length ∧ (putN (n : Int)).length ≤ 2 := by
  unfold putN
  rw [zz_nat]
  have := enc_len 1 (2 * n) (by omega)
  omega
theorem zero_l0 (x : Int) (n : Nat) (hn : n ≤ 256) (r : Option Bool) (m : Nat) (hr : ∀ k, m ≤ k → engrosslaw16_ChangeZero.l0 (k + 1) x (n : Int) (sevens n) (n : Int) = r) (d : Nat) : ∀ (k i : Nat), i + d = n → d + m < k →
    engrosslaw16_ChangeZero.l0 k x (n : Int) (sevens i) (i : Int) = r := by
  induction d with
  | zero =>
    intro k i hi hk
    obtain ⟨k, rfl⟩ : ∃ m, k = m + 1 := ⟨k - 1, by omega⟩
    obtain rfl : i = n := by omega
    exact hr k (by omega)
  | succ d ih =>
    intro k i hi hk
    obtain ⟨k, rfl⟩ : ∃ m, k = m + 1 := ⟨k - 1, by omega⟩
    simp only [engrosslaw16_ChangeZero.l0]
    rw [if_pos (by omega), if_pos (by omega), if_pos (by rw [sevens_len (by omega)]; omega), Int.toNat_natCast, sevens_set (by omega), w64 (x := (i : Int) + 1) (by omega), show (i : Int) + 1 = ((i + 1 : Nat) : Int) from rfl]
    exact ih k (i + 1) (by omega) (by omega)
theorem ChangeZero : engrosslaw16_ChangeZero.Pure := by
  intro x y hx hy
  obtain ⟨k, hk⟩ : ∃ k : Nat, 4000 ≤ k := ⟨4000, Nat.le_refl _⟩
  refine ⟨k, ?_⟩
  unfold engrosslaw16_ChangeZero.f
  rw [begun16 (by omega)]
  simp only [Option.bind_some]
  rw [if_pos trivial]
  obtain ⟨k, rfl⟩ : ∃ m, k = m + 1 := ⟨k - 1, by omega⟩
  simp only [engrosslaw16_ChangeZero.j0]
  by_cases h1 : x < 0
  · rw [if_pos h1, if_pos trivial]
  rw [if_neg h1]
  by_cases h2 : x > 95
  · rw [if_pos h2, if_pos trivial]
  rw [if_neg h2]
  by_cases h3 : y < 0
  · rw [if_pos h3, if_pos trivial]
  rw [if_neg h3]
  by_cases h4 : y > 256
  · rw [decide_eq_true h4, if_pos rfl]
  rw [decide_eq_false h4, if_neg (by decide), if_pos (by omega)]
  obtain ⟨n, rfl⟩ : ∃ n : Nat, y = (n : Int) := ⟨y.toNat, by omega⟩
  obtain ⟨v, rfl⟩ : ∃ v : Nat, x = (v : Int) := ⟨x.toNat, by omega⟩
  have hp := sevens_len (n := n) (by omega)
  have hm : mayI [(⟨(v : Int), sevens n⟩ : S38)] = true := mayI_one (by omega) (by omega) hp
  have hb : ∀ y ∈ [(⟨(v : Int), sevens n⟩ : S38)], IB y.f1 := by
    intro y hy
    rw [List.mem_singleton.1 hy]
    exact sevens_IB n
  have he : encF [(⟨(v : Int), sevens n⟩ : S38)] = bytesI [⟨(v : Int), sevens n⟩] := by unfold encF; rw [if_pos hm]
  have hl := (bytesI_len hm).1
  have hz : n ≤ (bytesI [(⟨(v : Int), sevens n⟩ : S38)]).length ∧ (bytesI [(⟨(v : Int), sevens n⟩ : S38)]).length ≤ n + 6 := by
    have a1 := putN_two (n := 1) (by decide)
    have a2 := putN_two (n := v) (by omega)
    have a3 := putN_two (n := n) (by omega)
    unfold bytesI encs encs encX putS
    simp only
    rw [sevens_trim, strOfNums_size, List.length_replicate]
    simp only [List.length_append, List.length_nil, List.length_singleton]
    rw [bytesOf_len, strOfNums_size, List.length_replicate]
    have a1' : (putN ((0 + 1 : Nat) : Int)).length = (putN ((1 : Nat) : Int)).length := rfl
    omega
  have e := zero_l0 (v : Int) n (by omega) (some true) 2100 (fun k hk => by
    simp only [engrosslaw16_ChangeZero.l0]
    rw [if_neg (by omega), encode_is (by simp) hb (by omega), he]
    simp only [Option.bind_some]
    rw [decode_is (bytesI_IB hm) (by omega) (by omega), dec_enc hm hb]
    simp only [Option.bind_some]
    have e0 : rd_T38 [(⟨(v : Int), sevens n⟩ : S38)] 0 = ⟨(v : Int), sevens n⟩ := rfl
    rw [if_pos trivial, if_pos (by simp), if_pos (by simp), e0]
    simp only
    rw [if_pos trivial, if_pos trivial, if_pos (by omega), w64 (by omega), decide_eq_true (by omega)]) n k 0 (by omega) (by omega)
  exact e
end Go.Proofs.YtijnfnlahhgpgaaDoor.Pure
