/- What the program's functions of package float and the reference's answer: places, bytes, back. Condition: floats are told by 64 bits. -/
import Derived.Test.YtaphfjfalbeojaaBe8
import Derived.Test.YtaphfjfalbeojaaXF
import Derived.Test.YtaphfjfalbeojaaXG
import Derived.Test.YtaphfjfalbeojaaPx1
import Derived.Test.YtaphfjfalbeojaaPx2
import Derived.Test.YtaphfjfalbeojaaPx3
set_option linter.unusedVariables false
set_option linter.unusedSimpArgs false
namespace Go.Proofs.Ytaphfjfalbeojaa.Pure
open Go.RowKit Go.Proofs.Ytaphfjfalbeojaa.P Go.Proofs.YtaphfjfalbeojaaW.PrintWords Go.Proofs.YtaphfjfalbeojaaW.PrintLast Go.Proofs.YtaphfjfalbeojaaW.PrintMore

theorem w64' {x : Int} (h : -9223372036854775808 ≤ x ∧ x ≤ 9223372036854775807) : wrap64 x = x := by unfold wrap64; omega
theorem not64' {a : Nat} (h1 : a < 18446744073709551616) : Go.bits .xor .u64 18446744073709551615 (a : Int) = ((18446744073709551615 - a : Nat) : Int) := by
  have := u64_xor_nat 18446744073709551615 a (by decide) h1
  have e2 : 18446744073709551615 ^^^ a = 18446744073709551615 - a := by
    rw [Nat.xor_comm]
    have e3 : (18446744073709551615 : Nat) = 2 ^ 64 - 1 := rfl
    rw [e3]
    apply Nat.eq_of_testBit_eq
    intro i
    rw [Nat.testBit_xor, Nat.testBit_two_pow_sub_one]
    have hs : 2 ^ 64 - 1 - a = 2 ^ 64 - (a + 1) := by omega
    rw [hs, Nat.testBit_two_pow_sub_succ (by omega)]
    by_cases h : i < 64
    · simp [h]
    · have : a.testBit i = false := Nat.testBit_lt_two_pow (Nat.lt_of_lt_of_le (show a < 2 ^ 64 by omega) (Nat.pow_le_pow_right (by omega) (by omega)))
      simp [h, this]
  rw [e2] at this
  exact this
theorem and63 {a : Nat} (h : a < 18446744073709551616) : Go.bits .and .u64 (a : Int) 9223372036854775808 = if a < 9223372036854775808 then 0 else 9223372036854775808 := by
  have := u64_and_nat a 9223372036854775808 h (by decide)
  rw [nat_hi64_63] at this
  have e : Go.bits .and .u64 (a : Int) 9223372036854775808 = ((a % 18446744073709551616 / 9223372036854775808 * 9223372036854775808 : Nat) : Int) := this
  rw [e]
  split <;> omega
theorem or63 {a : Nat} (h : a < 9223372036854775808) : Go.bits .or .u64 (a : Int) 9223372036854775808 = ((a + 9223372036854775808 : Nat) : Int) := by
  have := u64_or_nat a 9223372036854775808 (by omega) (by decide)
  have e : a ||| 9223372036854775808 = a + 9223372036854775808 := by
    rw [Nat.or_comm, nat_join 63 9223372036854775808 a (by decide) (by exact h), Nat.add_comm]
  rw [e] at this
  exact this

/-- A float's place in the order: 0: a NaN. -/
def pl (a : Nat) : Nat := if 9218868437227405312 < a % 9223372036854775808 then 0 else if a < 9223372036854775808 then a + 9223372036854775808 else 18446744073709551615 - a
theorem pl_lt {a : Nat} (h : a < 18446744073709551616) : pl a < 18446744073709551616 := by
  unfold pl
  split
  · omega
  · split <;> omega
theorem place_is {a : Nat} (h : a < 18446744073709551616) : float_place.f a = some ((pl a : Nat) : Int) := by
  unfold float_place.f math_IsNaN.f pl
  rw [self_ne]
  simp only [Option.bind_some, decide_eq_true_eq]
  by_cases hn : 9218868437227405312 < a % 9223372036854775808
  · rw [if_pos hn, if_pos hn]; rfl
  · rw [if_neg hn, if_neg hn, and63 h]
    by_cases hs : a < 9223372036854775808
    · rw [if_pos hs, if_pos rfl, if_pos hs, or63 hs]
    · rw [if_neg hs, if_neg (by decide), if_neg hs, not64' h]
theorem less_is {a b : Nat} (ha : a < 18446744073709551616) (hb : b < 18446744073709551616) : float_Less.f a b = some (decide (pl a < pl b)) := by
  unfold float_Less.f
  rw [place_is ha, place_is hb]
  simp only [Option.bind_some, Option.some.injEq, decide_eq_decide]
  omega
theorem same_is {a b : Nat} (ha : a < 18446744073709551616) (hb : b < 18446744073709551616) : float_Same.f a b = some (decide (pl a = pl b)) := by
  unfold float_Same.f
  rw [place_is ha, place_is hb]
  simp only [Option.bind_some, Option.some.injEq]
  rw [Bool.eq_iff_iff]
  simp only [beq_iff_eq, decide_eq_true_eq]
  omega
theorem rplace_is {a : Nat} (h : a < 18446744073709551616) : engrossref1_Place.f a = some ((pl a : Int) - 9223372036854775808) := by
  unfold engrossref1_Place.f pl
  rw [rnan_is h]
  simp only [Option.bind_some, decide_eq_true_eq]
  by_cases hn : 9218868437227405312 < a % 9223372036854775808
  · rw [if_pos hn, if_pos hn]; rfl
  · rw [if_neg hn, if_neg hn]
    have e2 : Go.bits .and .u64 (a : Int) 9223372036854775807 = ((a % 9223372036854775808 : Nat) : Int) := by
      have := u64_and_nat a 9223372036854775807 h (by decide)
      rw [nat_mask63] at this
      exact this
    by_cases hs : a < 9223372036854775808
    · rw [if_neg (by omega), if_pos hs]
      exact congrArg some (by unfold wrap64; omega)
    · rw [if_pos (by omega), if_neg hs, e2]
      exact congrArg some (by unfold wrap64; omega)

theorem shr_is (u : Nat) {d : Nat} (hd : d ≤ 7) {y : Int} (hy : y = 8 * (d : Int)) : shr .u64 (u : Int) y = ((u / 256 ^ d : Nat) : Int) := by
  subst hy
  unfold shr
  have e1 : min (8 * (d : Int)).toNat (IntKind.bits .u64) = 8 * d := by
    simp only [IntKind.bits]
    omega
  rw [e1]
  have e2 : (2 : Int) ^ (8 * d) = ((256 ^ d : Nat) : Int) := by
    rw [Int.pow_mul, Int.natCast_pow]
    rfl
  rw [e2]
  rfl
theorem bytes_l0 (u : Nat) (d : Nat) : ∀ (k i : Nat) (acc : List Int), i + d = 8 → d < k → acc.length = i → float_Bytes.l0 k (u : Int) acc (i : Int) = some (acc ++ be d u) := by
  induction d with
  | zero =>
    intro k i acc hi hk ha
    obtain ⟨k, rfl⟩ : ∃ m, k = m + 1 := ⟨k - 1, by omega⟩
    simp only [float_Bytes.l0]
    rw [if_neg (by omega)]
    simp [be]
  | succ d ih =>
    intro k i acc hi hk ha
    obtain ⟨k, rfl⟩ : ∃ m, k = m + 1 := ⟨k - 1, by omega⟩
    simp only [float_Bytes.l0]
    rw [w64' (x := 7 - (i : Int)) (by omega), w64' (x := 8 * (7 - (i : Int))) (by omega), if_pos (by omega), if_pos (by omega), if_pos (by omega), shr_is u (d := d) (by omega) (by omega), w64' (x := (i : Int) + 1) (by omega), show (i : Int) + 1 = ((i + 1 : Nat) : Int) from rfl]
    rw [ih k (i + 1) _ (by omega) (by omega) (by simp only [List.length_append, List.length_cons, List.length_nil]; omega), List.append_assoc]
    rfl
theorem bytes_is {a : Nat} (h : a < 18446744073709551616) {k : Nat} (hk : 10 ≤ k) : float_Bytes.f k a = some (be 8 (pl a)) := by
  unfold float_Bytes.f
  rw [place_is h]
  simp only [Option.bind_some]
  exact bytes_l0 (pl a) 8 k 0 [] (by omega) (by omega) rfl
theorem rbytes_l0 (u : Nat) (d : Nat) : ∀ (k i : Nat) (acc : List Int), i + d = 8 → d + 1 < k → acc.length = i → engrossref1_FloatBytes.l0 k (u : Int) acc (8 * (d : Int) - 8) = some (acc ++ be d u) := by
  induction d with
  | zero =>
    intro k i acc hi hk ha
    obtain ⟨k, rfl⟩ : ∃ m, k = m + 1 := ⟨k - 1, by omega⟩
    simp only [engrossref1_FloatBytes.l0]
    rw [if_neg (by omega)]
    simp [be]
  | succ d ih =>
    intro k i acc hi hk ha
    obtain ⟨k, rfl⟩ : ∃ m, k = m + 1 := ⟨k - 1, by omega⟩
    have ew : IntKind.u64.wrap (8 * ((d + 1 : Nat) : Int) - 8) = 8 * (d : Int) := by rw [IntKind.wrap_u64]; omega
    simp only [engrossref1_FloatBytes.l0]
    rw [if_pos (by omega), ew, if_pos (by omega), if_pos (by omega), shr_is u (d := d) (by omega) rfl]
    clear ew
    rw [w64' (x := 8 * ((d + 1 : Nat) : Int) - 8 - 8) (by omega), show 8 * ((d + 1 : Nat) : Int) - 8 - 8 = 8 * (d : Int) - 8 by omega]
    rw [ih k (i + 1) _ (by omega) (by omega) (by simp only [List.length_append, List.length_cons, List.length_nil]; omega), List.append_assoc]
    rfl
theorem rbytes_is {a : Nat} (h : a < 18446744073709551616) {k : Nat} (hk : 12 ≤ k) : engrossref1_FloatBytes.f k a = some (be 8 (pl a)) := by
  obtain ⟨k, rfl⟩ : ∃ m, k = m + 1 := ⟨k - 1, by omega⟩
  unfold engrossref1_FloatBytes.f
  rw [rplace_is h, rnan_is h]
  simp only [Option.bind_some, decide_eq_true_eq]
  have key : ∀ u : Nat, engrossref1_FloatBytes.j0 (k + 1) (u : Int) = some (be 8 u) := by
    intro u
    simp only [engrossref1_FloatBytes.j0]
    exact rbytes_l0 u 8 k 0 [] (by omega) (by omega) rfl
  have hp := pl_lt h
  by_cases hn : 9218868437227405312 < a % 9223372036854775808
  · rw [if_pos hn]
    have : pl a = 0 := by unfold pl; rw [if_pos hn]
    rw [this]
    exact key 0
  · rw [if_neg hn]
    have e : IntKind.u64.wrap (IntKind.u64.wrap ((pl a : Int) - 9223372036854775808) + 9223372036854775808) = ((pl a : Nat) : Int) := by
      rw [IntKind.wrap_u64, IntKind.wrap_u64]
      omega
    rw [e]
    exact key _

/-- The float of a place. -/
def fo (u : Nat) : Nat := if u = 0 then 9221120237041090560 else if u < 9223372036854775808 then 18446744073709551615 - u else u - 9223372036854775808
theorem fo_lt {u : Nat} (h : u < 18446744073709551616) : fo u < 18446744073709551616 := by
  unfold fo
  split
  · omega
  · split <;> omega
theorem fo_pl {a : Nat} (h : a < 18446744073709551616) : fo (pl a) = if 9218868437227405312 < a % 9223372036854775808 then 9221120237041090560 else a := by
  unfold fo pl
  by_cases hn : 9218868437227405312 < a % 9223372036854775808
  · rw [if_pos hn, if_pos hn, if_pos rfl]
  · rw [if_neg hn, if_neg hn]
    by_cases hs : a < 9223372036854775808
    · rw [if_pos hs, if_neg (by omega), if_neg (by omega)]; omega
    · rw [if_neg hs, if_neg (by omega), if_pos (by omega)]; omega
theorem pl_clean {a : Nat} (h : a < 18446744073709551616) : pl (if 9218868437227405312 < a % 9223372036854775808 then 9221120237041090560 else a) = pl a := by
  by_cases hn : 9218868437227405312 < a % 9223372036854775808
  · rw [if_pos hn]
    unfold pl
    rw [if_pos hn]
    rfl
  · rw [if_neg hn]
/-- What eight bytes say. -/
def ofL (l : List Int) : Nat × Bool := if l.length = 8 then (if pl (fo (unbe l)) = unbe l then (fo (unbe l), true) else (0, false)) else (0, false)

theorem rd_drop {l cs : List Int} {c : Int} {i : Nat} (hd : l.drop i = c :: cs) : i < l.length ∧ rd l (i : Int) = c ∧ l.drop (i + 1) = cs ∧ c ∈ l := by
  have hlt : i < l.length := by
    have := congrArg List.length hd
    simp at this
    omega
  have := List.getElem_cons_drop hlt
  rw [hd] at this
  obtain ⟨h1, h2⟩ := List.cons.inj this
  refine ⟨hlt, ?_, h2, ?_⟩
  · unfold rd
    rw [← h1]
    simp [List.getD, hlt]
  · rw [← h1]; exact List.getElem_mem hlt
theorem andnot63 {u : Nat} (hu : u < 18446744073709551616) (hs : 9223372036854775808 ≤ u) : Go.bits .andNot .u64 (u : Int) 9223372036854775808 = ((u - 9223372036854775808 : Nat) : Int) := by
  have h1 := u64_andNot_nat u 9223372036854775808 hu (by decide)
  have e0 : (18446744073709551615 - 9223372036854775808 : Nat) = 9223372036854775807 := by decide
  have e2 : u % 9223372036854775808 = u - 9223372036854775808 := by omega
  rw [e0, nat_mask63, e2] at h1
  exact h1
theorem of_tail {y u : Nat} (hy : y < 18446744073709551616) : ((float_place.f y).bind fun t => if t = (u : Int) then some (y, true) else some (0, false)) = some (if pl y = u then (y, true) else (0, false)) := by
  rw [place_is hy]
  simp only [Option.bind_some]
  by_cases hp : pl y = u
  · rw [if_pos (by omega), if_pos hp]
  · rw [if_neg (by omega), if_neg hp]
theorem of_end {l : List Int} {u : Nat} (hu : u < 18446744073709551616) (k : Nat) (i : Nat) (hi : l.length ≤ i) :
    float_Of.l0 (k + 1) (u : Int) l (l.length : Int) (i : Int) = some (if pl (fo u) = u then (fo u, true) else (0, false)) := by
  simp only [float_Of.l0]
  rw [if_neg (by omega)]
  unfold math_NaN.f fo
  simp only [Option.bind_some]
  by_cases h0 : u = 0
  · subst h0
    have e0 : pl 9221120237041090560 = 0 := by unfold pl; rw [if_pos (by decide)]
    rw [if_pos (show ((0 : Nat) : Int) = 0 from rfl), clean_is, if_pos (show 9218868437227405312 < 9221120237041090561 % 9223372036854775808 by decide)]
    simp only [Option.bind_some, if_true]
    rw [if_pos e0]
  · rw [if_neg (by omega), if_neg h0, and63 hu]
    by_cases hs : u < 9223372036854775808
    · rw [if_pos hs, if_pos rfl, if_pos hs, not64' hu, Int.toNat_natCast]
      exact of_tail (by omega)
    · rw [if_neg hs, if_neg (by decide), if_neg hs]
      rw [andnot63 hu (by omega), Int.toNat_natCast]
      exact of_tail (by omega)
theorem pow_of (i : Nat) (h : i ≤ 7) : 256 ^ i * 256 ≤ 18446744073709551616 := by
  have h1 : (256 : Nat) ^ i ≤ 256 ^ 7 := Nat.pow_le_pow_right (by omega) h
  have h2 : (256 : Nat) ^ 7 = 72057594037927936 := by decide
  omega
theorem of_l0 {l : List Int} (hb : ∀ c ∈ l, 0 ≤ c ∧ c ≤ 255) (h8 : l.length = 8) (d : Nat) : ∀ (k i u : Nat) (cs : List Int), l.drop i = cs → i + d = 8 → d < k → u < 256 ^ i →
    float_Of.l0 k (u : Int) l (l.length : Int) (i : Int) = some (if pl (fo (cs.foldl (fun u c => u * 256 + c.toNat) u)) = cs.foldl (fun u c => u * 256 + c.toNat) u then (fo (cs.foldl (fun u c => u * 256 + c.toNat) u), true) else (0, false)) := by
  induction d with
  | zero =>
    intro k i u cs hd hi hk hu
    obtain ⟨k, rfl⟩ : ∃ m, k = m + 1 := ⟨k - 1, by omega⟩
    have : cs = [] := by rw [← hd]; exact List.drop_eq_nil_of_le (by omega)
    subst this
    obtain rfl : i = 8 := by omega
    exact of_end (by simpa using hu) k 8 (by omega)
  | succ d ih =>
    intro k i u cs hd hi hk hu
    obtain ⟨k, rfl⟩ : ∃ m, k = m + 1 := ⟨k - 1, by omega⟩
    cases cs with
    | nil =>
      have := congrArg List.length hd
      simp at this
      omega
    | cons c cs =>
      obtain ⟨hlt, hr, hd2, hm⟩ := rd_drop hd
      have hc := hb c hm
      have hp := pow_of i (by omega)
      simp only [float_Of.l0]
      rw [if_pos (by omega), if_pos (by omega), if_pos (by omega), hr]
      have e1 : IntKind.u64.wrap ((u : Int) * 256) = ((u * 256 : Nat) : Int) := by rw [IntKind.wrap_u64]; omega
      have e2 : IntKind.u64.wrap c = ((c.toNat : Nat) : Int) := by rw [IntKind.wrap_u64]; omega
      have e3 : u * 256 ||| c.toNat = u * 256 + c.toNat := nat_join 8 _ _ (by omega) (by omega)
      rw [e1, e2, u64_or_nat _ _ (by omega) (by omega), e3, w64' (x := (i : Int) + 1) (by omega), show (i : Int) + 1 = ((i + 1 : Nat) : Int) from rfl]
      exact ih k (i + 1) _ cs hd2 (by omega) (by omega) (by rw [Nat.pow_succ]; omega)
theorem of_is {l : List Int} (hb : ∀ c ∈ l, 0 ≤ c ∧ c ≤ 255) {k : Nat} (hk : 10 ≤ k) : float_Of.f k l = some (ofL l) := by
  unfold float_Of.f ofL
  by_cases h8 : l.length = 8
  · rw [if_pos (by omega), if_pos h8]
    exact of_l0 hb h8 8 k 0 0 l rfl (by omega) (by omega) (by decide)
  · rw [if_neg (by omega), if_neg h8]

theorem rof_l0 {l : List Int} (hb : ∀ c ∈ l, 0 ≤ c ∧ c ≤ 255) (h8 : l.length = 8) (d : Nat) : ∀ (k i u : Nat) (cs : List Int), l.drop i = cs → i + d = 8 → d + 20 < k → u < 256 ^ i →
    engrossref1_FloatOf.l0 k l (u : Int) (i : Int) = some (fo (cs.foldl (fun u c => u * 256 + c.toNat) u), decide (lets (be 8 (pl (fo (cs.foldl (fun u c => u * 256 + c.toNat) u)))) = lets l)) := by
  induction d with
  | zero =>
    intro k i u cs hd hi hk hu
    obtain ⟨k, rfl⟩ : ∃ m, k = m + 1 := ⟨k - 1, by omega⟩
    have : cs = [] := by rw [← hd]; exact List.drop_eq_nil_of_le (by omega)
    subst this
    obtain rfl : i = 8 := by omega
    have hu : u < 18446744073709551616 := by simpa using hu
    simp only [engrossref1_FloatOf.l0, List.foldl_nil]
    rw [if_neg (by omega)]
    have key : ∀ y : Nat, y < 18446744073709551616 → (u ≠ 0 → y = fo u) → engrossref1_FloatOf.j1 k l (u : Int) (y : Int) = some (fo u, decide (lets (be 8 (pl (fo u))) = lets l)) := by
      intro y hy he
      obtain ⟨k, rfl⟩ : ∃ m, k = m + 1 := ⟨k - 1, by omega⟩
      simp only [engrossref1_FloatOf.j1]
      by_cases h0 : u = 0
      · subst h0
        rw [if_pos (by rfl), rclean_is (by decide)]
        simp only [Option.bind_some]
        rw [show (if 9218868437227405312 < 9221120237041090560 % 9223372036854775808 then 9221120237041090560 else 9221120237041090560) = fo 0 from rfl]
        rw [rbytes_is (by decide) (by omega)]
        simp only [Option.bind_some, str_lets]
        congr 2
        rw [Bool.eq_iff_iff]
        simp
      · rw [if_neg (by omega), Int.toNat_natCast, he h0, rbytes_is (fo_lt hu) (by omega)]
        simp only [Option.bind_some, str_lets]
        congr 2
        rw [Bool.eq_iff_iff]
        simp
    by_cases hs : u < 9223372036854775808
    · rw [if_pos (by omega), not64' hu]
      refine key _ (by omega) (fun h0 => ?_)
      unfold fo
      rw [if_neg h0, if_pos hs]
    · rw [if_neg (by omega)]
      have e : Go.bits .xor .u64 (u : Int) 9223372036854775808 = ((u - 9223372036854775808 : Nat) : Int) := by
        have := u64_xor_nat u 9223372036854775808 hu (by decide)
        have e2 : u ^^^ 9223372036854775808 = u - 9223372036854775808 := by
          have hj : 9223372036854775808 ||| (u - 9223372036854775808) = u := by
            rw [nat_join 63 9223372036854775808 (u - 9223372036854775808) (by decide) (by show _ < 2 ^ 63; omega)]
            omega
          have hx : 9223372036854775808 ^^^ (u - 9223372036854775808) = u := by
            have : 9223372036854775808 ^^^ (u - 9223372036854775808) = 9223372036854775808 ||| (u - 9223372036854775808) := by
              apply Nat.eq_of_testBit_eq
              intro i
              rw [Nat.testBit_xor, Nat.testBit_or]
              have h63 : (9223372036854775808 : Nat) = 2 ^ 63 := rfl
              rw [h63, Nat.testBit_two_pow]
              by_cases hi : 63 = i
              · subst hi
                have : (u - 2 ^ 63).testBit 63 = false := Nat.testBit_lt_two_pow (by omega)
                simp [this]
              · simp [hi]
            rw [this, hj]
          conv => lhs; rw [← hx]
          rw [Nat.xor_comm, ← Nat.xor_assoc, Nat.xor_self, Nat.zero_xor]
        rw [e2] at this
        exact this
      rw [e]
      refine key _ (by omega) (fun h0 => ?_)
      unfold fo
      rw [if_neg h0, if_neg hs]
  | succ d ih =>
    intro k i u cs hd hi hk hu
    obtain ⟨k, rfl⟩ : ∃ m, k = m + 1 := ⟨k - 1, by omega⟩
    cases cs with
    | nil =>
      have := congrArg List.length hd
      simp at this
      omega
    | cons c cs =>
      obtain ⟨hlt, hr, hd2, hm⟩ := rd_drop hd
      have hc := hb c hm
      have hp := pow_of i (by omega)
      simp only [engrossref1_FloatOf.l0]
      rw [if_pos (by omega), if_pos (by omega), if_pos (by omega), hr]
      have e1 : IntKind.u64.wrap (IntKind.u64.wrap ((u : Int) * 256) + IntKind.u64.wrap c) = ((u * 256 + c.toNat : Nat) : Int) := by rw [IntKind.wrap_u64, IntKind.wrap_u64, IntKind.wrap_u64]; omega
      rw [e1, w64' (x := (i : Int) + 1) (by omega), show (i : Int) + 1 = ((i + 1 : Nat) : Int) from rfl]
      exact ih k (i + 1) _ cs hd2 (by omega) (by omega) (by rw [Nat.pow_succ]; omega)
theorem rof_is {l : List Int} (hb : ∀ c ∈ l, 0 ≤ c ∧ c ≤ 255) {k : Nat} (hk : 40 ≤ k) :
    engrossref1_FloatOf.f k l = some (if l.length = 8 then (fo (unbe l), decide (pl (fo (unbe l)) = unbe l)) else (0, false)) := by
  unfold engrossref1_FloatOf.f
  by_cases h8 : l.length = 8
  · rw [if_pos (by omega), if_pos h8]
    have := rof_l0 hb h8 8 k 0 0 l rfl (by omega) (by omega) (by decide)
    rw [show ((0 : Nat) : Int) = 0 from rfl] at this
    rw [this]
    have e : l.foldl (fun u c => u * 256 + c.toNat) 0 = unbe l := rfl
    rw [e]
    congr 2
    have hu : unbe l < 18446744073709551616 := by
      have := unbe_lt hb
      rw [h8] at this
      simpa using this
    have hl : lets l = lets (be 8 (unbe l)) := by
      have := be_unbe hb
      rw [h8] at this
      rw [this]
    rw [hl, decide_eq_decide, lets_be_eq]
    have := pl_lt (fo_lt hu)
    have p : (256 : Nat) ^ 8 = 18446744073709551616 := by decide
    rw [p]
    omega
  · rw [if_neg (by omega), if_neg h8]
theorem bits_is (a b : Nat) : engrossref1_Bits.f a b = some (decide (a = b)) := by
  unfold engrossref1_Bits.f engrossref1_bits.f
  simp only [Option.bind_some, Option.some.injEq]
  rw [Bool.eq_iff_iff]
  simp only [beq_iff_eq, decide_eq_true_eq]
  omega
theorem ofL_be {u : Nat} (hu : u < 18446744073709551616) : ofL (be 8 u) = if pl (fo u) = u then (fo u, true) else (0, false) := by
  unfold ofL
  rw [be_len, if_pos rfl, unbe_be]
  have p : (256 : Nat) ^ 8 = 18446744073709551616 := by decide
  rw [p, Nat.mod_eq_of_lt hu]
theorem be8_less {u v : Nat} (hu : u < 18446744073709551616) (hv : v < 18446744073709551616) : Op.bytesLess ((strOfNums (be 8 u)).toList) ((strOfNums (be 8 v)).toList) = decide (u < v) := by
  rw [str_lets, str_lets, lets_be_less]
  have p : (256 : Nat) ^ 8 = 18446744073709551616 := by decide
  rw [p, Nat.mod_eq_of_lt hu, Nat.mod_eq_of_lt hv]
theorem be8_eq {u v : Nat} (hu : u < 18446744073709551616) (hv : v < 18446744073709551616) : (strOfNums (be 8 u)).toList = (strOfNums (be 8 v)).toList ↔ u = v := by
  rw [str_lets, str_lets, lets_be_eq]
  have p : (256 : Nat) ^ 8 = 18446744073709551616 := by decide
  rw [p, Nat.mod_eq_of_lt hu, Nat.mod_eq_of_lt hv]
theorem wf_u64 {x : Int} (h : (Lit.int .u64 x).wf = true) : 0 ≤ x ∧ x < 18446744073709551616 := by
  have : 0 ≤ x ∧ x ≤ 18446744073709551615 := by simpa [Lit.wf, IntKind.min, IntKind.max, IntKind.signed, IntKind.bits] using h
  omega
end Go.Proofs.Ytaphfjfalbeojaa.Pure
