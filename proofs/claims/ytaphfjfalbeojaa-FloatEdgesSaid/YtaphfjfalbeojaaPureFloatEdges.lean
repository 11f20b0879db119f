/- FloatEdges: sums of small numbers, infinities and NaNs: the plain statement of the law. -/
import Derived.Test.YtaphfjfalbeojaaFltW
import Derived.Test.YtaphfjfalbeojaaPx7
set_option linter.unusedVariables false
set_option linter.unusedSimpArgs false
namespace Go.Proofs.Ytaphfjfalbeojaa.Pure
open Go.RowKit Go.Proofs.Ytaphfjfalbeojaa.P Go.Proofs.YtaphfjfalbeojaaW.PrintWords Go.Proofs.YtaphfjfalbeojaaW.PrintLast Go.Proofs.YtaphfjfalbeojaaW.PrintMore
theorem and_small {x : Int} (h : 0 ≤ x ∧ x < 18446744073709551616) : ∃ y : Nat, Go.bits .and .u64 x 9227875636482146303 = (y : Int) ∧ y < 18446744073709551616 ∧ y % 9223372036854775808 < 4503599627370496 := by
  obtain ⟨a, rfl⟩ : ∃ a : Nat, x = a := ⟨x.toNat, by omega⟩
  have ha : a < 18446744073709551616 := by omega
  have := u64_and_nat a 9227875636482146303 ha (by decide)
  refine ⟨a &&& 9227875636482146303, this, Nat.lt_of_le_of_lt Nat.and_le_left ha, ?_⟩
  have e : (a &&& 9227875636482146303) % 2 ^ 63 = a % 2 ^ 63 &&& 9227875636482146303 % 2 ^ 63 := Nat.and_mod_two_pow
  have p : (2 : Nat) ^ 63 = 9223372036854775808 := by decide
  rw [p] at e
  rw [e]
  have : a % 9223372036854775808 &&& 9227875636482146303 % 9223372036854775808 ≤ 9227875636482146303 % 9223372036854775808 := Nat.and_le_right
  omega
/-- A small number is added to what is not great. -/
theorem add_small {a y n : Nat} (hn : n ≤ 30) (ha2 : a < 18446744073709551616) (ha : a % 9223372036854775808 ≤ (n + 2) * 4503599627370496) (hy2 : y < 18446744073709551616) (hy : y % 9223372036854775808 < 4503599627370496) :
    ∃ r, floatBits .add .f64 a y = some r ∧ r < 18446744073709551616 ∧ r % 9223372036854775808 ≤ (n + 3) * 4503599627370496 := by
  have han : a % 9223372036854775808 < 9218868437227405312 := by omega
  have hyn : y % 9223372036854775808 < 9218868437227405312 := by omega
  obtain ⟨T, D, hT, hadd⟩ := add_is ha2 hy2 han hyn
  have h1 : (V a).natAbs ≤ 2 ^ (53 + n) := by
    rw [V_abs]
    have := val_le ha
    rw [val_bin (n + 2) (by omega), show 51 + (n + 2) = 53 + n by omega] at this
    exact this
  have h2 : (V y).natAbs < 2 ^ 52 := by
    rw [V_abs]
    unfold val
    rw [if_pos hy]
    exact hy
  have h3 : T.natAbs * 2 ^ D < 2 ^ (54 + n) := by
    have e : (T * ((2 ^ D : Nat) : Int)).natAbs = T.natAbs * 2 ^ D := by rw [Int.natAbs_mul, Int.natAbs_natCast]
    rw [← e, hT]
    have p1 : 2 ^ (54 + n) = 2 ^ (53 + n) * 2 := by rw [show 54 + n = (53 + n) + 1 by omega, Nat.pow_succ]
    have p2 : 2 ^ 52 ≤ 2 ^ (53 + n) := Nat.pow_le_pow_right (by decide) (by omega)
    generalize 2 ^ (53 + n) = P at *
    generalize 2 ^ (54 + n) = Q at *
    generalize 2 ^ 52 = R at *
    omega
  obtain ⟨r, e, r1, r2⟩ := nearest_le (if T = 0 then decide (9223372036854775808 ≤ a) && decide (9223372036854775808 ≤ y) else decide (T < 0)) T.natAbs D (54 + n) (by omega) h3
  rw [e] at hadd
  obtain ⟨w1, w2, _⟩ := word_mod_eq (if T = 0 then decide (9223372036854775808 ≤ a) && decide (9223372036854775808 ≤ y) else decide (T < 0)) r1
  refine ⟨_, hadd, w2, ?_⟩
  rw [w1, show n + 3 = 54 + n - 51 by omega]
  exact r2
/-- What stands for a list's sum so far: a number that is not great. -/
def Small (l : List Nat) : Prop := ∃ r, sumO l = some r ∧ r < 18446744073709551616 ∧ r % 9223372036854775808 ≤ (l.length + 2) * 4503599627370496
theorem small_nil : Small [] := ⟨0, rfl, by decide, by decide⟩
theorem small_snoc {l : List Nat} {y : Nat} (h : Small l) (hl : l.length ≤ 30) (hy2 : y < 18446744073709551616) (hy : y % 9223372036854775808 < 4503599627370496) : Small (l ++ [y]) := by
  obtain ⟨r, e, r2, rb⟩ := h
  obtain ⟨s, e2, s2, sb⟩ := add_small hl r2 rb hy2 hy
  refine ⟨s, ?_, s2, ?_⟩
  · rw [sumO_snoc, e]
    exact e2
  · rw [List.length_append]
    exact sb
theorem sum_f {l : List Nat} (h : l.length ≤ 40) : float_Sum.f l = some (sumF l) := by
  unfold float_Sum.f
  rw [if_pos (by omega)]
theorem inf_inf (s t : Bool) : floatBits .add .f64 9218868437227405312 18442240474082181120 = none := by decide
/-- The end: what the sum is. -/
theorem edges_j4 {l : List Nat} (hl : l.length ≤ 40) (k : Nat) (up down nan : Bool)
    (h : sumF l = if nan = true then 9221120237041090560 else if up = true then (if down = true then 9221120237041090560 else 9218868437227405312) else if down = true then 18442240474082181120 else sumF l)
    (hs : nan = false → up = false → down = false → sumF l < 18446744073709551616 ∧ sumF l % 9223372036854775808 ≤ 60 * 4503599627370496) :
    engrosslaw3_FloatEdges.j4 (k + 2) nan up down l = some true := by
  simp only [engrosslaw3_FloatEdges.j4]
  rw [sum_f hl]
  simp only [Option.bind_some]
  have e1 : (9221120237041090560 : Int).toNat = 9221120237041090560 := by decide
  have e2 : (9218868437227405312 : Int).toNat = 9218868437227405312 := by decide
  have e3 : (18442240474082181120 : Int).toNat = 18442240474082181120 := by decide
  cases nan
  · cases up
    · cases down
      · obtain ⟨h1, h2⟩ := hs rfl rfl rfl
        rw [if_neg (by decide), if_neg (by decide)]
        simp only [engrosslaw3_FloatEdges.j5]
        rw [if_neg (by decide), if_neg (by decide), if_neg (by decide), rnan_is h1]
        simp only [Option.bind_some]
        rw [if_neg (by simp only [decide_eq_true_eq]; omega)]
        generalize sumF l = s at h1 h2
        have v1 : V 4607182418800017408 = (val (1023 * 4503599627370496) : Int) := by
          unfold V
          rw [if_pos (by decide)]
        have v2 : V 13830554455654793216 = -(val (1023 * 4503599627370496) : Int) := by
          unfold V
          rw [if_neg (by decide)]
        have hlt : val (s % 9223372036854775808) < val (1023 * 4503599627370496) := val_lt (by omega)
        have habs := V_abs s
        rw [order_V h1 (by decide) (by omega) (by decide), order_V h1 (by decide) (by omega) (by decide), v1, v2]
        generalize val (1023 * 4503599627370496) = W at hlt
        rw [Int.compare_eq_lt.2 (by omega), Int.compare_eq_gt.2 (by omega)]
        rfl
      · rw [if_neg (by decide), if_neg (by decide)] at h
        rw [if_neg (by decide), if_neg (by decide)]
        simp only [engrosslaw3_FloatEdges.j5]
        rw [if_pos rfl] at h
        rw [if_neg (by decide), if_neg (by decide), if_pos trivial, of3, e3]
        simp only [Option.bind_some, bits_is]
        rw [decide_eq_true h]
    · rw [if_neg (by decide), if_pos rfl] at h
      rw [if_neg (by decide), if_pos rfl]
      simp only [engrosslaw3_FloatEdges.j5]
      cases down
      · rw [if_neg (by decide)] at h
        rw [if_neg (by decide), if_pos trivial, of3, e2]
        simp only [Option.bind_some, bits_is]
        rw [decide_eq_true h]
      · rw [if_pos rfl] at h
        rw [if_pos trivial, of3, e1]
        simp only [Option.bind_some, bits_is]
        rw [decide_eq_true h, if_pos trivial]
  · rw [if_pos rfl] at h
    rw [if_pos rfl]
    simp only [engrosslaw3_FloatEdges.j5]
    rw [if_pos trivial, of3, e1]
    simp only [Option.bind_some, bits_is]
    rw [decide_eq_true h]
/-- Behind the numbers: infinities, a NaN. -/
theorem edges_j2 {l : List Nat} (hl : l.length ≤ 25) (hs : Small l) (k : Nat) (up down nan : Bool) :
    ∀ m : List Nat, (m = if up = true then l ++ [9218868437227405312] else l) → engrosslaw3_FloatEdges.j2 (k + 4) nan up down m = some true := by
  intro m hm
  obtain ⟨r, e, r2, rb⟩ := hs
  have rn : r % 9223372036854775808 < 9218868437227405312 := by omega
  have hml : m.length ≤ 26 := by
    rw [hm]
    split
    · rw [List.length_append]; simp; omega
    · omega
  have hmo : sumO m = some (if up = true then 9218868437227405312 else r) := by
    rw [hm]
    cases up
    · rw [if_neg (by decide), if_neg (by decide)]; exact e
    · rw [if_pos rfl, if_pos rfl, sumO_snoc, e]
      exact add_inf r2 (by decide) rn (by decide)
  have step3 : ∀ (p : List Nat), p.length ≤ 27 → (sumO p = if up = true then (if down = true then none else some 9218868437227405312) else if down = true then some 18442240474082181120 else some r) → engrosslaw3_FloatEdges.j3 (k + 3) nan up down p = some true := by
    intro p hp hpo
    simp only [engrosslaw3_FloatEdges.j3]
    cases nan
    · rw [if_neg (by decide)]
      have hF : sumF p = match sumO p with | some b => b | none => 9221120237041090560 := rfl
      refine edges_j4 (by omega) k up down false ?_ ?_
      · rw [if_neg (by decide), hF, hpo]
        cases up <;> cases down <;> rfl
      · rintro _ rfl rfl
        have hF2 : sumF p = r := by rw [hF, hpo, if_neg (by decide), if_neg (by decide)]
        rw [hF2]
        exact ⟨r2, Nat.le_trans rb (Nat.mul_le_mul_right _ (by omega))⟩
    · rw [if_pos rfl, of3]
      simp only [Option.bind_some]
      rw [if_pos (by omega)]
      have e4 : (9218868437227405319 : Int).toNat = 9218868437227405319 := by decide
      rw [e4]
      have hF : sumO (p ++ [9218868437227405319]) = none := by
        rw [sumO_snoc]
        cases sumO p with
        | none => rfl
        | some b => exact add_nan' (by decide)
      refine edges_j4 (by rw [List.length_append]; simp; omega) k up down true ?_ (fun h => by cases h)
      rw [if_pos rfl]
      unfold sumF
      rw [hF]
  simp only [engrosslaw3_FloatEdges.j2]
  cases down
  · rw [if_neg (by decide)]
    refine step3 m (by omega) ?_
    rw [hmo]
    cases up <;> rfl
  · rw [if_pos rfl, of3]
    simp only [Option.bind_some]
    have e3 : (18442240474082181120 : Int).toNat = 18442240474082181120 := by decide
    rw [if_pos (by omega), e3]
    refine step3 _ (by rw [List.length_append]; simp; omega) ?_
    rw [sumO_snoc, hmo]
    cases up
    · rw [if_neg (by decide), if_neg (by decide), if_pos rfl]
      exact add_inf r2 (by decide) rn (by decide)
    · rw [if_pos rfl, if_pos rfl, if_pos rfl]
      exact inf_inf true true
theorem edges_l0 (l : List Int) (hw : ∀ x ∈ l, (Lit.int .u64 x).wf = true) (hl : l.length ≤ 20) (nan up down : Bool) (d : Nat) : ∀ (k i : Nat) (acc : List Nat), i + d = l.length → d + 10 < k → acc.length = i → Small acc → engrosslaw3_FloatEdges.l0 k l nan up down acc (i : Int) = some true := by
  induction d with
  | zero =>
    intro k i acc hi hk ha hs
    obtain ⟨k, rfl⟩ : ∃ m, k = m + 1 := ⟨k - 1, by omega⟩
    simp only [engrosslaw3_FloatEdges.l0]
    rw [if_neg (by omega)]
    obtain ⟨k, rfl⟩ : ∃ m, k = m + 4 := ⟨k - 4, by omega⟩
    cases up
    · rw [if_neg (by decide)]
      exact edges_j2 (by omega) hs k false down nan acc rfl
    · rw [if_pos rfl, of3]
      simp only [Option.bind_some]
      rw [if_pos (by omega)]
      exact edges_j2 (by omega) hs k true down nan _ rfl
  | succ d ih =>
    intro k i acc hi hk ha hs
    obtain ⟨k, rfl⟩ : ∃ m, k = m + 1 := ⟨k - 1, by omega⟩
    simp only [engrosslaw3_FloatEdges.l0]
    have hlt : i < l.length := by omega
    have hr : rd l (i : Int) = l[i] := by
      unfold rd
      simp [List.getD, hlt]
    have hx := wf_u64 (hw _ (List.getElem_mem hlt))
    obtain ⟨y, hy, y2, yb⟩ := and_small hx
    rw [if_pos (by omega), if_pos (by omega), hr, hy, of3]
    simp only [Option.bind_some, Int.toNat_natCast]
    rw [if_pos (by omega), w64' (x := (i : Int) + 1) (by omega), show (i : Int) + 1 = ((i + 1 : Nat) : Int) from rfl]
    exact ih k (i + 1) _ (by omega) (by omega) (by simp only [List.length_append, List.length_cons, List.length_nil]; omega) (small_snoc hs (by omega) y2 yb)
theorem FloatEdges : engrosslaw3_FloatEdges.Pure := by
  intro l nan up down _ _ hw
  obtain ⟨k, hk⟩ : ∃ k : Nat, 100 ≤ k := ⟨100, Nat.le_refl _⟩
  refine ⟨k, ?_⟩
  unfold engrosslaw3_FloatEdges.f
  rw [begun3 (by omega)]
  simp only [Option.bind_some, if_true]
  obtain ⟨k, rfl⟩ : ∃ m, k = m + 1 := ⟨k - 1, by omega⟩
  have key : ∀ m : List Int, m.length ≤ 20 → (∀ x ∈ m, (Lit.int .u64 x).wf = true) → engrosslaw3_FloatEdges.j0 (k + 1) m nan up down = some true := by
    intro m hm hw
    simp only [engrosslaw3_FloatEdges.j0]
    exact edges_l0 m hw hm nan up down m.length k 0 [] (by omega) (by omega) rfl small_nil
  by_cases h : (l.length : Int) > 20
  · rw [if_pos h, if_pos (by omega)]
    exact key _ (by rw [List.length_take]; omega) (fun x hx => hw x (List.mem_of_mem_take hx))
  · rw [if_neg h]
    exact key l (by omega) hw
end Go.Proofs.Ytaphfjfalbeojaa.Pure
