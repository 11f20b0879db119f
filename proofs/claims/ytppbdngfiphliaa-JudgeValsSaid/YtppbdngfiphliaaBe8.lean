/- Plain lemmas on the bytes of a word, the highest first: their order, back. No condition. -/
import Derived.Test.YtppbdngfiphliaaXWords
import Derived.Laws.BitsAllLaws
set_option linter.unusedVariables false
set_option linter.unusedSimpArgs false
namespace Go.Proofs.Ytppbdngfiphliaa.Pure
open Go.RowKit Go.Proofs.YtppbdngfiphliaaW.PrintWords Go.Proofs.YtppbdngfiphliaaW.PrintLast

/-- The n low bytes of u, the highest first. -/
def be : Nat → Nat → List Int
  | 0, _ => []
  | n + 1, u => ((u / 256 ^ n % 256 : Nat) : Int) :: be n u
theorem be_len (n u : Nat) : (be n u).length = n := by
  induction n with
  | zero => rfl
  | succ n ih => simp [be, ih]
theorem be_bytes (n u : Nat) : ∀ c ∈ be n u, 0 ≤ c ∧ c ≤ 255 := by
  induction n with
  | zero => intro c hc; cases hc
  | succ n ih =>
    intro c hc
    rcases List.mem_cons.1 hc with hc | hc
    · omega
    · exact ih c hc
/-- Back: the number of some bytes. -/
def unbe (l : List Int) : Nat := l.foldl (fun u c => u * 256 + c.toNat) 0
theorem foldl_unbe (l : List Int) : ∀ u : Nat, l.foldl (fun u c => u * 256 + c.toNat) u = u * 256 ^ l.length + unbe l := by
  induction l with
  | nil => intro u; simp [unbe]
  | cons c l ih =>
    intro u
    unfold unbe
    rw [List.foldl_cons, List.foldl_cons, ih, ih (0 * 256 + c.toNat), List.length_cons, Nat.pow_succ]
    generalize 256 ^ l.length = p
    rw [Nat.add_mul, Nat.mul_assoc, Nat.mul_comm 256 p, Nat.zero_mul, Nat.zero_add, Nat.add_assoc]
theorem unbe_cons (c : Int) (l : List Int) : unbe (c :: l) = c.toNat * 256 ^ l.length + unbe l := by
  unfold unbe
  rw [List.foldl_cons, foldl_unbe]
  unfold unbe
  rw [Nat.zero_mul, Nat.zero_add]
theorem mod_split (u n : Nat) : u % 256 ^ (n + 1) = u / 256 ^ n % 256 * 256 ^ n + u % 256 ^ n := by
  rw [Nat.mod_pow_succ, Nat.mul_comm, Nat.add_comm]
theorem unbe_be (n u : Nat) : unbe (be n u) = u % 256 ^ n := by
  induction n with
  | zero => simp [be, unbe]; omega
  | succ n ih =>
    rw [mod_split]
    simp only [be]
    rw [unbe_cons, be_len, ih, Int.toNat_natCast]
theorem unbe_lt {l : List Int} (h : ∀ c ∈ l, 0 ≤ c ∧ c ≤ 255) : unbe l < 256 ^ l.length := by
  induction l with
  | nil => simp [unbe]
  | cons c l ih =>
    rw [unbe_cons, List.length_cons, Nat.pow_succ]
    have h1 := h c (by simp)
    have h2 := ih (fun d hd => h d (by simp [hd]))
    have h3 : c.toNat * 256 ^ l.length ≤ 255 * 256 ^ l.length := Nat.mul_le_mul_right _ (by omega)
    omega
theorem be_mod (n u : Nat) : be n u = be n (u % 256 ^ n) := by
  have key : ∀ n v w, v % 256 ^ n = w % 256 ^ n → be n v = be n w := by
    intro n
    induction n with
    | zero => intro v w _; rfl
    | succ n ih =>
      intro v w h
      rw [mod_split, mod_split] at h
      have hp : 0 < 256 ^ n := Nat.pow_pos (by omega)
      have h1 : v % 256 ^ n < 256 ^ n := Nat.mod_lt _ hp
      have h2 : w % 256 ^ n < 256 ^ n := Nat.mod_lt _ hp
      have e1 : v / 256 ^ n % 256 = w / 256 ^ n % 256 := by
        have := congrArg (· / 256 ^ n) h
        simp only [Nat.mul_comm _ (256 ^ n), Nat.mul_add_div hp, Nat.div_eq_of_lt h1, Nat.div_eq_of_lt h2, Nat.add_zero] at this
        exact this
      have e2 : v % 256 ^ n = w % 256 ^ n := by rw [e1] at h; omega
      simp only [be]
      rw [e1, ih v w e2]
  exact key n u _ (by rw [Nat.mod_mod])
theorem be_unbe {l : List Int} (h : ∀ c ∈ l, 0 ≤ c ∧ c ≤ 255) : be l.length (unbe l) = l := by
  induction l with
  | nil => rfl
  | cons c l ih =>
    have h1 := h c (by simp)
    have h2 := ih (fun d hd => h d (by simp [hd]))
    have h3 := unbe_lt (l := l) (fun d hd => h d (by simp [hd]))
    rw [unbe_cons, List.length_cons]
    have hp : 0 < 256 ^ l.length := Nat.pow_pos (by omega)
    have e1 : (c.toNat * 256 ^ l.length + unbe l) / 256 ^ l.length = c.toNat := by
      rw [Nat.mul_comm, Nat.mul_add_div hp, Nat.div_eq_of_lt h3, Nat.add_zero]
    have e2 : (c.toNat * 256 ^ l.length + unbe l) % 256 ^ l.length = unbe l := by
      rw [Nat.mul_comm, Nat.mul_add_mod, Nat.mod_eq_of_lt h3]
    simp only [be]
    rw [e1, be_mod, e2, h2]
    have : ((c.toNat % 256 : Nat) : Int) = c := by omega
    rw [this]
/-- The letters of a row of bytes. -/
def lets (l : List Int) : List UInt8 := l.map fun n => UInt8.ofNat n.toNat
theorem str_lets (l : List Int) : (strOfNums l).toList = lets l := by
  rw [Go.ByteArray.toList_eq, strOfNums_data]
  rfl
theorem u8_lt {a b : Nat} (ha : a < 256) (hb : b < 256) : (UInt8.ofNat a < UInt8.ofNat b) ↔ a < b := by
  rw [UInt8.lt_iff_toNat_lt, UInt8.toNat_ofNat', UInt8.toNat_ofNat']
  omega
theorem u8_eq {a b : Nat} (ha : a < 256) (hb : b < 256) : (UInt8.ofNat a = UInt8.ofNat b) ↔ a = b := by
  rw [← UInt8.toNat_inj, UInt8.toNat_ofNat', UInt8.toNat_ofNat']
  omega
theorem lets_be_less (n : Nat) : ∀ u v : Nat, Op.bytesLess (lets (be n u)) (lets (be n v)) = decide (u % 256 ^ n < v % 256 ^ n) := by
  induction n with
  | zero => intro u v; simp [be, lets, Op.bytesLess]; omega
  | succ n ih =>
    intro u v
    have ih := ih u v
    unfold lets at ih ⊢
    simp only [be, List.map_cons, Op.bytesLess]
    rw [ih, mod_split u, mod_split v]
    have hp : 0 < 256 ^ n := Nat.pow_pos (by omega)
    have h1 : u % 256 ^ n < 256 ^ n := Nat.mod_lt _ hp
    have h2 : v % 256 ^ n < 256 ^ n := Nat.mod_lt _ hp
    have ea : u / 256 ^ n % 256 < 256 := Nat.mod_lt _ (by omega)
    have eb : v / 256 ^ n % 256 < 256 := Nat.mod_lt _ (by omega)
    generalize u / 256 ^ n % 256 = a at ea
    generalize v / 256 ^ n % 256 = b at eb
    generalize u % 256 ^ n = x at h1
    generalize v % 256 ^ n = y at h2
    generalize 256 ^ n = p at hp h1 h2
    rw [Bool.eq_iff_iff]
    simp only [Int.toNat_natCast, Bool.or_eq_true, Bool.and_eq_true, decide_eq_true_eq, beq_iff_eq, u8_lt ea eb, u8_eq ea eb]
    rcases Nat.lt_trichotomy a b with h | h | h
    · have : (a + 1) * p ≤ b * p := Nat.mul_le_mul_right _ h
      rw [Nat.add_mul] at this
      constructor
      · intro _; omega
      · intro _; exact .inl h
    · subst h
      constructor
      · rintro (h | ⟨_, h⟩) <;> omega
      · intro h; exact .inr ⟨rfl, by omega⟩
    · have : (b + 1) * p ≤ a * p := Nat.mul_le_mul_right _ h
      rw [Nat.add_mul] at this
      constructor
      · rintro (h | ⟨h, _⟩) <;> omega
      · intro _; omega
theorem lets_be_eq (n u v : Nat) : lets (be n u) = lets (be n v) ↔ u % 256 ^ n = v % 256 ^ n := by
  constructor
  · intro h
    have h1 := lets_be_less n u v
    have h2 := lets_be_less n v u
    rw [h] at h1
    rw [← h] at h2
    have e : ∀ l : List UInt8, Op.bytesLess l l = false := by
      intro l
      induction l with
      | nil => rfl
      | cons a l ih => simp [Op.bytesLess, ih]
    rw [e] at h1 h2
    have h1 := of_decide_eq_false h1.symm
    have h2 := of_decide_eq_false h2.symm
    omega
  · intro h
    rw [be_mod n u, be_mod n v, h]
end Go.Proofs.Ytppbdngfiphliaa.Pure
