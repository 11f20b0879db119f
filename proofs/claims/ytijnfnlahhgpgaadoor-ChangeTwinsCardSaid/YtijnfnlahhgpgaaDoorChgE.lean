/- What Encode, one, Decode of package change and the reference's Images answer, as plain lists; what is encoded comes back. Condition: at most 1000 images, bytes from 0 to 255, at most 1000000 of them. -/
import Derived.Test.YtijnfnlahhgpgaaDoorChgK
import Derived.Test.YtijnfnlahhgpgaaDoorXN
import Derived.Test.YtijnfnlahhgpgaaDoorPx2
import Derived.Test.YtijnfnlahhgpgaaDoorPx4
import Derived.Test.YtijnfnlahhgpgaaDoorPx5
import Derived.Test.YtijnfnlahhgpgaaDoorPx7
set_option linter.unusedVariables false
set_option linter.unusedSimpArgs false
namespace Go.Proofs.YtijnfnlahhgpgaaDoor.Pure
open Go.RowKit Go.Proofs.YtijnfnlahhgpgaaDoor.P Go.Proofs.YtijnfnlahhgpgaaDoorW.PrintWords Go.Proofs.YtijnfnlahhgpgaaDoorW.PrintLast Go.Proofs.YtijnfnlahhgpgaaDoorW.PrintMore

/-- An image's bytes. -/
def encX (x : S38) : List Int := putN x.f0 ++ putS (strOfNums (trimZ x.f1))
def encs : List S38 → List Int
 | [] => []
 | x :: xs => encX x ++ encs xs
def bytesI (l : List S38) : List Int := putN (l.length : Int) ++ encs l
/-- What changes are written as. -/
def encF (l : List S38) : List Int := if mayI l = true then bytesI l else []
theorem nat_wf {n : Int} (h0 : 0 ≤ n) (h1 : n ≤ 1000000) : (Lit.int .i64 n).wf = true := by
  simp [Lit.wf, IntKind.min, IntKind.max, IntKind.signed, IntKind.bits]; omega
theorem trim_size {x : S38} (h : x.f1.length = 256) : (strOfNums (trimZ x.f1)).size ≤ 256 := by
  rw [strOfNums_size]
  have := (trimZ_le _ x.f1 rfl).1
  omega
theorem encX_len {x : S38} (h : 0 ≤ x.f0 ∧ x.f0 < 96 ∧ x.f1.length = 256) : (encX x).length ≤ 300 ∧ 1 ≤ (encX x).length := by
  have h1 := putN_len (nat_wf (n := x.f0) (by omega) (by omega))
  have h2 := trim_size h.2.2
  have h3 := putS_len (s := strOfNums (trimZ x.f1)) (by omega)
  unfold encX
  rw [List.length_append]
  omega
theorem encX_IB {x : S38} (h : 0 ≤ x.f0 ∧ x.f0 < 96 ∧ x.f1.length = 256) : IB (encX x) :=
  IB_app (putN_bytes (nat_wf (by omega) (by omega))) (putS_bytes (by have := trim_size h.2.2; omega))
theorem encs_len : ∀ {l : List S38}, (∀ x ∈ l, 0 ≤ x.f0 ∧ x.f0 < 96 ∧ x.f1.length = 256) → (encs l).length ≤ 300 * l.length := by
  intro l
  induction l with
  | nil => intro _; simp [encs]
  | cons x xs ih =>
    intro h
    have h1 := (encX_len (h x List.mem_cons_self)).1
    have h2 := ih (fun y hy => h y (List.mem_cons_of_mem _ hy))
    simp only [encs, List.length_append, List.length_cons]
    omega
theorem encs_IB : ∀ {l : List S38}, (∀ x ∈ l, 0 ≤ x.f0 ∧ x.f0 < 96 ∧ x.f1.length = 256) → IB (encs l) := by
  intro l
  induction l with
  | nil => intro _ c hc; cases hc
  | cons x xs ih =>
    intro h
    exact IB_app (encX_IB (h x List.mem_cons_self)) (ih (fun y hy => h y (List.mem_cons_of_mem _ hy)))
theorem bytesI_IB {l : List S38} (h : mayI l = true) : IB (bytesI l) :=
  IB_app (putN_bytes (nat_wf (by omega) (by have := mayI_len h; omega))) (encs_IB (mayI_mem h))
theorem bytesI_len {l : List S38} (h : mayI l = true) : (bytesI l).length ≤ 30000 ∧ 1 ≤ (bytesI l).length := by
  have h0 := mayI_len h
  have h1 := putN_len (nat_wf (n := (l.length : Int)) (by omega) (by omega))
  have h2 := encs_len (mayI_mem h)
  unfold bytesI
  rw [List.length_append]
  omega
theorem encF_IB (l : List S38) : IB (encF l) := by
  unfold encF
  split
  · rename_i h; exact bytesI_IB h
  · intro c hc; cases hc
theorem encode_l0 (l : List S38) (hl : l.length ≤ 1000) (cs : List S38) : ∀ (k i : Nat) (b : List Int), l.drop i = cs → cs.length + 300 < k → b.length ≤ 1000000 + 400 * i → (∀ x ∈ cs, 0 ≤ x.f0 ∧ x.f0 < 96 ∧ x.f1.length = 256) → (∀ x ∈ cs, IB x.f1) →
    change_Encode.l0 k b l (l.length : Int) (i : Int) = some (b ++ encs cs) := by
  induction cs with
  | nil =>
    intro k i b hd hk hb hg hi
    obtain ⟨k, rfl⟩ : ∃ m, k = m + 1 := ⟨k - 1, by omega⟩
    have hi := drop_nil hd
    simp only [change_Encode.l0]
    rw [if_neg (by omega)]
    simp [encs]
  | cons c cs ih =>
    intro k i b hd hk hb hg hi
    obtain ⟨k, rfl⟩ : ∃ m, k = m + 1 := ⟨k - 1, by omega⟩
    obtain ⟨hlt, hc, hd2⟩ := drop_step hd
    simp only [List.length_cons] at hk
    have hx := hg c List.mem_cons_self
    have hn := nat_wf (n := c.f0) (by omega) (by omega)
    have hs := trim_size hx.2.2
    have h1 := (putN_len hn).1
    have h2 := (putS_len (s := strOfNums (trimZ c.f1)) (by omega)).1
    simp only [change_Encode.l0]
    rw [if_pos (by omega), if_pos (by omega), if_pos (by omega), rd38 hlt, hc, put_is hn (by omega) (by omega)]
    simp only [Option.bind_some]
    rw [trimR_is (hi c List.mem_cons_self) (by omega) (by omega)]
    simp only [Option.bind_some]
    rw [puttext_is (by omega) (by omega) (by rw [List.length_append]; omega)]
    simp only [Option.bind_some]
    rw [w64 (x := (i : Int) + 1) (by omega), show (i : Int) + 1 = ((i + 1 : Nat) : Int) from rfl,
      ih k (i + 1) _ hd2 (by omega) (by simp only [List.length_append]; omega) (fun y hy => hg y (List.mem_cons_of_mem _ hy)) (fun y hy => hi y (List.mem_cons_of_mem _ hy))]
    simp [encs, encX, List.append_assoc]
theorem encode_is {l : List S38} (hl : l.length ≤ 1000) (hi : ∀ x ∈ l, IB x.f1) {k : Nat} (hk : 1400 < k) : change_Encode.f k l = some (encF l) := by
  unfold change_Encode.f encF
  rw [may_is hl (by omega)]
  simp only [Option.bind_some]
  by_cases h : mayI l = true
  · rw [if_pos h, if_pos h, put_is (nat_wf (by omega) (by omega)) (by omega) (by simp)]
    simp only [Option.bind_some, List.nil_append]
    have hp := (putN_len (nat_wf (n := (l.length : Int)) (by omega) (by omega))).1
    have e := encode_l0 l hl l k 0 (putN (l.length : Int)) rfl (by omega) (by omega) (mayI_mem h) hi
    rw [show ((0 : Nat) : Int) = 0 from rfl] at e
    rw [e]
    rfl
  · rw [if_neg h, if_neg h]
theorem rencode_l0 (l : List S38) (hl : l.length ≤ 1000) (cs : List S38) : ∀ (k i : Nat) (b : List Int), l.drop i = cs → cs.length + 300 < k → b.length ≤ 1000000 + 400 * i → (∀ x ∈ cs, 0 ≤ x.f0 ∧ x.f0 < 96 ∧ x.f1.length = 256) →
    engrossref10_Images.l0 k b l (i : Int) = some (b ++ encs cs) := by
  induction cs with
  | nil =>
    intro k i b hd hk hb hg
    obtain ⟨k, rfl⟩ : ∃ m, k = m + 1 := ⟨k - 1, by omega⟩
    have hi := drop_nil hd
    simp only [engrossref10_Images.l0]
    rw [if_neg (by omega)]
    simp [encs]
  | cons c cs ih =>
    intro k i b hd hk hb hg
    obtain ⟨k, rfl⟩ : ∃ m, k = m + 1 := ⟨k - 1, by omega⟩
    obtain ⟨hlt, hc, hd2⟩ := drop_step hd
    simp only [List.length_cons] at hk
    have hx := hg c List.mem_cons_self
    have hn := nat_wf (n := c.f0) (by omega) (by omega)
    have hs := trim_size hx.2.2
    have h1 := (putN_len hn).1
    have h2 := (putS_len (s := strOfNums (trimZ c.f1)) (by omega)).1
    simp only [engrossref10_Images.l0]
    rw [if_pos (by omega), if_pos (by omega), rd38 hlt, hc, trimL_is _ k _ rfl (by omega)]
    simp only [Option.bind_some]
    rw [rput_is hn (by omega)]
    simp only [Option.bind_some]
    rw [rputtext_is (by omega) (by omega)]
    simp only [Option.bind_some]
    rw [if_pos (by omega), if_pos (by rw [List.length_append]; omega), w64 (x := (i : Int) + 1) (by omega), show (i : Int) + 1 = ((i + 1 : Nat) : Int) from rfl,
      ih k (i + 1) _ hd2 (by omega) (by simp only [List.length_append]; omega) (fun y hy => hg y (List.mem_cons_of_mem _ hy))]
    simp [encs, encX, List.append_assoc]
theorem rencode_is {l : List S38} (hl : l.length ≤ 1000) {k : Nat} (hk : 1400 < k) : engrossref10_Images.f k l = some (encF l) := by
  unfold engrossref10_Images.f encF
  rw [rmay_is hl (by omega)]
  simp only [Option.bind_some]
  by_cases h : mayI l = true
  · rw [if_pos h, if_pos h, rput_is (nat_wf (by omega) (by omega)) (by omega)]
    simp only [Option.bind_some]
    have hp := (putN_len (nat_wf (n := (l.length : Int)) (by omega) (by omega))).1
    have e := rencode_l0 l hl l k 0 (putN (l.length : Int)) rfl (by omega) (by omega) (mayI_mem h)
    rw [show ((0 : Nat) : Int) = 0 from rfl] at e
    rw [e]
    rfl
  · rw [if_neg h, if_neg h]

/-! ### one image -/
def oneL (l : List Int) : Int × List Int × Int :=
  if (getN l).2.2 = 0 then
    (if (getS (l.drop (getN l).2.1.toNat)).2.2 = 0 then
      (if ((getS (l.drop (getN l).2.1.toNat)).1.size : Int) > 256 then (0, [], 0) else ((getN l).1, pageOf (bytesOf (getS (l.drop (getN l).2.1.toNat)).1), (getN l).2.1 + (getS (l.drop (getN l).2.1.toNat)).2.1))
    else (0, [], 0))
  else (0, [], 0)
theorem getS_in {l : List Int} (h : (getS l).2.2 = 0) : 1 ≤ (getS l).2.1 ∧ (getS l).2.1 ≤ l.length := by
  unfold getS at h ⊢
  by_cases h1 : (getN l).2.2 = 0
  · have hn := getN_in h1
    rw [if_neg (by simpa using h1)] at h ⊢
    by_cases h2 : (getN l).1 < 0 ∨ (getN l).1 > 65536
    · rw [if_pos h2] at h; exact absurd h (by decide)
    · rw [if_neg h2] at h ⊢
      by_cases h3 : (getN l).1 > (l.length : Int) - (getN l).2.1
      · rw [if_pos h3] at h; exact absurd h (by decide)
      · rw [if_neg h3]
        simp only
        omega
  · rw [if_pos (by simpa using h1)] at h
    exact absurd h h1
theorem oneL_in (l : List Int) : 0 ≤ (oneL l).2.2 ∧ (oneL l).2.2 ≤ l.length ∧ IB (oneL l).2.1 := by
  have z : 0 ≤ ((0 : Int), ([] : List Int), (0 : Int)).2.2 ∧ ((0 : Int), ([] : List Int), (0 : Int)).2.2 ≤ l.length ∧ IB ((0 : Int), ([] : List Int), (0 : Int)).2.1 :=
    ⟨Int.le_refl _, by simp, fun c hc => by cases hc⟩
  unfold oneL
  by_cases h1 : (getN l).2.2 = 0
  · rw [if_pos h1]
    have hn := getN_in h1
    by_cases h2 : (getS (l.drop (getN l).2.1.toNat)).2.2 = 0
    · rw [if_pos h2]
      have hs := getS_in h2
      rw [List.length_drop] at hs
      by_cases h3 : ((getS (l.drop (getN l).2.1.toNat)).1.size : Int) > 256
      · rw [if_pos h3]; exact z
      · rw [if_neg h3]
        exact ⟨by simp only; omega, by simp only; omega, IB_page (bytesOf_in _)⟩
    · rw [if_neg h2]; exact z
  · rw [if_neg h1]; exact z
theorem one_is {l : List Int} (hi : IB l) (hl : l.length ≤ 1000000) {k : Nat} (hk : 24 ≤ k) : change_one.f k l = some (oneL l) := by
  unfold change_one.f oneL
  rw [get_is hi (by omega) hk]
  simp only [Option.bind_some]
  by_cases h1 : (getN l).2.2 = 0
  · rw [if_pos h1, if_pos h1]
    have hn := getN_in h1
    rw [if_pos (by omega), if_pos (by omega), gettext_is (IB_drop hi _) (by rw [List.length_drop]; omega) hk]
    simp only [Option.bind_some]
    by_cases h2 : (getS (l.drop (getN l).2.1.toNat)).2.2 = 0
    · rw [if_pos h2, if_pos h2]
      have hs := getS_in h2
      rw [List.length_drop] at hs
      by_cases h3 : ((getS (l.drop (getN l).2.1.toNat)).1.size : Int) > 256
      · rw [if_pos h3, if_pos h3]
      · rw [if_neg h3, if_neg h3, w64 (by omega)]
    · rw [if_neg h2, if_neg h2]
  · rw [if_neg h1, if_neg h1]
theorem oneL_enc {x : S38} (h : 0 ≤ x.f0 ∧ x.f0 < 96 ∧ x.f1.length = 256) (hb : IB x.f1) (rest : List Int) : oneL (encX x ++ rest) = (x.f0, x.f1, ((encX x).length : Int)) := by
  have hn := nat_wf (n := x.f0) (by omega) (by omega)
  have hs := trim_size h.2.2
  have g := getN_putN hn (putS (strOfNums (trimZ x.f1)) ++ rest)
  have s := getS_putS (s := strOfNums (trimZ x.f1)) (by omega) rest
  unfold oneL encX
  rw [List.append_assoc, g]
  simp only [if_true]
  rw [Int.toNat_natCast, List.drop_left, s]
  simp only [if_true]
  rw [if_neg (by omega), bytes_str (trimZ_IB hb), trimZ_page h.2.2]
  simp

/-! ### changes -/
def decR : Nat → List Int → List S38 → Option (List S38)
 | 0, _, acc => some acc
 | n + 1, l, acc => if (oneL l).2.2 = 0 then none else decR n (l.drop (oneL l).2.2.toNat) (acc ++ [⟨(oneL l).1, (oneL l).2.1⟩])
def decT (l : List Int) : Option (List S38) → List S38 × Int
 | none => ([], 1)
 | some xs => if (strOfNums (encF xs)).toList = (strOfNums l).toList then (xs, 0) else ([], 1)
def decF (l : List Int) : List S38 × Int :=
  if (getN l).2.2 = 0 ∧ 1 ≤ (getN l).1 ∧ (getN l).1 ≤ 96 then decT l (decR (getN l).1.toNat (l.drop (getN l).2.1.toNat) []) else ([], 1)
theorem decR_IB : ∀ (n : Nat) (l : List Int) (acc xs : List S38), (∀ x ∈ acc, IB x.f1) → decR n l acc = some xs → (∀ x ∈ xs, IB x.f1) ∧ xs.length = acc.length + n := by
  intro n
  induction n with
  | zero =>
    intro l acc xs ha h
    simp only [decR, Option.some.injEq] at h
    subst h
    exact ⟨ha, rfl⟩
  | succ n ih =>
    intro l acc xs ha h
    simp only [decR] at h
    by_cases h1 : (oneL l).2.2 = 0
    · rw [if_pos h1] at h; cases h
    · rw [if_neg h1] at h
      obtain ⟨h2, h3⟩ := ih _ _ _ (fun x hx => by
        rcases List.mem_append.1 hx with hx | hx
        · exact ha x hx
        · rw [List.mem_singleton.1 hx]; exact (oneL_in l).2.2) h
      exact ⟨h2, by rw [h3, List.length_append, List.length_singleton]; omega⟩
theorem decode_l0 (l : List Int) (hi : IB l) (hl : l.length ≤ 1000000) (n : Nat) (hn : n ≤ 96) (m : Nat) : ∀ (k i at_ : Nat) (acc : List S38), i + m = n → at_ ≤ l.length → m + 1500 < k → (∀ x ∈ acc, IB x.f1) → acc.length = i →
    change_Decode.l0 k l (at_ : Int) acc (n : Int) (i : Int) = some (decT l (decR m (l.drop at_) acc)) := by
  induction m with
  | zero =>
    intro k i at_ acc hm ha hk hb hc
    obtain ⟨k, rfl⟩ : ∃ m, k = m + 1 := ⟨k - 1, by omega⟩
    simp only [change_Decode.l0]
    rw [if_neg (by omega), encode_is (by omega) hb (by omega)]
    simp only [Option.bind_some, bytes_Equal.f, decR, decT]
    by_cases h : (strOfNums (encF acc)).toList = (strOfNums l).toList
    · rw [if_pos h, if_pos (beq_iff_eq.mpr h)]
    · rw [if_neg h, if_neg (by simpa using h)]
  | succ m ih =>
    intro k i at_ acc hm ha hk hb hc
    obtain ⟨k, rfl⟩ : ∃ m, k = m + 1 := ⟨k - 1, by omega⟩
    have hd : (l.drop at_).length = l.length - at_ := List.length_drop
    simp only [change_Decode.l0]
    rw [if_pos (by omega), if_pos (by omega), if_pos (by omega), Int.toNat_natCast, one_is (IB_drop hi _) (by omega) (by omega)]
    simp only [Option.bind_some, decR]
    obtain ⟨o1, o2, o3⟩ := oneL_in (l.drop at_)
    by_cases h : (oneL (l.drop at_)).2.2 = 0
    · rw [if_pos h, if_pos h]; rfl
    · rw [if_neg h, if_neg h, if_pos (by omega), w64 (by omega), w64 (x := (i : Int) + 1) (by omega), show (i : Int) + 1 = ((i + 1 : Nat) : Int) from rfl]
      have e : (at_ : Int) + (oneL (l.drop at_)).2.2 = ((at_ + (oneL (l.drop at_)).2.2.toNat : Nat) : Int) := by omega
      rw [e, ih k (i + 1) _ _ (by omega) (by omega) (by omega) (fun x hx => by
        rcases List.mem_append.1 hx with hx | hx
        · exact hb x hx
        · rw [List.mem_singleton.1 hx]; exact o3) (by rw [List.length_append, List.length_singleton]; omega), List.drop_drop]
theorem decode_is {l : List Int} (hi : IB l) (hl : l.length ≤ 1000000) {k : Nat} (hk : 2000 ≤ k) : change_Decode.f k l = some (decF l) := by
  unfold change_Decode.f decF
  rw [get_is hi (by omega) (by omega)]
  simp only [Option.bind_some]
  obtain ⟨k, rfl⟩ : ∃ m, k = m + 1 := ⟨k - 1, by omega⟩
  by_cases h1 : (getN l).2.2 = 0
  · rw [if_pos h1]
    have hn := getN_in h1
    simp only [change_Decode.j0]
    by_cases h2 : (getN l).1 < 1
    · rw [if_pos h2, if_pos trivial, if_neg (fun h => absurd h.2.1 (by omega))]
    · rw [if_neg h2]
      by_cases h3 : (getN l).1 > 96
      · rw [decide_eq_true h3, if_pos rfl, if_neg (fun h => absurd h.2.2 (by omega))]
      · rw [decide_eq_false h3, if_neg (by decide), if_pos ⟨h1, by omega, by omega⟩]
        have e := decode_l0 l hi hl (getN l).1.toNat (by omega) (getN l).1.toNat k 0 (getN l).2.1.toNat [] (by omega) (by omega) (by omega) (fun x hx => by cases hx) rfl
        rw [show (((getN l).1.toNat : Nat) : Int) = (getN l).1 by omega, show (((getN l).2.1.toNat : Nat) : Int) = (getN l).2.1 by omega, show ((0 : Nat) : Int) = 0 from rfl] at e
        exact e
  · rw [if_neg h1, if_neg (fun h => h1 h.1)]
    simp only [change_Decode.j0]
    simp
theorem decR_enc : ∀ (xs : List S38) (rest : List Int) (acc : List S38), (∀ x ∈ xs, 0 ≤ x.f0 ∧ x.f0 < 96 ∧ x.f1.length = 256) → (∀ x ∈ xs, IB x.f1) → decR xs.length (encs xs ++ rest) acc = some (acc ++ xs) := by
  intro xs
  induction xs with
  | nil => intro rest acc _ _; simp [decR]
  | cons x xs ih =>
    intro rest acc h hb
    have hx := h x List.mem_cons_self
    have e := oneL_enc hx (hb x List.mem_cons_self) (encs xs ++ rest)
    have hl := (encX_len hx).2
    simp only [List.length_cons, decR, encs, List.append_assoc]
    rw [e]
    simp only
    rw [if_neg (by omega), Int.toNat_natCast, List.drop_left, ih rest _ (fun y hy => h y (List.mem_cons_of_mem _ hy)) (fun y hy => hb y (List.mem_cons_of_mem _ hy))]
    simp
/-- What was written comes back. -/
theorem dec_enc {l : List S38} (h : mayI l = true) (hb : ∀ x ∈ l, IB x.f1) : decF (bytesI l) = (l, 0) := by
  have h0 := mayI_len h
  have g := getN_putN (nat_wf (n := (l.length : Int)) (by omega) (by omega)) (encs l)
  have e := decR_enc l [] [] (mayI_mem h) hb
  rw [List.append_nil, List.nil_append] at e
  unfold decF
  rw [show getN (bytesI l) = ((l.length : Int), ((putN (l.length : Int)).length : Int), 0) from g]
  simp only
  rw [if_pos ⟨trivial, by omega, by omega⟩, Int.toNat_natCast, Int.toNat_natCast]
  rw [show (bytesI l).drop (putN (l.length : Int)).length = encs l from List.drop_left, e]
  unfold decT
  simp only
  have : encF l = bytesI l := by unfold encF; rw [if_pos h]
  rw [this, if_pos rfl]
/-- Of any bytes. -/
theorem decF_cases {l : List Int} : ((decF l).2 = 1 ∧ (decF l).1 = []) ∨ ((decF l).2 = 0 ∧ (∀ x ∈ (decF l).1, IB x.f1) ∧ (decF l).1.length ≤ 96 ∧ (strOfNums (encF (decF l).1)).toList = (strOfNums l).toList) := by
  unfold decF
  by_cases h : (getN l).2.2 = 0 ∧ 1 ≤ (getN l).1 ∧ (getN l).1 ≤ 96
  · rw [if_pos h]
    cases e : decR (getN l).1.toNat (l.drop (getN l).2.1.toNat) [] with
    | none => exact .inl ⟨rfl, rfl⟩
    | some xs =>
      obtain ⟨h1, h2⟩ := decR_IB _ _ _ _ (fun x hx => by cases hx) e
      unfold decT
      simp only
      by_cases h3 : (strOfNums (encF xs)).toList = (strOfNums l).toList
      · rw [if_pos h3]
        exact .inr ⟨rfl, h1, by rw [h2]; simp; omega, h3⟩
      · rw [if_neg h3]
        exact .inl ⟨rfl, rfl⟩
  · rw [if_neg h]
    exact .inl ⟨rfl, rfl⟩
theorem tells_is {l : List Int} (hi : IB l) (hl : l.length ≤ 1000000) {k : Nat} (hk : 2000 ≤ k) : engrosslaw16_tells.f k l = some true := by
  unfold engrosslaw16_tells.f
  rw [decode_is hi hl hk]
  simp only [Option.bind_some]
  rcases decF_cases (l := l) with ⟨h1, h2⟩ | ⟨h1, h2, h3, h4⟩
  · rw [if_neg (by omega), if_pos h1, h2]
    rfl
  · rw [if_pos h1, rencode_is (by omega) (by omega)]
    simp only [Option.bind_some]
    rw [h4]
    simp

/-! ### the laws' helpers -/
theorem of_is {l : List Int} (h : l.length < 1000) : engrosslaw9_Of.f l = some (pageOf l) := by
  unfold engrosslaw9_Of.f
  rw [if_pos h]
theorem rd44_in {l : List S44} (h : ∀ y ∈ l, wf44 y) {i : Nat} (hi : i < l.length) : wf44 (rd_T44 l (i : Int)) := by
  unfold rd_T44
  rw [Int.toNat_natCast]
  simp only [List.getD, List.getElem?_eq_getElem hi, Option.getD_some]
  exact h _ (List.getElem_mem hi)
theorem images_l0 (l : List S44) (hw : ∀ y ∈ l, wf44 y) (n : Nat) (hn : n ≤ 100) (m : Nat) : ∀ (k i : Nat) (acc : List S38), i + m = n → 2 * m + 2 < k → acc.length = i → (∀ x ∈ acc, IB x.f1) →
    ∃ r, engrosslaw16_Images.l0 k l (n : Int) acc (i : Int) = some r ∧ r.length ≤ n ∧ ∀ x ∈ r, IB x.f1 := by
  induction m with
  | zero =>
    intro k i acc hm hk hc hb
    obtain ⟨k, rfl⟩ : ∃ m, k = m + 2 := ⟨k - 2, by omega⟩
    refine ⟨acc, ?_, by omega, hb⟩
    simp only [engrosslaw16_Images.l0, engrosslaw16_Images.j1]
    have e : decide ((i : Int) < (n : Int)) = false := decide_eq_false (by omega)
    rw [e]
    simp
  | succ m ih =>
    intro k i acc hm hk hc hb
    obtain ⟨k, rfl⟩ : ∃ m, k = m + 2 := ⟨k - 2, by omega⟩
    simp only [engrosslaw16_Images.l0, engrosslaw16_Images.j1]
    by_cases h : (i : Int) < (l.length : Int)
    · have e : decide ((i : Int) < (n : Int)) = true := decide_eq_true (by omega)
      have hwi := rd44_in hw (i := i) (by omega)
      have hbi : IB ((rd_T44 l (i : Int)).f1.take 260) := IB_take (fun c hc => wf_u8 (hwi.2.1.2 c hc)) _
      have step : ∀ t : List Int, IB t → ∃ r, engrosslaw16_Images.l0 k l (n : Int) (acc ++ [(⟨(rd_T44 l (i : Int)).f0, t⟩ : S38)]) (wrap64 ((i : Int) + 1)) = some r ∧ r.length ≤ n ∧ ∀ x ∈ r, IB x.f1 := by
        intro t ht
        rw [w64 (x := (i : Int) + 1) (by omega), show (i : Int) + 1 = ((i + 1 : Nat) : Int) from rfl]
        exact ih k (i + 1) _ (by omega) (by omega) (by rw [List.length_append, List.length_singleton]; omega) (fun x hx => by
          rcases List.mem_append.1 hx with hx | hx
          · exact hb x hx
          · rw [List.mem_singleton.1 hx]; exact ht)
      rw [if_pos h, e, if_pos rfl, if_pos (by omega), if_pos h, show engrosslaw1_Short.f (rd_T44 l (i : Int)).f1 260 = some ((rd_T44 l (i : Int)).f1.take 260) from short_is _ (n := 260)]
      simp only [Option.bind_some]
      by_cases ho : (rd_T44 l (i : Int)).f2 = true
      · rw [if_pos ho, if_pos (by omega)]
        exact step _ hbi
      · rw [if_neg ho]
        by_cases h2 : (((rd_T44 l (i : Int)).f1.take 260).length : Int) ≤ 256
        · rw [if_pos h2, of_is (by omega)]
          simp only [Option.bind_some]
          rw [if_pos (by omega)]
          exact step _ (IB_page hbi)
        · rw [if_neg h2, if_pos (by omega)]
          exact step _ hbi
    · rw [if_neg h]
      refine ⟨acc, ?_, by omega, hb⟩
      simp
theorem images_is (l : List S44) (hw : ∀ y ∈ l, wf44 y) {n : Nat} (hn : n ≤ 100) {k : Nat} (hk : 300 ≤ k) : ∃ r, engrosslaw16_Images.f k l (n : Int) = some r ∧ r.length ≤ n ∧ ∀ x ∈ r, IB x.f1 := by
  unfold engrosslaw16_Images.f
  exact images_l0 l hw n hn n k 0 [] (by omega) (by omega) rfl (fun x hx => by cases hx)
end Go.Proofs.YtijnfnlahhgpgaaDoor.Pure
