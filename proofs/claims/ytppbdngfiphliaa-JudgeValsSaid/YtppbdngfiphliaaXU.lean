/- strings.Compare, slices.Clone, slices.Delete, slices.Insert at rows of pairs, as Lean functions, and that each call answers as they do. No condition. -/
import Derived.Test.YtppbdngfiphliaaPx0
import Derived.Lib.Bytealg
import Derived.Laws.Externs
import Derived.Lib.SliceRun
import Derived.Lib.Overlaps
import Derived.Lib.AppendZerosOnto
import Derived.Deep.RegionLaw
set_option linter.unusedVariables false
set_option linter.unusedSimpArgs false
namespace Go.Proofs.Ytppbdngfiphliaa.P
open Go.RowKit Go.Proofs.YtppbdngfiphliaaW.PrintWords Go.Proofs.YtppbdngfiphliaaW.PrintLast Go.Proofs.YtppbdngfiphliaaW.PrintMore
attribute [local go_sem] max2_int min2_int max_two min_two max_three min_three max_four min_four
attribute [local go_sem] x_str_gtr x_str_leq x_str_geq ext_bits ext_frombits ext_neg x_store_float Instr.field asAgg
/-! ### strings.Compare -/
def strings_Compare.f (a b : ByteArray) : Option Int := some (Go.Lib.compareBytes a.data.toList b.data.toList)
set_option maxRecDepth 100000 in
theorem compareString (a0 a1 : ByteArray) (w : World) :
  Calls Try.prog 53 #[.string a0, .string a1] w fun e w' => e = .returned (.int .i64 (Go.Lib.compareBytes a0.data.toList a1.data.toList)) ∧ w' = w := by
  go_enter Try.func53, Try.ntmps53
  go_wp2
  rw [run_callFunc_extern Try.func55 (by kernel_rfl) (by kernel_rfl) (by kernel_rfl) (e := Extern.BytealgCompare.compare) (by kernel_rfl), Lib.run_compareString]
  simp only [Result.andThen]
  rw [Oper.upon_value]
  go_wp2
  go_ret
  exact ⟨rfl, rfl⟩
set_option maxRecDepth 100000 in
theorem strings_Compare.calls (a0 a1 : ByteArray) (r : Int) (w : World) (h : strings_Compare.f a0 a1 = some r) :
  Calls Try.prog 47 #[.string a0, .string a1] w fun e w' => e = .returned (.int .i64 r) ∧ Drawn0 w w' := by
  obtain rfl := Option.some.inj h
  go_enter Try.func47, Try.ntmps47
  go_wp2_with (first | ((with_reducible refine gate_callee (f := 53) rfl ?_); refine goesL_ (some 7) rfl rfl Try.func53 (by kernel_rfl) rfl #[.string a0, .string a1] rfl (by (try simp only [List.map_toArray, List.map_cons, List.map_nil]); first | done | rfl) ?_; refine (compareString a0 a1 _).mono ?_; rintro e w' ⟨rfl, rfl⟩; refine ⟨_, rfl, ?_⟩))
  go_ret
  exact ⟨rfl, Drawn0.refl _⟩
/-! ### slices.Clone -/
def api_Pair_31.f (l : List S38) : Option (List S38) := if l.length < 1000 then some l else none
set_option maxHeartbeats 4000000 in
set_option maxRecDepth 100000 in
theorem api_Pair_31.calls (A0 : Option Addr) (c0 : Nat) (l0 : List S38) (r : List S38) (w : World) (hr0 : Kd.C k38 w A0 l0.length l0) (hc0 : l0.length ≤ c0) (h : api_Pair_31.f l0 = some r) :
  Calls Try.prog 31 #[.slice A0 l0.length c0] w fun e w' => ∃ v0_ : Value, e = .returned (v0_) ∧ Kd.R k38 38 w' w.heap.size (fun _ => True) v0_ r ∧ Below w.heap.size w w' := by
  unfold api_Pair_31.f at h
  by_cases hl : l0.length < 1000
  · rw [if_pos hl] at h
    obtain rfl := Option.some.inj h
    have q22 : ∀ (w : World) (a : Option Addr) (n c n' c' : Nat), (binOp .eql 22 (.slice a n c) (.slice none n' c')).run Try.prog w = .ok (.bool a.isNone) w := fun w a n c n' c' => Lib.run_eql_slice_nil w _ _ a n c n' c' Try.underlying22
    cases A0 with
    | none =>
      have h0 : l0 = [] := by
        rcases Nat.eq_zero_or_pos l0.length with h | h
        · exact List.length_eq_zero_iff.1 h
        · obtain ⟨_, _, h3⟩ := hr0
          obtain ⟨ad, e, _⟩ := h3 h
          cases e
      subst h0
      go_enter Try.func31, Try.ntmps31
      go_wp2
      go_ret
      exact ⟨_, rfl, Kd.R_nil _ _ _ _ _, Below.refl _ _⟩
    | some ad =>
      have HR := Aside0.mk hr0
      clear hr0
      go_enter Try.func31, Try.ntmps31
      go_wp2_with (first | ((with_reducible refine gate_dst (N := 5) rfl ?_); refine Kd.R_lit k38 (w0 := w) w.heap.size 38 ?hg (N := 5) ?hd (xs := ([] : List S38)) (inner := []) (ok := fun _ => True) (okp := fun _ => True) ?hr (Reps.none _ _) (fun _ hk => hk) trivial (Below.refl _ _) (Nat.le_refl _) (by simp) ?_; (case hd => rfl); (case hg => rfl); (case hr => first | (go_simp; done) | (go_simp; rfl)); intro v1 w1 ho1 hb1 hg1 hat1; have HO1 := Aside0.mk ho1; have HB1 := Aside0.mk hb1; clear ho1 hb1 hg1 hat1) | ((with_reducible refine gate_builtin (b := .append) (xs := #[.tmp 5, .tmp 6]) rfl ?_); at_builtin; refine Kd.R_append_rows k38 (w0 := w) w.heap.size rfl (.tmp 5) (.tmp 6) 22 38 (.agg #[(.string ⟨#[]⟩), (.int .i64 0), (.float .f64 0), (.string ⟨#[]⟩)]) 48 rfl Try.underlying22 info38 rfl (by decide) (by omega) v1 ([] : List S38) l0 _ _ _ (fun _ => True) (fun _ => False) rfl rfl HO1.out (Kd.C_below HR.out HB1.out) (fun _ _ h => h) (fun _ h => h.elim) (fun _ _ => trivial) HB1.out HB1.out.size (by simp; omega) ?_; intro v2 w2 ho2 hb2 hg2 hat2; have HO2 := Aside0.mk ho2; have HB2 := Aside0.mk hb2; clear ho2 hb2 hg2 hat2))
      go_ret
      exact ⟨_, rfl, HO2.out, HB2.out⟩
  · rw [if_neg hl] at h
    cases h
/-! ### words for what comes -/
section
variable {α : Type} {d : Kd α} {e base g n c : Nat} {ok : Nat → Prop} {W : World} {xs : List α}
/-- What lies behind a row's elements is written: the row stays. -/
theorem R_spare (h : d.R e W base ok (.slice (some ⟨g, 0, none⟩) n c) xs) {o : Nat} {vs : List Value} (ho : n * d.sz ≤ o) (hfit : o + vs.length ≤ c * d.sz) :
    d.R e (W.setCells g o vs) base ok (.slice (some ⟨g, 0, none⟩) n c) xs ∧ W.grownBy (W.setCells g o vs) (some g) := by
  obtain ⟨hok, inner, ⟨ho1, ho2⟩, hr⟩ := h
  rcases ho2 with ⟨hv, _⟩ | ⟨g', cap', cur, hv, hb, hh, hnc', hcm, hcs, ht⟩
  · cases hv
  injection hv with ha hn hc
  injection ha with ha
  injection ha with hg
  subst hg; subst hc; subst hn
  have hm : xs.length * d.sz ≤ o := ho
  obtain ⟨cur', h3, h4, h5⟩ := setCells_row vs o W cur hh (by rw [hcs]; exact hfit)
  obtain ⟨s1, s2, s3, s4⟩ := setCells_same g vs o W
  have hfar : ∀ k, k ≠ g → (W.setCells g o vs).heap[k]? = W.heap[k]? := fun k hk => setCells_far vs _ k hk
  have hgo : some g = (Value.slice (some ⟨g, 0, none⟩) xs.length c).ownBlock := by simp [Value.ownBlock]
  refine ⟨⟨hok, inner, ⟨ho1, .inr ⟨g, c, cur', rfl, hb, h3, hnc', hcm, by rw [h4, hcs], ?_⟩⟩, ?_⟩, ⟨s1, s2, s3, by rw [s4]; exact Nat.le_refl _, fun k _ hk => hfar k (fun he => hk (by rw [he]))⟩⟩
  · have hle : xs.length * d.sz ≤ (cur.toList.take o).length := by
      have hcl : cur.toList.length = c * d.sz := by rw [← hcs]; exact Array.length_toList
      rw [List.length_take, hcl]
      exact Nat.le_min.2 ⟨hm, Nat.mul_le_mul_right _ hnc'⟩
    rw [← ht, h5, List.append_assoc, List.take_append_of_le_length hle, List.take_take, Nat.min_eq_left hm]
  · refine hr.imp_ (fun p cs hp => d.M_move (fun k hk => hfar k (fun he => hk.2 (by rw [he]; exact hgo))) hp)
end
/-! ### slices.Delete -/
def api_Pair_35.f (l : List S38) (i j : Int) : Option (List S38) := if 0 ≤ i ∧ i < (l.length : Int) ∧ j = i + 1 ∧ l.length < 1000 then some (l.eraseIdx i.toNat) else none
theorem R_cap {α : Type} {d : Kd α} {e base g n c : Nat} {ok : Nat → Prop} {W : World} {xs : List α} (h : d.R e W base ok (.slice (some ⟨g, 0, none⟩) n c) xs) : n = xs.length ∧ n ≤ c ∧ c ≤ 9223372036854775807 ∧ ∃ cur : Array Value, W.heap[g]? = some (.cells cur e (0, 0)) ∧ cur.size = c * d.sz := by
  obtain ⟨hok, inner, ⟨ho1, ho2⟩, hr⟩ := h
  rcases ho2 with ⟨hv, _⟩ | ⟨g', cap', cur, hv, hb, hh, hnc', hcm, hcs, ht⟩
  · cases hv
  injection hv with ha hn hc
  injection ha with ha
  injection ha with hg
  subst hg; subst hc; subst hn
  exact ⟨rfl, hnc', hcm, cur, hh, hcs⟩
/-- The builtin clear at one pair behind a row's elements. -/
theorem clear_pair {w1 : World} {g o c' : Nat} (ty : TypeId) {cur : Array Value} (hh : w1.heap[g]? = some (.cells cur 38 (0, 0))) (hs : o + 4 ≤ cur.size) :
    (Builtin.clear_ #[22] ty #[.slice (some ⟨g, o, none⟩) 1 c']).run Try.prog w1 = .ok (.tuple #[]) (w1.setCells g o [.string ⟨#[]⟩, .int .i64 0, .float .f64 0, .string ⟨#[]⟩]) := by
  have hzc : (Builtin.zeroCells (Value.agg #[Value.string { data := #[] }, Value.int IntKind.i64 0, Value.float FloatKind.f64 0, Value.string { data := #[] }]).cells 1).toList = [.string ⟨#[]⟩, .int .i64 0, .float .f64 0, .string ⟨#[]⟩] := by simp [Builtin.zeroCells, Value.cells]; rfl
  have hst := run_storeCells_cells (P := Try.prog) g o [.string ⟨#[]⟩, .int .i64 0, .float .f64 0, .string ⟨#[]⟩] 0 w1
    (fun j hj => by simp only [List.length_cons, List.length_nil] at hj; rw [cell_of_row w1 g _ cur 38 (0, 0) hh, Array.getElem?_eq_getElem (by omega)]; rfl)
    (fun j hj => blk_frozen hh _)
    (by intro v hv; simp only [List.mem_cons, List.not_mem_nil, or_false] at hv; rcases hv with rfl | rfl | rfl | rfl <;> rfl)
  simp only [Nat.add_zero] at hst
  simp [Builtin.clear_, run_underlying Try.underlying22, Try.zeroValue38, hzc, hst]
set_option maxHeartbeats 8000000 in
set_option maxRecDepth 100000 in
theorem api_Pair_35.calls (P0_ : Nat → Prop) (u9000_ : Value) (l0 : List S38) (a1 a2 : Int) (r : List S38) (w0 w : World) (hB : Below w0.heap.size w0 w) (ho0 : Kd.R k38 38 w w0.heap.size P0_ u9000_ l0) (h : api_Pair_35.f l0 a1 a2 = some r) :
  Calls Try.prog 35 #[u9000_, .int .i64 a1, .int .i64 a2] w fun e w' => ∃ v0_ : Value, e = .returned (v0_) ∧ Kd.R k38 38 w' w0.heap.size (fun k_ => (P0_ k_ ∨ w.heap.size ≤ k_)) v0_ r ∧ Below w0.heap.size w0 w' ∧ Kept w w' (fun k_ => P0_ k_) := by
  unfold api_Pair_35.f at h
  by_cases hc : 0 ≤ a1 ∧ a1 < (l0.length : Int) ∧ a2 = a1 + 1 ∧ l0.length < 1000
  · rw [if_pos hc] at h
    obtain rfl := Option.some.inj h
    obtain ⟨h1, h2, rfl, h3⟩ := hc
    obtain ⟨i, rfl⟩ : ∃ i : Nat, a1 = (i : Int) := ⟨a1.toNat, by omega⟩
    obtain ⟨g, c, rfl, hbg, hlg, hcg⟩ := Kd.R_form ho0 (by omega)
    obtain ⟨_, hnc, hcm, cur, hh, hcs⟩ := R_cap ho0
    generalize hn : l0.length = n at *
    obtain ⟨m, rfl⟩ : ∃ m, n = m + 1 := ⟨n - 1, by omega⟩
    have hi : i < m + 1 := by omega
    have hne : ¬ ((i : Int) = (i : Int) + 1) := by omega
    have hP : P0_ g := ho0.1 g (by simp [Value.ownBlock])
    have HO := Aside0.mk (show Kd.R k38 38 w.drew w0.heap.size P0_ (.slice (some ⟨g, 0, none⟩) (m + 1) c) l0 from Kd.R_drew ho0)
    have HB := Aside0.mk (below_drew1 hB)
    clear hB
    have b1 : (0 : Int) ≤ (i : Int) + 1 := by omega
    have b2 : (i : Int) ≤ (i : Int) + 1 := by omega
    have b3 : (i : Int) + 1 ≤ ((m + 1 : Nat) : Int) := by omega
    have b4 : ((m + 1 : Nat) : Int) ≤ (c : Int) := by omega
    have b5 : (i : Int) ≤ (c : Int) := by omega
    have b11 : i ≤ m := by omega
    have tn : ((i : Int) + 1).toNat = i + 1 := by omega
    clear ho0 hcg
    go_enter Try.func35, Try.ntmps35
    go_upto_region 5 with fail
    have hA : (if c = i + 1 then some (⟨g, 0, none⟩ : Addr) else some ⟨g, (i + 1) * k38.sz, none⟩) = if c = i + 1 then some (⟨g, 0, none⟩ : Addr) else (some (⟨g, 0, none⟩ : Addr)).map (·.add ((i + 1) * k38.sz)) := by
      split
      · rfl
      · rw [Option.map_some, add_plain]
    have hinfo : (Try.prog.info? 38).map (·.size) = some k38.sz := by kernel_rfl
    go_region_law ((first | refine Kd.R_delete_step k38 (w0 := w0) w0.heap.size ?hw (.tmp 22) (.tmp 25) 22 38 rfl Try.underlying22 hinfo (g := g) (n := m + 1) (c := c) (k := i) (m := m - i) (c2 := c - (i + 1)) ?hs ?hx hA (by omega) HO.out hi HB.out HB.out.size ?hk | fail "REF"); (first | (case hw => rfl) | fail "HW"); (first | (case hs => simp [Act.eval, Act.put]) | fail "HS"); (first | (case hx => simp [Act.eval, Act.put]; done) | (case hx => simp [Act.eval, Act.put]; rfl) | (case hx => rfl) | fail "HX"); intro w1 ho1 hb1 hg1)
    rw [Nat.add_sub_cancel] at ho1
    have hcap := R_cap ho1
    obtain ⟨cur1, hh1, hcs1⟩ := hcap.2.2.2
    have hcl : ∀ ty c', (Builtin.clear_ #[22] ty #[.slice (some ⟨g, m * 4, none⟩) 1 c']).run Try.prog w1 = .ok (.tuple #[]) (w1.setCells g (m * 4) [.string ⟨#[]⟩, .int .i64 0, .float .f64 0, .string ⟨#[]⟩]) := fun ty c' => clear_pair ty hh1 (by rw [hcs1]; show m * 4 + 4 ≤ c * 4; omega)
    have HO1 := Aside0.mk ho1
    have HB1 := Aside0.mk hb1
    have HG1 := Aside0.mk hg1
    clear ho1 hb1 hg1 HO HB
    try simp only [Nat.add_sub_cancel]
    have b6 : ¬ (c = m) := by omega
    have b7 : (m : Int) ≤ (m : Int) + 1 := by omega
    have b8 : (m : Int) + 1 ≤ (c : Int) := by omega
    have b9 : ((m : Int) + 1).toNat = m + 1 := by omega
    have b10 : m + 1 - m = 1 := by omega
    clear hcap
    have hfin : ∃ v0_ : Value, Ending.returned (.slice (some ⟨g, 0, none⟩) m c) = .returned v0_ ∧ Kd.R k38 38 (w1.setCells g (m * 4) [.string ⟨#[]⟩, .int .i64 0, .float .f64 0, .string ⟨#[]⟩]) w0.heap.size (fun k_ => (P0_ k_ ∨ w.heap.size ≤ k_)) v0_ (l0.eraseIdx i) ∧ Below w0.heap.size w0 (w1.setCells g (m * 4) [.string ⟨#[]⟩, .int .i64 0, .float .f64 0, .string ⟨#[]⟩]) ∧ Kept w (w1.setCells g (m * 4) [.string ⟨#[]⟩, .int .i64 0, .float .f64 0, .string ⟨#[]⟩]) (fun k_ => P0_ k_) := by
      obtain ⟨s1, s2⟩ := R_spare HO1.out (o := m * 4) (vs := [.string ⟨#[]⟩, .int .i64 0, .float .f64 0, .string ⟨#[]⟩]) (Nat.le_refl _) (by show m * 4 + 4 ≤ c * 4; omega)
      exact ⟨_, rfl, Kd.R_mono s1 (fun k hk => .inl hk), HB1.out.grown s2 HB1.out.size (fun k hk => by injection hk with hk; rw [← hk]; exact hbg),
        Kept.of_grown s2 (Kept.of_grown HG1.out (Kept.drew (Kept.refl w _)) (fun k hk => by injection hk with hk; rw [← hk]; exact .inl hP)) (fun k hk => by injection hk with hk; rw [← hk]; exact .inl hP)⟩
    have HF := Aside0.mk hfin
    clear hfin HO1 HB1 HG1
    go_wp2
    all_goals (go_ret; first | exact HF.out | (subst_vars; exact HF.out))
  · rw [if_neg hc] at h
    cases h
/-! ### slices.Insert -/
def enc38 (x : S38) : List Value := [.string x.f0, .int .i64 x.f1.f0, .float .f64 x.f1.f1, .string x.f1.f2]
theorem enc38_len (x : S38) : (enc38 x).length = 4 := rfl
theorem flat38_len (xs : List S38) : (xs.flatMap enc38).length = xs.length * 4 := by
  induction xs with
  | nil => rfl
  | cons x xs ih => rw [List.flatMap_cons, List.length_append, ih, enc38_len, List.length_cons]; omega
theorem flat38_take (xs : List S38) : ∀ i : Nat, (xs.flatMap enc38).take (i * 4) = (xs.take i).flatMap enc38 := by
  induction xs with
  | nil => intro i; simp
  | cons x xs ih =>
    intro i
    cases i with
    | zero => simp
    | succ i =>
      rw [List.take_succ_cons, List.flatMap_cons, List.flatMap_cons, ← ih i, List.take_append, enc38_len, List.take_of_length_le (by rw [enc38_len]; omega)]
      congr 2
      omega
theorem flat38_drop (xs : List S38) : ∀ i : Nat, (xs.flatMap enc38).drop (i * 4) = (xs.drop i).flatMap enc38 := by
  induction xs with
  | nil => intro i; simp
  | cons x xs ih =>
    intro i
    cases i with
    | zero => simp
    | succ i =>
      rw [List.drop_succ_cons, List.flatMap_cons, ← ih i, List.drop_append, enc38_len, List.drop_eq_nil_of_le (by rw [enc38_len]; omega), List.nil_append]
      congr 1
      omega
theorem flat38_one (xs : List S38) : ∀ v ∈ xs.flatMap enc38, v.oneCell' = true := by
  intro v hv
  obtain ⟨x, _, hx⟩ := List.mem_flatMap.1 hv
  simp only [enc38, List.mem_cons, List.not_mem_nil, or_false] at hx
  rcases hx with rfl | rfl | rfl | rfl <;> rfl
theorem reps38 {W : World} {base : Nat} {ok : Nat → Prop} : ∀ {xs : List S38} {cs : List Value}, Reps (k38.M W base ok) 4 xs cs → cs = xs.flatMap enc38
  | [], cs, h => by
    have := h.1
    simp at this
    rw [this]
    rfl
  | x :: xs, cs, h => by
    have hl := h.1
    rw [List.length_cons] at hl
    have h0 := k38_openM (h.2 0 x rfl)
    rw [Nat.zero_mul, List.drop_zero] at h0
    have hr : Reps (k38.M W base ok) 4 xs (cs.drop 4) := ⟨by rw [List.length_drop]; omega, fun j p hp => by
      have := h.2 (j + 1) p (by simpa using hp)
      rw [List.drop_drop, show 4 + j * 4 = (j + 1) * 4 by omega]
      exact this⟩
    have h1 := reps38 hr
    rw [List.flatMap_cons, ← h1]
    show cs = [.string x.f0, .int .i64 x.f1.f0, .float .f64 x.f1.f1, .string x.f1.f2] ++ cs.drop 4
    rw [← h0, List.take_append_drop]
theorem mkreps38 (W : World) (base : Nat) (ok : Nat → Prop) : ∀ xs : List S38, Reps (k38.M W base ok) 4 xs (xs.flatMap enc38)
  | [] => Reps.none _ _
  | x :: xs => Reps.c4 (k38_mkM W base ok x) (mkreps38 W base ok xs)
theorem own38 {W : World} {base g n c : Nat} {ok : Nat → Prop} {xs : List S38} (h : Kd.R k38 38 W base ok (.slice (some ⟨g, 0, none⟩) n c) xs) :
    n = xs.length ∧ base ≤ g ∧ ok g ∧ n ≤ c ∧ c ≤ 9223372036854775807 ∧ ∃ cur : Array Value, W.heap[g]? = some (.cells cur 38 (0, 0)) ∧ cur.size = c * 4 ∧ cur.toList.take (n * 4) = xs.flatMap enc38 := by
  obtain ⟨hok, inner, ⟨ho1, ho2⟩, hr⟩ := h
  rcases ho2 with ⟨hv, _⟩ | ⟨g', cap', cur, hv, hb, hh, hnc', hcm, hcs, ht⟩
  · cases hv
  injection hv with ha hn hc
  injection ha with ha
  injection ha with hg
  subst hg; subst hc; subst hn
  exact ⟨rfl, hb, hok g (by simp [Value.ownBlock]), hnc', hcm, cur, hh, hcs, ht.trans (reps38 hr)⟩
theorem mkown38 {W : World} {base g n c : Nat} {ok : Nat → Prop} {xs : List S38} (hn : n = xs.length) (hb : base ≤ g) (hok : ok g) (hnc : n ≤ c) (hcm : c ≤ 9223372036854775807) {cur : Array Value}
    (hh : W.heap[g]? = some (.cells cur 38 (0, 0))) (hcs : cur.size = c * 4) (ht : cur.toList.take (n * 4) = xs.flatMap enc38) : Kd.R k38 38 W base ok (.slice (some ⟨g, 0, none⟩) n c) xs := by
  subst hn
  refine ⟨fun k hk => ?_, xs.flatMap enc38, ⟨flat38_len xs, .inr ⟨g, c, cur, rfl, hb, hh, hnc, hcm, hcs, ht⟩⟩, mkreps38 _ _ _ xs⟩
  have : g = k := by simpa [Value.ownBlock] using hk
  rw [← this]
  exact hok
/-- The builtin copy, whatever the elements' size. -/
theorem run_copy_wide {P : Program} (w : World) (dT sT ty elem : TypeId) (b o dLen dCap : Nat) (a : Addr) (sLen sCap n sz : Nat) (cs : List Value)
    (hu : P.underlying dT = some (.slice elem)) (hs : (P.info? elem).map (·.size) = some sz) (hn : Nat.min sLen dLen = n) (hcl : cs.length = n * sz)
    (hsrc : ∀ j v, cs[j]? = some v → w.cell? (a.add j) = some v) (hc : ∀ j, j < cs.length → (w.cell? ⟨b, o + j, none⟩).isSome = true) (hf : ∀ j, j < cs.length → w.frozen? ⟨b, o + j, none⟩ = false) (h1 : ∀ v ∈ cs, v.oneCell' = true) :
    (Builtin.copy_ #[dT, sT] ty #[.slice (some ⟨b, o, none⟩) dLen dCap, .slice (some a) sLen sCap]).run P w = .ok (goInt n) (w.setCells b o cs) := by
  have hl := run_loadCells_list (P := P) w a cs hsrc
  have hst := run_storeCells_cells (P := P) b o cs 0 w (by simpa using hc) (by simpa using hf) h1
  cases hq : P.info? elem with
  | none => simp [hq] at hs
  | some i =>
    have hi : i.size = sz := by simpa [hq] using hs
    have hn' : min sLen dLen = n := hn
    simp [Builtin.copy_, run_underlying hu, Builtin.lenOf, Builtin.firstCells, sizeOf, typeInfo, hq, hi, hn', ← hcl, hl, hst]
def api_Pair_36.f (l : List S38) (i : Int) (v : List S38) : Option (List S38 × List S38) := if 0 ≤ i ∧ i ≤ (l.length : Int) ∧ v.length = 1 ∧ l.length < 1000 then some (l.take i.toNat ++ v ++ l.drop i.toNat, v) else none
theorem shape38 {W : World} {base n c : Nat} {A : Option Addr} {ok : Nat → Prop} {xs : List S38} (h : Kd.R k38 38 W base ok (.slice A n c) xs) : (A = none ∧ n = 0 ∧ c = 0 ∧ xs = []) ∨ ∃ g, A = some ⟨g, 0, none⟩ := by
  obtain ⟨hok, inner, ⟨ho1, ho2⟩, hr⟩ := h
  rcases ho2 with ⟨hv, hx⟩ | ⟨g', cap', cur, hv, _⟩
  · injection hv with ha hn hc
    have h0 : xs.length = 0 := by first | exact hx | exact hx.1 | simp_all
    exact .inl ⟨ha, hn, hc, List.length_eq_zero_iff.1 h0⟩
  · injection hv with ha hn hc
    exact .inr ⟨g', ha⟩
set_option maxHeartbeats 8000000 in
set_option maxRecDepth 100000 in
theorem ins_end (P0_ : Nat → Prop) (A : Option Addr) (c : Nat) (l0 : List S38) (P2_ : Nat → Prop) (vb vc : Nat) (l2 : List S38) (w0 w : World) (hB : Below w0.heap.size w0 w) (ho0 : Kd.R k38 38 w w0.heap.size P0_ (.slice A l0.length c) l0) (hp0_2 : ∀ k_, P0_ k_ → ¬ P2_ k_)
    (ho2 : Kd.R k38 38 w w0.heap.size P2_ (.slice (some ⟨vb, 0, none⟩) 1 vc) l2) (hl : l0.length < 1000) (hl2 : l2.length = 1) :
  Calls Try.prog 36 #[.slice A l0.length c, .int .i64 (l0.length : Int), .slice (some ⟨vb, 0, none⟩) 1 vc] w fun e w' => ∃ v0_ : Value, e = .returned (v0_) ∧ Kd.R k38 38 w' w0.heap.size (fun k_ => (((P0_ k_ ∨ P2_ k_) ∨ w.heap.size ≤ k_) ∧ some k_ ≠ (Value.slice (some ⟨vb, 0, none⟩) 1 vc).ownBlock)) v0_ (l0 ++ l2) ∧ Kd.R k38 38 w' w0.heap.size (fun k_ => ((P0_ k_ ∨ P2_ k_) ∨ w.heap.size ≤ k_)) (.slice (some ⟨vb, 0, none⟩) 1 vc) l2 ∧ Below w0.heap.size w0 w' ∧ Kept w w' (fun k_ => (P0_ k_ ∨ P2_ k_)) := by
  obtain ⟨hn2, hb2, hok2, hnc2, hcm2, cur2, hh2, hcs2, ht2⟩ := own38 ho2
  have hvl : vb < w.heap.size := (Array.getElem?_eq_some_iff.1 hh2).1
  have hov : (Value.slice (some ⟨vb, 0, none⟩) 1 vc).ownBlock = some vb := by simp [Value.ownBlock]
  have HO := Aside0.mk (show Kd.R k38 38 w w0.heap.size (fun k_ => (((P0_ k_ ∨ P2_ k_) ∨ w.heap.size ≤ k_) ∧ some k_ ≠ (Value.slice (some ⟨vb, 0, none⟩) 1 vc).ownBlock)) (.slice A l0.length c) l0 from Kd.R_mono ho0 (fun k hk => ⟨.inl (.inl hk), fun e => by rw [hov] at e; injection e with e; rw [e] at hk; exact hp0_2 _ hk hok2⟩))
  have HF : Aside0 (∀ k, w.heap.size ≤ k → (((P0_ k ∨ P2_ k) ∨ w.heap.size ≤ k) ∧ some k ≠ (Value.slice (some ⟨vb, 0, none⟩) 1 vc).ownBlock)) := Aside0.mk (fun k hk => ⟨.inr hk, fun e => by rw [hov] at e; injection e with e; omega⟩)
  have HC := Aside0.mk (show Kd.C k38 w (some ⟨vb, 0, none⟩) 1 l2 from by have h_ := (Kd.R_reads' ho2).2.2; rw [hl2] at h_; exact h_)
  have HB := Aside0.mk hB
  have hown : ∀ k, (Value.slice A l0.length c).ownBlock = some k → P0_ k := ho0.1
  have fin : ∀ (v1 : Value) (w1 : World), Kd.R k38 38 w1 w0.heap.size (fun k_ => (((P0_ k_ ∨ P2_ k_) ∨ w.heap.size ≤ k_) ∧ some k_ ≠ (Value.slice (some ⟨vb, 0, none⟩) 1 vc).ownBlock)) v1 (l0 ++ l2) → Below w0.heap.size w0 w1 → w.grownBy w1 (Value.slice A l0.length c).ownBlock → ∃ v0_ : Value, Ending.returned v1 = .returned (v0_) ∧ Kd.R k38 38 w1 w0.heap.size (fun k_ => (((P0_ k_ ∨ P2_ k_) ∨ w.heap.size ≤ k_) ∧ some k_ ≠ (Value.slice (some ⟨vb, 0, none⟩) 1 vc).ownBlock)) v0_ (l0 ++ l2) ∧ Kd.R k38 38 w1 w0.heap.size (fun k_ => ((P0_ k_ ∨ P2_ k_) ∨ w.heap.size ≤ k_)) (.slice (some ⟨vb, 0, none⟩) 1 vc) l2 ∧ Below w0.heap.size w0 w1 ∧ Kept w w1 (fun k_ => (P0_ k_ ∨ P2_ k_)) := fun v1 w1 h1 h2 h3 =>
    ⟨v1, rfl, h1, mkown38 hn2 hb2 (.inl (.inr hok2)) hnc2 hcm2 ((h3.block vb hvl (fun e => by rw [← e] at hown; exact hp0_2 _ (hown vb rfl) hok2)).trans hh2) hcs2 ht2, h2, Kept.of_grown h3 (Kept.refl w _) (fun k hk => .inl (.inl (hown k hk)))⟩
  have FIN := Aside0.mk fin
  have hc0 : l0.length ≤ c := (Kd.R_reads' ho0).2.1
  have hsh := shape38 ho0
  have hz1 : ¬ ((1 : Int) = 0) := by decide
  clear fin ho0 ho2 hB hh2 hcs2 ht2 hown hn2 hnc2 hcm2 hb2 hov hvl
  rcases hsh with ⟨rfl, _, rfl, _⟩ | ⟨g, rfl⟩
  · go_enter Try.func36, Try.ntmps36
    go_wp2_with ((with_reducible refine gate_builtin (b := .append) (xs := #[.tmp 23, .tmp 24]) rfl ?_); at_builtin; refine Kd.R_append_rows k38 (w0 := w0) w0.heap.size rfl (.tmp 23) (.tmp 24) 22 38 (.agg #[(.string ⟨#[]⟩), (.int .i64 0), (.float .f64 0), (.string ⟨#[]⟩)]) 48 rfl Try.underlying22 info38 rfl (by decide) (by omega) (.slice none l0.length 0) l0 l2 _ _ _ _ (fun _ => False) rfl rfl HO.out HC.out (fun _ _ h => h) (fun _ h => h.elim) HF.out HB.out HB.out.size (by omega) ?_; intro v2 w2 hr2 hb2' hg2 hat2; have HZ := Aside0.mk (FIN.out v2 w2 hr2 hb2' hg2); clear hr2 hb2' hg2 hat2)
    all_goals (go_ret; exact HZ.out)
  · go_enter Try.func36, Try.ntmps36
    go_wp2_with ((with_reducible refine gate_builtin (b := .append) (xs := #[.tmp 23, .tmp 24]) rfl ?_); at_builtin; refine Kd.R_append_rows k38 (w0 := w0) w0.heap.size rfl (.tmp 23) (.tmp 24) 22 38 (.agg #[(.string ⟨#[]⟩), (.int .i64 0), (.float .f64 0), (.string ⟨#[]⟩)]) 48 rfl Try.underlying22 info38 rfl (by decide) (by omega) (.slice (some ⟨g, 0, none⟩) l0.length c) l0 l2 _ _ _ _ (fun _ => False) rfl rfl HO.out HC.out (fun _ _ h => h) (fun _ h => h.elim) HF.out HB.out HB.out.size (by omega) ?_; intro v2 w2 hr2 hb2' hg2 hat2; have HZ := Aside0.mk (FIN.out v2 w2 hr2 hb2' hg2); clear hr2 hb2' hg2 hat2)
    all_goals (go_ret; first | exact HZ.out | (subst_vars; exact HZ.out))
theorem size38 : ∀ w, (Go.sizeOf 38).run Try.prog w = .ok 4 w := by
  intro w
  have h : (Try.prog.info? 38).map (·.size) = some 4 := by kernel_rfl
  obtain ⟨i0, hi, hs⟩ := Option.map_eq_some_iff.1 h
  simp [Go.sizeOf, typeInfo, hi, hs]
theorem copy_step {P : Program} {ops : Array Oper} {o : Oper} {a : Act} {w : World} {K : Act → World → Prop} {Q : Exit → Act → World → Prop} {E : Prop}
    (hg : o.guard = none) (d x : Operand) (dT sT : TypeId) (hop : o.op = Op.call { callee := Callee.builtin Builtin.copy, args := #[d, x], argTypes := #[dT, sT] })
    (v u : Value) (hd : a.eval d = v) (hx : a.eval x = u) {v' : Value} {w' : World} (hr : (Builtin.copy_ #[dT, sT] o.type #[v, u]).run P w = .ok v' w') (hK : K (a.put o.dst v') w') :
    if Region.wanted o (yielded ops a.tmps) = true then Oper.wp P o a w K Q else E := by
  have hw : Region.wanted o (yielded ops a.tmps) = true := by simp [Region.wanted, hg]
  rw [if_pos hw]
  unfold Oper.wp
  simp [execOp, hop, resolve, invoke, builtin, hd, hx, hr, Result.andThen]
  exact hK
theorem copy_list {P : Program} (w : World) {ops : Array Oper} {rest : List Oper} {o : Oper} {a : Act} {Q : Exit → Act → World → Prop} (hgd : o.guard = none) (d s : Operand) (t t' : TypeId)
    (ho : o.op = .call { callee := .builtin .copy, args := #[d, s], argTypes := #[t, t'] }) (v u : Value) (hd : a.eval d = v) (hs : a.eval s = u) {v' : Value} {w' : World}
    (hr : (Builtin.copy_ #[t, t'] o.type #[v, u]).run P w = .ok v' w') (h : wpList P ops Q rest (a.put o.dst v') w') : wpList P ops Q (o :: rest) a w := by
  refine wpList_plain hgd fun _ hK => ?_
  unfold Oper.wp execOp
  simp only [ho, resolve, invoke, builtin, Sem.run_bind, Sem.run_pure, Result.andThen_ok, List.map_toArray, List.map_cons, List.map_nil, hd, hs, hr]
  exact hK _ _ h
theorem grown_setCells (W : World) (g o : Nat) (vs : List Value) : W.grownBy (W.setCells g o vs) (some g) := by
  obtain ⟨s1, s2, s3, s4⟩ := setCells_same g vs o W
  exact ⟨s1, s2, s3, by rw [s4]; exact Nat.le_refl _, fun k _ hk => setCells_far vs _ k (fun he => hk (by rw [he]))⟩
/-- A row's cells, read one by one. -/
theorem cell_list {W : World} {g o : Nat} {cur : Array Value} {e : TypeId} (hh : W.heap[g]? = some (.cells cur e (0, 0))) {cs : List Value} (hc : ∀ j v, cs[j]? = some v → cur.toList[o + j]? = some v) :
    ∀ j v, cs[j]? = some v → W.cell? ((⟨g, o, none⟩ : Addr).add j) = some v := fun j v hj => by
  rw [Addr.add_lit, cell_of_row W g _ cur e (0, 0) hh, ← Array.getElem?_toList]
  exact hc j v hj
theorem cell_some {W : World} {g o : Nat} {cur : Array Value} {e : TypeId} (hh : W.heap[g]? = some (.cells cur e (0, 0))) {m : Nat} (hs : o + m ≤ cur.size) : ∀ j, j < m → (W.cell? ⟨g, o + j, none⟩).isSome = true := fun j hj => by
  rw [cell_of_row W g _ cur e (0, 0) hh, Array.getElem?_eq_getElem (by omega)]; rfl
set_option maxHeartbeats 8000000 in
set_option maxRecDepth 100000 in
theorem ins_shift (P0_ : Nat → Prop) (g n i c : Nat) (l0 : List S38) (P2_ : Nat → Prop) (vb vc : Nat) (l2 : List S38) (w0 w : World) (hB : Below w0.heap.size w0 w) (ho0 : Kd.R k38 38 w w0.heap.size P0_ (.slice (some ⟨g, 0, none⟩) n c) l0) (hp0_2 : ∀ k_, P0_ k_ → ¬ P2_ k_)
    (ho2 : Kd.R k38 38 w w0.heap.size P2_ (.slice (some ⟨vb, 0, none⟩) 1 vc) l2) (hl : n < 1000) (hi : i < n) (hroom : n + 1 ≤ c) :
  Calls Try.prog 36 #[.slice (some ⟨g, 0, none⟩) n c, .int .i64 (i : Int), .slice (some ⟨vb, 0, none⟩) 1 vc] w fun e w' => ∃ v0_ : Value, e = .returned (v0_) ∧ Kd.R k38 38 w' w0.heap.size (fun k_ => (((P0_ k_ ∨ P2_ k_) ∨ w.heap.size ≤ k_) ∧ some k_ ≠ (Value.slice (some ⟨vb, 0, none⟩) 1 vc).ownBlock)) v0_ (l0.take i ++ l2 ++ l0.drop i) ∧ Kd.R k38 38 w' w0.heap.size (fun k_ => ((P0_ k_ ∨ P2_ k_) ∨ w.heap.size ≤ k_)) (.slice (some ⟨vb, 0, none⟩) 1 vc) l2 ∧ Below w0.heap.size w0 w' ∧ Kept w w' (fun k_ => (P0_ k_ ∨ P2_ k_)) := by
  obtain ⟨hn2, hb2, hok2, hnc2, hcm2, cur2, hh2, hcs2, ht2⟩ := own38 ho2
  obtain ⟨hn0, hb0, hok0, hnc0, hcm0, cur0, hh0, hcs0, ht0⟩ := own38 ho0
  have hne : vb ≠ g := fun e => hp0_2 g hok0 (by rw [← e]; exact hok2)
  have hov : (Value.slice (some ⟨vb, 0, none⟩) 1 vc).ownBlock = some vb := by simp [Value.ownBlock]
  obtain ⟨cs1, hcs1⟩ : ∃ cs1, cs1 = (l0.drop i).flatMap enc38 := ⟨_, rfl⟩
  obtain ⟨cs2, hcs2'⟩ : ∃ cs2, cs2 = l2.flatMap enc38 := ⟨_, rfl⟩
  have hl1 : cs1.length = (n - i) * 4 := by rw [hcs1, flat38_len, List.length_drop, ← hn0]
  have hl2 : cs2.length = 1 * 4 := by rw [hcs2', flat38_len, ← hn2]
  have o1 : ∀ v ∈ cs1, v.oneCell' = true := by rw [hcs1]; exact flat38_one _
  have o2 : ∀ v ∈ cs2, v.oneCell' = true := by rw [hcs2']; exact flat38_one _
  have hinfo : (Try.prog.info? 38).map (·.size) = some 4 := by kernel_rfl
  have hhd : w.drew.heap[g]? = some (.cells cur0 38 (0, 0)) := hh0
  have hcut1 : ∀ j v, cs1[j]? = some v → cur0.toList[i * 4 + j]? = some v := by
    intro j v hj
    rw [hcs1, ← flat38_drop, ← ht0, List.getElem?_drop, List.getElem?_take] at hj
    split at hj
    · exact hj
    · cases hj
  obtain ⟨W1, hW1⟩ : ∃ W1, W1 = w.drew.setCells g ((i + 1) * 4) cs1 := ⟨_, rfl⟩
  obtain ⟨cur1, hh1, hz1, ht1⟩ := setCells_row cs1 ((i + 1) * 4) w.drew cur0 hhd (by rw [hcs0, hl1]; omega)
  rw [← hW1] at hh1
  have hv1 : W1.heap[vb]? = some (.cells cur2 38 (0, 0)) := by rw [hW1, setCells_far _ _ _ hne]; exact hh2
  obtain ⟨W2, hW2⟩ : ∃ W2, W2 = W1.setCells g (i * 4) cs2 := ⟨_, rfl⟩
  obtain ⟨cur3, hh3, hz3, ht3⟩ := setCells_row cs2 (i * 4) W1 cur1 hh1 (by rw [hz1, hcs0, hl2]; omega)
  rw [← hW2] at hh3
  have hv2 : W2.heap[vb]? = some (.cells cur2 38 (0, 0)) := by rw [hW2, setCells_far _ _ _ hne]; exact hv1
  have hg1 : w.drew.grownBy W1 (some g) := by rw [hW1]; exact grown_setCells _ _ _ _
  have hg2 : W1.grownBy W2 (some g) := by rw [hW2]; exact grown_setCells _ _ _ _
  have hend : cur3.toList.take ((n + 1) * 4) = (l0.take i ++ l2 ++ l0.drop i).flatMap enc38 := by
    have e0 : (cur0.toList.take ((i + 1) * 4)).length = (i + 1) * 4 := by
      rw [List.length_take, Array.length_toList, hcs0, Nat.min_eq_left]; omega
    have e1 : cur1.toList.take (i * 4) = (l0.take i).flatMap enc38 := by
      rw [ht1, List.append_assoc, List.take_append_of_le_length (by rw [e0]; omega), List.take_take, Nat.min_eq_left (by omega), ← flat38_take, ← ht0, List.take_take, Nat.min_eq_left (by omega)]
    have e2 : cur1.toList.drop (i * 4 + cs2.length) = cs1 ++ cur0.toList.drop ((i + 1) * 4 + cs1.length) := by
      rw [ht1, hl2, show i * 4 + 1 * 4 = (i + 1) * 4 by omega, List.append_assoc, List.drop_append, e0, Nat.sub_self, List.drop_zero, List.drop_eq_nil_of_le (by rw [e0]; omega), List.nil_append]
    rw [ht3, e1, e2, List.flatMap_append, List.flatMap_append, ← hcs1, ← hcs2', ← List.append_assoc]
    have e3 : ((l0.take i).flatMap enc38 ++ cs2 ++ cs1).length = (n + 1) * 4 := by
      rw [List.length_append, List.length_append, flat38_len, hl1, hl2, List.length_take, ← hn0, Nat.min_eq_left (by omega)]; omega
    rw [List.take_append_of_le_length (by rw [e3]; exact Nat.le_refl _), List.take_of_length_le (by rw [e3]; exact Nat.le_refl _)]
  have fin : ∃ v0_ : Value, Ending.returned (.slice (some ⟨g, 0, none⟩) (n + 1) c) = .returned (v0_) ∧ Kd.R k38 38 W2 w0.heap.size (fun k_ => (((P0_ k_ ∨ P2_ k_) ∨ w.heap.size ≤ k_) ∧ some k_ ≠ (Value.slice (some ⟨vb, 0, none⟩) 1 vc).ownBlock)) v0_ (l0.take i ++ l2 ++ l0.drop i) ∧ Kd.R k38 38 W2 w0.heap.size (fun k_ => ((P0_ k_ ∨ P2_ k_) ∨ w.heap.size ≤ k_)) (.slice (some ⟨vb, 0, none⟩) 1 vc) l2 ∧ Below w0.heap.size w0 W2 ∧ Kept w W2 (fun k_ => (P0_ k_ ∨ P2_ k_)) := by
    have hBd : Below w0.heap.size w0 w.drew := below_drew1 hB
    have hB1 : Below w0.heap.size w0 W1 := hBd.grown hg1 hBd.size (fun k hk => by injection hk with hk; rw [← hk]; exact hb0)
    refine ⟨_, rfl, mkown38 ?_ hb0 ⟨.inl (.inl hok0), fun e => ?_⟩ hroom hcm0 hh3 (by rw [hz3, hz1, hcs0]) hend, mkown38 hn2 hb2 (.inl (.inr hok2)) hnc2 hcm2 hv2 hcs2 ht2, hB1.grown hg2 hB1.size (fun k hk => by injection hk with hk; rw [← hk]; exact hb0),
      Kept.of_grown hg2 (Kept.of_grown hg1 (Kept.drew (Kept.refl w _)) (fun k hk => by injection hk with hk; rw [← hk]; exact .inl (.inl hok0))) (fun k hk => by injection hk with hk; rw [← hk]; exact .inl (.inl hok0))⟩
    · rw [List.length_append, List.length_append, List.length_take, List.length_drop, ← hn0, ← hn2, Nat.min_eq_left (by omega)]; omega
    · rw [hov] at e; injection e with e; exact hne e.symm
  have FIN := Aside0.mk fin
  have hcp1 : ∀ ty dc sc, (Builtin.copy_ #[22, 22] ty #[.slice (some ⟨g, (i + 1) * 4, none⟩) (n - i) dc, .slice (some ⟨g, i * 4, none⟩) (n + 1 - i) sc]).run Try.prog w.drew = .ok (goInt (n - i : Nat)) W1 := fun ty dc sc => by
    rw [hW1]
    exact run_copy_wide w.drew 22 22 ty 38 g ((i + 1) * 4) (n - i) dc ⟨g, i * 4, none⟩ (n + 1 - i) sc (n - i) 4 cs1 Try.underlying22 hinfo (Nat.min_eq_right (by omega)) hl1 (cell_list hhd hcut1) (cell_some hhd (by rw [hcs0, hl1]; omega)) (fun j _ => blk_frozen hhd _) o1
  have hcp2 : ∀ ty dc sc, (Builtin.copy_ #[22, 22] ty #[.slice (some ⟨g, i * 4, none⟩) (n + 1 - i) dc, .slice (some ⟨vb, 0, none⟩) 1 sc]).run Try.prog W1 = .ok (goInt (1 : Nat)) W2 := fun ty dc sc => by
    rw [hW2]
    exact run_copy_wide W1 22 22 ty 38 g (i * 4) (n + 1 - i) dc ⟨vb, 0, none⟩ 1 sc 1 4 cs2 Try.underlying22 hinfo (Nat.min_eq_left (by omega)) hl2 (cell_list hv1 (fun j v hj => by
      rw [hcs2', ← ht2, List.getElem?_take] at hj
      split at hj
      · rw [Nat.zero_add]; exact hj
      · cases hj)) (cell_some hh1 (by rw [hz1, hcs0, hl2]; omega)) (fun j _ => blk_frozen hh1 _) o2
  have hlap : ∀ lb cb, (callFunc 48 #[.slice (some ⟨vb, 0, none⟩) 1 vc, .slice (some ⟨g, (i + 1) * 4, none⟩) lb cb]).run Try.prog w = .ok (.value (.bool false)) w := fun lb cb => by
    rw [run_callFunc_extern Try.func48 (by kernel_rfl) (by kernel_rfl) (by kernel_rfl) (e := Extern.SlicesOverlaps.overlaps #[22, 22] #[4]) (by kernel_rfl),
      Lib.run_overlaps_apart w 22 4 38 Try.underlying22 4 size38 ⟨vb, 0, none⟩ ⟨g, (i + 1) * 4, none⟩ 1 vc lb cb hne 38 38 cur2.size cur0.size (by simp [World.shape?, hh2]) (by simp [World.shape?, hh0]) (by rw [hcs0]; omega) (blk_frozen hh2 _) (blk_frozen hh2 _)]
    rfl
  have a1 : ¬ ((1 : Int) = 0) := by decide
  have a2 : ¬ ((i : Int) = (n : Int)) := by omega
  have a3 : (i : Int) ≤ (n : Int) := by omega
  have a4 : ¬ (c = i) := by omega
  have a5 : ¬ (c = i + 1) := by omega
  have a6 : (n : Int) + 1 ≤ (c : Int) := by omega
  have a7 : ¬ ((c : Int) < (n : Int) + 1) := by omega
  have a8 : ((i : Int) + 1).toNat = i + 1 := by omega
  have a9 : ((n : Int) + 1).toNat = n + 1 := by omega
  have a10 : (0 : Int) ≤ (i : Int) + 1 := by omega
  have a11 : (0 : Int) ≤ (n : Int) + 1 := by omega
  have a12 : (i : Int) + 1 ≤ (n : Int) + 1 := by omega
  have a13 : (i : Int) ≤ (n : Int) + 1 := by omega
  have a14 : IntKind.i64.wrap ((i : Int) + 1) = (i : Int) + 1 := by rw [IntKind.wrap_i64]; omega
  have a15 : IntKind.i64.wrap ((n : Int) + 1) = (n : Int) + 1 := by rw [IntKind.wrap_i64]; omega
  clear fin hend hn2 hn0 ho0 ho2 hB hh2 hcs2 ht2 hh0 hcs0 ht0 hhd hcut1 hW1 hh1 hz1 ht1 hv1 hW2 hh3 hz3 ht3 hv2 hg1 hg2 hl1 hl2 o1 o2 hinfo hcs1 hcs2' hnc2 hcm2 hnc0 hb2 hb0 hov hne
  go_enter Try.func36, Try.ntmps36
  go_wp2_with (simp only [hlap])
  go_region_law (refine copy_step rfl _ _ 22 22 rfl _ _ (by simp [Act.eval, Act.put]) (by simp [Act.eval, Act.put]) (hcp1 _ _ _) ?_)
  go_wp2_with ((with_reducible refine gate_builtin (b := .copy) (xs := #[.tmp 80, .tmp 81]) rfl ?_); refine copy_list _ rfl _ _ 22 22 rfl _ _ rfl rfl (hcp2 _ _ _) ?_)
  all_goals (go_ret; first | exact FIN.out | (subst_vars; exact FIN.out))
theorem zeros38_len (z : Array Value) (hz : z.size = 4) (k : Nat) : (Builtin.zeroCells z k).toList.length = k * 4 := by
  simp [Builtin.zeroCells, hz]
theorem zeros38_size (z : Array Value) (hz : z.size = 4) (k : Nat) : (Builtin.zeroCells z k).size = k * 4 := by
  simp [Builtin.zeroCells, hz]
set_option maxHeartbeats 8000000 in
set_option maxRecDepth 100000 in
theorem ins_grow (P0_ : Nat → Prop) (g n i c : Nat) (l0 : List S38) (P2_ : Nat → Prop) (vb vc : Nat) (l2 : List S38) (w0 w : World) (hB : Below w0.heap.size w0 w) (ho0 : Kd.R k38 38 w w0.heap.size P0_ (.slice (some ⟨g, 0, none⟩) n c) l0) (hp0_2 : ∀ k_, P0_ k_ → ¬ P2_ k_)
    (ho2 : Kd.R k38 38 w w0.heap.size P2_ (.slice (some ⟨vb, 0, none⟩) 1 vc) l2) (hl : n < 1000) (hi : i < n) (hroom : c < n + 1) :
  Calls Try.prog 36 #[.slice (some ⟨g, 0, none⟩) n c, .int .i64 (i : Int), .slice (some ⟨vb, 0, none⟩) 1 vc] w fun e w' => ∃ v0_ : Value, e = .returned (v0_) ∧ Kd.R k38 38 w' w0.heap.size (fun k_ => (((P0_ k_ ∨ P2_ k_) ∨ w.heap.size ≤ k_) ∧ some k_ ≠ (Value.slice (some ⟨vb, 0, none⟩) 1 vc).ownBlock)) v0_ (l0.take i ++ l2 ++ l0.drop i) ∧ Kd.R k38 38 w' w0.heap.size (fun k_ => ((P0_ k_ ∨ P2_ k_) ∨ w.heap.size ≤ k_)) (.slice (some ⟨vb, 0, none⟩) 1 vc) l2 ∧ Below w0.heap.size w0 w' ∧ Kept w w' (fun k_ => (P0_ k_ ∨ P2_ k_)) := by
  obtain ⟨hn2, hb2, hok2, hnc2, hcm2, cur2, hh2, hcs2, ht2⟩ := own38 ho2
  obtain ⟨hn0, hb0, hok0, hnc0, hcm0, cur0, hh0, hcs0, ht0⟩ := own38 ho0
  have hvl : vb < w.heap.size := (Array.getElem?_eq_some_iff.1 hh2).1
  have hgl : g < w.heap.size := (Array.getElem?_eq_some_iff.1 hh0).1
  have hov : (Value.slice (some ⟨vb, 0, none⟩) 1 vc).ownBlock = some vb := by simp [Value.ownBlock]
  obtain ⟨cs0, hcs0'⟩ : ∃ cs0, cs0 = (l0.take i).flatMap enc38 := ⟨_, rfl⟩
  obtain ⟨cs1, hcs1⟩ : ∃ cs1, cs1 = (l0.drop i).flatMap enc38 := ⟨_, rfl⟩
  obtain ⟨cs2, hcs2'⟩ : ∃ cs2, cs2 = l2.flatMap enc38 := ⟨_, rfl⟩
  have hl0 : cs0.length = i * 4 := by rw [hcs0', flat38_len, List.length_take, ← hn0, Nat.min_eq_left (by omega)]
  have hl1 : cs1.length = (n - i) * 4 := by rw [hcs1, flat38_len, List.length_drop, ← hn0]
  have hl2 : cs2.length = 1 * 4 := by rw [hcs2', flat38_len, ← hn2]
  have o1 : ∀ v ∈ cs1, v.oneCell' = true := by rw [hcs1]; exact flat38_one _
  have o2 : ∀ v ∈ cs2, v.oneCell' = true := by rw [hcs2']; exact flat38_one _
  have hinfo : (Try.prog.info? 38).map (·.size) = some 4 := by kernel_rfl
  have hhd : w.drew.heap[g]? = some (.cells cur0 38 (0, 0)) := hh0
  have hcut0 : ∀ j v, cs0[j]? = some v → cur0.toList[0 + j]? = some v := by
    intro j v hj
    rw [hcs0', ← flat38_take, ← ht0, List.getElem?_take, List.getElem?_take] at hj
    split at hj
    · split at hj
      · rw [Nat.zero_add]; exact hj
      · cases hj
    · cases hj
  have hcut1 : ∀ j v, cs1[j]? = some v → cur0.toList[i * 4 + j]? = some v := by
    intro j v hj
    rw [hcs1, ← flat38_drop, ← ht0, List.getElem?_drop, List.getElem?_take] at hj
    split at hj
    · exact hj
    · cases hj
  obtain ⟨i0, hi0, hzz⟩ := Option.map_eq_some_iff.1 info38
  simp only [Prod.mk.injEq] at hzz
  obtain ⟨hz0, hz1, hz2⟩ := hzz
  have hold : (Builtin.firstCells i0.size i (.slice (some ⟨g, 0, none⟩) i c)).run Try.prog w.drew = .ok cs0.toArray w.drew := by
    rw [hz1]
    exact run_firstCells_some (w := w.drew) 4 i ⟨g, 0, none⟩ i c cs0 hl0 (cell_list hhd hcut0)
  obtain ⟨G, hG⟩ : ∃ G, G = grownCap w (n + 1) c 38 := ⟨_, rfl⟩
  have hGn : n + 1 ≤ G := by rw [hG]; exact grownCap_ge w _ _ _
  have hG63 : G ≤ 9223372036854775807 := by
    have := grownCap_le_maxLen w (n + 1) c 38 (by unfold maxLen; omega)
    rw [← hG] at this
    unfold maxLen at this
    omega
  obtain ⟨Z, hZ⟩ : ∃ Z : Array Value, Z = (Value.agg #[(.string ⟨#[]⟩), (.int .i64 0), (.float .f64 0), (.string ⟨#[]⟩)]).cells := ⟨_, rfl⟩
  have hZs : Z.size = 4 := by rw [hZ]; rfl
  obtain ⟨ROW, hROW⟩ : ∃ ROW : Array Value, ROW = cs0.toArray ++ Builtin.zeroCells Z (n + 1 - i) ++ Builtin.zeroCells Z (G - (n + 1)) := ⟨_, rfl⟩
  have hRs : ROW.size = G * 4 := by
    rw [hROW, Array.size_append, Array.size_append, zeros38_size Z hZs, zeros38_size Z hZs, List.size_toArray, hl0]
    omega
  have hRt : ROW.toList.take (i * 4) = cs0 := by
    rw [hROW, Array.toList_append, Array.toList_append, List.append_assoc, List.take_append_of_le_length (by rw [hl0]; exact Nat.le_refl _), List.take_of_length_le (by rw [hl0]; exact Nat.le_refl _)]
  have hrz : ∀ ty, (Builtin.append_ #[22, 3] ty #[.slice (some ⟨g, 0, none⟩) i c, .int .i64 ((n : Int) + 1 - (i : Int))]).run Try.prog w = .ok (.slice (some ⟨w.heap.size, 0, none⟩) (n + 1) G) (w.drew.alloc (.cells ROW 38)) := fun ty => by
    have h := Lib.run_append_grow_zeros w 22 3 ty 38 i0 _ .i64 .i64 Try.underlying22 Try.underlying3 hi0 hz0 (some ⟨g, 0, none⟩) i c cs0 hold (n + 1 - i) (by omega) (by omega) (by omega) (by omega) (by rw [hz2]; omega) (by rw [hz2, show i + (n + 1 - i) = n + 1 by omega]; exact growslice_fits hroom (by omega))
    rw [show i + (n + 1 - i) = n + 1 by omega, ← hG, ← hZ, ← hROW] at h
    rw [show (n : Int) + 1 - (i : Int) = ((n + 1 - i : Nat) : Int) by omega]
    exact h
  obtain ⟨H, hH⟩ : ∃ H, H = w.heap.size := ⟨_, rfl⟩
  have hHg : g ≠ H := by omega
  have hHv : vb ≠ H := by omega
  obtain ⟨W1, hW1⟩ : ∃ W1, W1 = w.drew.alloc (.cells ROW 38) := ⟨_, rfl⟩
  have hr1 : W1.heap[H]? = some (.cells ROW 38 (0, 0)) := by rw [hW1, hH]; exact heap_alloc_new w.drew (.cells ROW 38)
  have hB1 : Below w.heap.size w W1 := by rw [hW1]; exact below_alloc (below_drew1 (Below.refl w.heap.size w)) _
  have hr1g : W1.heap[g]? = some (.cells cur0 38 (0, 0)) := (hB1.block g hgl).trans hh0
  have hr1v : W1.heap[vb]? = some (.cells cur2 38 (0, 0)) := (hB1.block vb hvl).trans hh2
  obtain ⟨W2, hW2⟩ : ∃ W2, W2 = W1.setCells H (i * 4) cs2 := ⟨_, rfl⟩
  obtain ⟨row2, hr2, hz2', ht2'⟩ := setCells_row cs2 (i * 4) W1 ROW hr1 (by rw [hRs, hl2]; omega)
  rw [← hW2] at hr2
  have hr2g : W2.heap[g]? = some (.cells cur0 38 (0, 0)) := by rw [hW2, setCells_far _ _ _ hHg]; exact hr1g
  have hr2v : W2.heap[vb]? = some (.cells cur2 38 (0, 0)) := by rw [hW2, setCells_far _ _ _ hHv]; exact hr1v
  have hr2gd : W2.drew.heap[g]? = some (.cells cur0 38 (0, 0)) := hr2g
  have hr2d : W2.drew.heap[H]? = some (.cells row2 38 (0, 0)) := hr2
  obtain ⟨W3, hW3⟩ : ∃ W3, W3 = W2.drew.setCells H ((i + 1) * 4) cs1 := ⟨_, rfl⟩
  obtain ⟨row3, hr3, hz3', ht3'⟩ := setCells_row cs1 ((i + 1) * 4) W2.drew row2 hr2d (by rw [hz2', hRs, hl1]; omega)
  rw [← hW3] at hr3
  have hr3v : W3.heap[vb]? = some (.cells cur2 38 (0, 0)) := by rw [hW3, setCells_far _ _ _ hHv]; exact hr2v
  have hg2 : W1.grownBy W2 (some H) := by rw [hW2]; exact grown_setCells _ _ _ _
  have hg3 : W2.drew.grownBy W3 (some H) := by rw [hW3]; exact grown_setCells _ _ _ _
  have hend : row3.toList.take ((n + 1) * 4) = (l0.take i ++ l2 ++ l0.drop i).flatMap enc38 := by
    have e1 : row2.toList.take ((i + 1) * 4) = cs0 ++ cs2 := by
      rw [ht2', hRt]
      have : (cs0 ++ cs2).length = (i + 1) * 4 := by rw [List.length_append, hl0, hl2]; omega
      rw [List.take_append_of_le_length (by rw [this]; exact Nat.le_refl _), List.take_of_length_le (by rw [this]; exact Nat.le_refl _)]
    rw [ht3', e1, List.flatMap_append, List.flatMap_append, ← hcs0', ← hcs1, ← hcs2']
    have e3 : (cs0 ++ cs2 ++ cs1).length = (n + 1) * 4 := by
      rw [List.length_append, List.length_append, hl0, hl1, hl2]; omega
    rw [List.take_append_of_le_length (by rw [e3]; exact Nat.le_refl _), List.take_of_length_le (by rw [e3]; exact Nat.le_refl _)]
  have fin : ∃ v0_ : Value, Ending.returned (.slice (some ⟨H, 0, none⟩) (n + 1) G) = .returned (v0_) ∧ Kd.R k38 38 W3 w0.heap.size (fun k_ => (((P0_ k_ ∨ P2_ k_) ∨ w.heap.size ≤ k_) ∧ some k_ ≠ (Value.slice (some ⟨vb, 0, none⟩) 1 vc).ownBlock)) v0_ (l0.take i ++ l2 ++ l0.drop i) ∧ Kd.R k38 38 W3 w0.heap.size (fun k_ => ((P0_ k_ ∨ P2_ k_) ∨ w.heap.size ≤ k_)) (.slice (some ⟨vb, 0, none⟩) 1 vc) l2 ∧ Below w0.heap.size w0 W3 ∧ Kept w W3 (fun k_ => (P0_ k_ ∨ P2_ k_)) := by
    have hBH : w0.heap.size ≤ H := by rw [hH]; exact hB.size
    have hBa : Below w0.heap.size w0 W1 := below_then hB hB.size hB1
    have hBb : Below w0.heap.size w0 W2 := hBa.grown hg2 hBa.size (fun k hk => by injection hk with hk; rw [← hk]; exact hBH)
    have hBc : Below w0.heap.size w0 W2.drew := below_drew1 hBb
    refine ⟨_, rfl, mkown38 ?_ hBH ⟨.inr (by rw [hH]; exact Nat.le_refl _), fun e => ?_⟩ hGn hG63 hr3 (by rw [hz3', hz2', hRs]) hend, mkown38 hn2 hb2 (.inl (.inr hok2)) hnc2 hcm2 hr3v hcs2 ht2, hBc.grown hg3 hBc.size (fun k hk => by injection hk with hk; rw [← hk]; exact hBH),
      Kept.of_grown hg3 (Kept.drew (Kept.of_grown hg2 (Kept.of_below hB1 _) (fun k hk => by injection hk with hk; rw [← hk, hH]; exact .inr (Nat.le_refl _)))) (fun k hk => by injection hk with hk; rw [← hk, hH]; exact .inr (Nat.le_refl _))⟩
    · rw [List.length_append, List.length_append, List.length_take, List.length_drop, ← hn0, ← hn2, Nat.min_eq_left (by omega)]; omega
    · rw [hov] at e; injection e with e; exact hHv e.symm
  have FIN := Aside0.mk fin
  have hrz' : ∀ ty, (Builtin.append_ #[22, 3] ty #[.slice (some ⟨g, 0, none⟩) i c, .int .i64 ((n : Int) + 1 - (i : Int))]).run Try.prog w = .ok (.slice (some ⟨H, 0, none⟩) (n + 1) G) W1 := fun ty => by rw [hH, hW1]; exact hrz ty
  have hcpA : ∀ ty dc sc, (Builtin.copy_ #[22, 22] ty #[.slice (some ⟨H, i * 4, none⟩) (n + 1 - i) dc, .slice (some ⟨vb, 0, none⟩) 1 sc]).run Try.prog W1 = .ok (goInt (1 : Nat)) W2 := fun ty dc sc => by
    rw [hW2]
    exact run_copy_wide W1 22 22 ty 38 H (i * 4) (n + 1 - i) dc ⟨vb, 0, none⟩ 1 sc 1 4 cs2 Try.underlying22 hinfo (Nat.min_eq_left (by omega)) hl2 (cell_list hr1v (fun j v hj => by
      rw [hcs2', ← ht2, List.getElem?_take] at hj
      split at hj
      · rw [Nat.zero_add]; exact hj
      · cases hj)) (cell_some hr1 (by rw [hRs, hl2]; omega)) (fun j _ => blk_frozen hr1 _) o2
  have hcpB : ∀ ty dc sc, (Builtin.copy_ #[22, 22] ty #[.slice (some ⟨H, (i + 1) * 4, none⟩) (n - i) dc, .slice (some ⟨g, i * 4, none⟩) (n - i) sc]).run Try.prog W2.drew = .ok (goInt (n - i : Nat)) W3 := fun ty dc sc => by
    rw [hW3]
    exact run_copy_wide W2.drew 22 22 ty 38 H ((i + 1) * 4) (n - i) dc ⟨g, i * 4, none⟩ (n - i) sc (n - i) 4 cs1 Try.underlying22 hinfo (Nat.min_self _) hl1 (cell_list hr2gd hcut1) (cell_some hr2d (by rw [hz2', hRs, hl1]; omega)) (fun j _ => blk_frozen hr2d _) o1
  have a1 : ¬ ((1 : Int) = 0) := by decide
  have a2 : ¬ ((i : Int) = (n : Int)) := by omega
  have a3 : (i : Int) ≤ (n : Int) := by omega
  have a4 : ¬ (c = i) := by omega
  have a5 : ¬ (G = i) := by omega
  have a6 : ¬ (G = i + 1) := by omega
  have a7 : (c : Int) < (n : Int) + 1 := by omega
  have a8 : ((i : Int) + 1).toNat = i + 1 := by omega
  have a9 : (i : Int) ≤ (c : Int) := by omega
  have a10 : (0 : Int) ≤ (i : Int) + 1 := by omega
  have a11 : (0 : Int) ≤ (n : Int) + 1 := by omega
  have a12 : (i : Int) + 1 ≤ (n : Int) + 1 := by omega
  have a13 : (i : Int) ≤ (n : Int) + 1 := by omega
  have a14 : IntKind.i64.wrap ((i : Int) + 1) = (i : Int) + 1 := by rw [IntKind.wrap_i64]; omega
  have a15 : IntKind.i64.wrap ((n : Int) + 1) = (n : Int) + 1 := by rw [IntKind.wrap_i64]; omega
  have a16 : IntKind.i64.wrap ((n : Int) + 1 - (i : Int)) = (n : Int) + 1 - (i : Int) := by rw [IntKind.wrap_i64]; omega
  have a17 : i ≤ n := by omega
  have a18 : i ≤ c := by omega
  clear fin hend hn2 hn0 ho0 ho2 hB hh2 hcs2 ht2 hh0 hcs0 ht0 hhd hcut0 hcut1 hW1 hr1 hB1 hr1g hr1v hW2 hr2 hz2' ht2' hr2g hr2v hr2gd hr2d hW3 hr3 hz3' ht3' hr3v hg2 hg3 hl0 hl1 hl2 o1 o2 hinfo hcs0' hcs1 hcs2' hnc2 hcm2 hnc0 hb2 hb0 hov hrz hold hZ hZs hROW hRs hRt hG hH hHg hHv hvl hgl hi0 hz0 hz1 hz2 hGn hG63
  go_enter Try.func36, Try.ntmps36
  go_wp2_with (first | ((with_reducible refine gate_builtin (b := .append) (xs := #[.tmp 34, .tmp 39]) rfl ?_); refine Lib.wpList_append_run _ rfl _ _ _ _ rfl _ _ rfl rfl _ _ (hrz' _) ?_) | ((with_reducible refine gate_builtin (b := .copy) (xs := #[.tmp 43, .tmp 44]) rfl ?_); refine copy_list _ rfl _ _ 22 22 rfl _ _ rfl rfl (hcpA _ _ _) ?_))
  go_region_law (refine copy_step rfl _ _ 22 22 rfl _ _ (by simp [Act.eval, Act.put]) (by simp [Act.eval, Act.put]) (hcpB _ _ _) ?_)
  go_wp2
  all_goals (go_ret; first | exact FIN.out | (subst_vars; exact FIN.out))
set_option maxHeartbeats 4000000 in
theorem api_Pair_36.calls (P0_ : Nat → Prop) (u9000_ : Value) (l0 : List S38) (a1 : Int) (P2_ : Nat → Prop) (u9001_ : Value) (l2 : List S38) (r1 r2 : List S38) (w0 w : World) (hB : Below w0.heap.size w0 w) (ho0 : Kd.R k38 38 w w0.heap.size P0_ u9000_ l0) (hp0_2 : ∀ k_, P0_ k_ → ¬ P2_ k_) (ho2 : Kd.R k38 38 w w0.heap.size P2_ u9001_ l2) (hp2_0 : ∀ k_, P2_ k_ → ¬ P0_ k_) (h : api_Pair_36.f l0 a1 l2 = some (r1, r2)) :
  Calls Try.prog 36 #[u9000_, .int .i64 a1, u9001_] w fun e w' => ∃ v0_ : Value, e = .returned (v0_) ∧ Kd.R k38 38 w' w0.heap.size (fun k_ => (((P0_ k_ ∨ P2_ k_) ∨ w.heap.size ≤ k_) ∧ some k_ ≠ (u9001_ : Value).ownBlock)) v0_ r1 ∧ Kd.R k38 38 w' w0.heap.size (fun k_ => ((P0_ k_ ∨ P2_ k_) ∨ w.heap.size ≤ k_)) u9001_ r2 ∧ Below w0.heap.size w0 w' ∧ Kept w w' (fun k_ => (P0_ k_ ∨ P2_ k_)) := by
  unfold api_Pair_36.f at h
  by_cases hc : 0 ≤ a1 ∧ a1 ≤ (l0.length : Int) ∧ l2.length = 1 ∧ l0.length < 1000
  · rw [if_pos hc] at h
    obtain ⟨c1, c2, c3, c4⟩ := hc
    injection h with h
    injection h with h h'
    subst h; subst h'
    obtain ⟨i, rfl⟩ : ∃ i : Nat, a1 = (i : Int) := ⟨a1.toNat, by omega⟩
    rw [Int.toNat_natCast]
    obtain ⟨vb, vc, rfl, _⟩ := Kd.R_form ho2 (by omega)
    rw [c3] at ho2 ⊢
    by_cases he : i = l0.length
    · subst he
      obtain ⟨A, c, rfl⟩ := Kd.R_slice ho0
      have := ins_end P0_ A c l0 P2_ vb vc l2 w0 w hB ho0 hp0_2 ho2 c4 c3
      rw [List.take_length, List.drop_length, List.append_nil]
      exact this
    · obtain ⟨g, c, rfl, _⟩ := Kd.R_form ho0 (by omega)
      by_cases hr : l0.length + 1 ≤ c
      · exact ins_shift P0_ g l0.length i c l0 P2_ vb vc l2 w0 w hB ho0 hp0_2 ho2 c4 (by omega) hr
      · exact ins_grow P0_ g l0.length i c l0 P2_ vb vc l2 w0 w hB ho0 hp0_2 ho2 c4 (by omega) (by omega)
  · rw [if_neg hc] at h
    cases h
end Go.Proofs.Ytppbdngfiphliaa.P
