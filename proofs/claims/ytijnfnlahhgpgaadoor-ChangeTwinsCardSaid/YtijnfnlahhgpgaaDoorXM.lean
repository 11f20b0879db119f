/- Rows of bytes as their cells; engrosslaw9.Of as a Lean function, and that each call answers as it does. No condition. -/
import Derived.Test.YtijnfnlahhgpgaaDoorPx0
import Derived.Laws.IdiomCopy
import Derived.Laws.Rows
set_option linter.unusedVariables false
set_option linter.unusedSimpArgs false
namespace Go.Proofs.YtijnfnlahhgpgaaDoor.P
open Go.RowKit Go.Proofs.YtijnfnlahhgpgaaDoorW.PrintWords Go.Proofs.YtijnfnlahhgpgaaDoorW.PrintLast Go.Proofs.YtijnfnlahhgpgaaDoorW.PrintMore
attribute [local go_sem] max2_int min2_int max_two min_two max_three min_three max_four min_four
attribute [local go_sem] x_str_gtr x_str_leq x_str_geq Instr.field asAgg
theorem copy_list {P : Program} (w : World) {ops : Array Oper} {rest : List Oper} {o : Oper} {a : Act} {Q : Exit → Act → World → Prop} (hgd : o.guard = none) (d s : Operand) (t t' : TypeId)
    (ho : o.op = .call { callee := .builtin .copy, args := #[d, s], argTypes := #[t, t'] }) (v u : Value) (hd : a.eval d = v) (hs : a.eval s = u) {v' : Value} {w' : World}
    (hr : (Builtin.copy_ #[t, t'] o.type #[v, u]).run P w = .ok v' w') (h : wpList P ops Q rest (a.put o.dst v') w') : wpList P ops Q (o :: rest) a w := by
  refine wpList_plain hgd fun _ hK => ?_
  unfold Oper.wp execOp
  simp only [ho, resolve, invoke, builtin, Sem.run_bind, Sem.run_pure, Result.andThen_ok, List.map_toArray, List.map_cons, List.map_nil, hd, hs, hr]
  exact hK _ _ h
theorem grown_setCells (W : World) (g o : Nat) (vs : List Value) : W.grownBy (W.setCells g o vs) (some g) := by
  obtain ⟨s1, s2, s3, s4⟩ := setCells_same g vs o W
  exact ⟨s1, s2, s3, by rw [s4]; exact Nat.le_refl _, fun k _ hk => setCells_far vs _ k (fun he => hk (by rw [he]))⟩
/-! ### rows of bytes -/
def encB (l : List Int) : List Value := l.map (Value.int .u8)
theorem repsB {W : World} {base : Nat} {ok : Nat → Prop} {xs : List Int} {cs : List Value} (h : Reps ((Kd.int .u8).M W base ok) 1 xs cs) : cs = encB xs := by
  apply List.ext_getElem?
  intro j
  unfold encB
  rw [List.getElem?_map]
  cases hj : xs[j]? with
  | none =>
    rw [List.getElem?_eq_none_iff] at hj
    rw [List.getElem?_eq_none (by have := h.1; omega)]
    rfl
  | some x =>
    have h2 : (cs.drop (j * 1)).take 1 = [Value.int .u8 x] := h.2 j x hj
    have := congrArg (·[0]?) h2
    rw [List.getElem?_take, if_pos (by decide), List.getElem?_drop, Nat.mul_one, Nat.add_zero] at this
    simpa using this
theorem mkrepsB (W : World) (base : Nat) (ok : Nat → Prop) (xs : List Int) : Reps ((Kd.int .u8).M W base ok) 1 xs (encB xs) := by
  refine ⟨by simp [encB], fun j p hp => ?_⟩
  show ((encB xs).drop (j * 1)).take 1 = [Value.int .u8 p]
  have hj := (List.getElem?_eq_some_iff.1 hp).1
  apply List.ext_getElem?
  intro q
  rw [List.getElem?_take]
  split
  · have hq : q = 0 := by omega
    subst hq
    rw [List.getElem?_drop, Nat.mul_one, Nat.add_zero]
    simp [encB, hp]
  · rw [List.getElem?_eq_none (by simp; omega)]
theorem ownB {W : World} {base g n c : Nat} {ok : Nat → Prop} {xs : List Int} (h : Kd.R (Kd.int .u8) 5 W base ok (.slice (some ⟨g, 0, none⟩) n c) xs) :
    n = xs.length ∧ base ≤ g ∧ ok g ∧ n ≤ c ∧ c ≤ 9223372036854775807 ∧ ∃ cur : Array Value, W.heap[g]? = some (.cells cur 5 (0, 0)) ∧ cur.size = c ∧ cur.toList.take n = encB xs := by
  obtain ⟨hok, inner, ⟨ho1, ho2⟩, hr⟩ := h
  rcases ho2 with ⟨hv, _⟩ | ⟨g', cap', cur, hv, hb, hh, hnc', hcm, hcs, ht⟩
  · cases hv
  injection hv with ha hn hc
  injection ha with ha
  injection ha with hg
  subst hg; subst hc; subst hn
  have hcs' : cur.size = c * 1 := hcs
  have ht' : cur.toList.take (xs.length * 1) = inner := ht
  rw [Nat.mul_one] at hcs' ht'
  exact ⟨rfl, hb, hok g (by simp [Value.ownBlock]), hnc', hcm, cur, hh, hcs', ht'.trans (repsB hr)⟩
theorem mkownB {W : World} {base g n c : Nat} {ok : Nat → Prop} {xs : List Int} (hn : n = xs.length) (hb : base ≤ g) (hok : ok g) (hnc : n ≤ c) (hcm : c ≤ 9223372036854775807) {cur : Array Value}
    (hh : W.heap[g]? = some (.cells cur 5 (0, 0))) (hcs : cur.size = c) (ht : cur.toList.take n = encB xs) : Kd.R (Kd.int .u8) 5 W base ok (.slice (some ⟨g, 0, none⟩) n c) xs := by
  subst hn
  refine ⟨fun k hk => ?_, encB xs, ⟨by show (encB xs).length = xs.length * 1; simp [encB], .inr ⟨g, c, cur, rfl, hb, hh, hnc, hcm, by show cur.size = c * 1; omega, by show cur.toList.take (xs.length * 1) = _; rw [Nat.mul_one]; exact ht⟩⟩, mkrepsB _ _ _ xs⟩
  have : g = k := by simpa [Value.ownBlock] using hk
  rw [← this]
  exact hok
/-- The bytes of a row that is only read. -/
theorem readB {W : World} {A : Option Addr} {l : List Int} (h : Kd.C (Kd.int .u8) W A l.length l) (h0 : 0 < l.length) : ∃ ad, A = some ad ∧ ∀ j v, (encB l)[j]? = some v → W.cell? (ad.add j) = some v := by
  obtain ⟨_, _, h3⟩ := h
  obtain ⟨ad, e, hc⟩ := h3 h0
  refine ⟨ad, e, fun j v hj => ?_⟩
  unfold encB at hj
  rw [List.getElem?_map] at hj
  obtain ⟨x, hx, rfl⟩ := Option.map_eq_some_iff.1 hj
  obtain ⟨c, hl, hR, hcell⟩ := hc j x hx
  have hR' : c = [Value.int .u8 x] := hR
  have := hcell 0 (.int .u8 x) (by rw [hR']; rfl)
  have h1 : j * (Kd.int .u8).sz + 0 = j := by show j * 1 + 0 = j; omega
  rw [h1] at this
  exact this
theorem oneB (l : List Int) : ∀ v ∈ encB l, v.oneCell' = true := fun v hv => by
  obtain ⟨x, _, rfl⟩ := List.mem_map.1 hv
  rfl
theorem freeze_other (W : World) (g k i : Nat) (hi : i ≠ g) : (W.freeze ⟨g, k, none⟩ 1).heap[i]? = W.heap[i]? := by
  unfold World.freeze
  rw [if_neg (by decide)]
  simp [Array.getElem?_modify, Ne.symm hi]
theorem freeze_size (W : World) (g k : Nat) : (W.freeze ⟨g, k, none⟩ 1).heap.size = W.heap.size := by
  unfold World.freeze
  rw [if_neg (by decide)]
  simp
theorem freeze_cell (W : World) (g k : Nat) (a : Addr) : (W.freeze ⟨g, k, none⟩ 1).cell? a = W.cell? a := by
  unfold World.freeze
  rw [if_neg (by decide)]
  unfold World.cell?
  simp only [Array.getElem?_modify]
  by_cases h : g = a.block
  · rw [if_pos h]
    cases W.heap[a.block]? with
    | none => rfl
    | some o => cases o <;> rfl
  · rw [if_neg h]
theorem C_cells {W W2 : World} (h : ∀ a, W2.cell? a = W.cell? a) {A : Option Addr} {n : Nat} {xs : List Int} (hC : Kd.C (Kd.int .u8) W A n xs) : Kd.C (Kd.int .u8) W2 A n xs := by
  obtain ⟨h1, h2, h3⟩ := hC
  refine ⟨h1, h2, fun h0 => ?_⟩
  obtain ⟨ad, e, hc⟩ := h3 h0
  refine ⟨ad, e, fun j v hj => ?_⟩
  obtain ⟨c, hl, hR, hcell⟩ := hc j v hj
  exact ⟨c, hl, hR, fun i u hu => (h _).trans (hcell i u hu)⟩
theorem ltM {v : Value} {W0 W : World} (h : ∀ k, v.ownBlock = some k → k < W0.heap.size) (hb : Below W0.heap.size W0 W) : ∀ k, v.ownBlock = some k → k < W.heap.size := fun k hk => Nat.lt_of_lt_of_le (h k hk) hb.size
/-- A literal's row is marked: it is read from then on. -/
theorem event_mark {W : World} {ops : Array Oper} {rest : List Oper} {o : Oper} {a : Act} {Q : Exit → Act → World → Prop} {base : Nat} {ok : Nat → Prop} {A : Option Addr} {n c : Nat} {xs : List Int} (hgd : o.guard = none) {s : Operand} (ho : o.op = .convert 26 26 s) (hd : a.eval s = .slice A n c)
    (hu : Tryd.prog.underlying 5 = some (.int .u8)) (hR : Kd.R (Kd.int .u8) 5 W base ok (.slice A n c) xs) (hn : 0 < xs.length)
    (h : ∀ W2, Kd.C (Kd.int .u8) W2 A xs.length xs → (∀ k, (Value.slice A n c).ownBlock = some k → k < W2.heap.size) → Below base W W2 → wpList Tryd.prog ops Q rest (a.put o.dst (.slice A n c)) W2) : wpList Tryd.prog ops Q (o :: rest) a W := by
  obtain ⟨g, cap, hv, hb, hl, cells, hc⟩ := Kd.R_form hR hn
  injection hv with hA _ _
  have hsh : W.shape? g = some (5, cells.size) := by unfold World.shape?; rw [hc]
  have hrun : (execOp a.eval o).run Tryd.prog W = .ok (.value (.slice A n c)) (W.freeze ⟨g, cells.size, none⟩ 1) := by
    unfold execOp
    simp [ho, hd, convert, run_underlying Tryd.underlying26, run_underlying hu, hA, markStringish, hsh, Result.andThen]
  exact Kd.event_run hgd hrun (h _ (C_cells (fun x => freeze_cell W g _ x) (Kd.R_reads' hR).2.2) (by rw [freeze_size]; exact Kd.R_lt hR) ⟨rfl, rfl, rfl, by rw [freeze_size]; exact Nat.le_refl _, fun i hi => freeze_other W g _ i (by omega)⟩)
/-! ### engrosslaw9.Of -/
def pageOf (l : List Int) : List Int := l.take 256 ++ List.replicate (256 - l.length) 0
theorem pageOf_len (l : List Int) : (pageOf l).length = 256 := by
  unfold pageOf
  rw [List.length_append, List.length_take, List.length_replicate]
  omega
/-- What was copied over 256 noughts. -/
theorem copy_page {W w0 : World} {g c : Nat} {ok : Nat → Prop} {l : List Int} (hg : ok g) (h : Kd.R (Kd.int .u8) 5 W w0.heap.size ok (.slice (some ⟨g, 0, none⟩) 256 c) (List.replicate 256 0)) (hl : l.length ≤ 256) :
    Kd.R (Kd.int .u8) 5 (W.setCells g 0 (encB l)) w0.heap.size ok (.slice (some ⟨g, 0, none⟩) 256 c) (pageOf l) := by
  obtain ⟨hn, hb, hok, hnc, hcm, cur, hh, hcs, ht⟩ := ownB h
  have he : (encB l).length = l.length := by simp [encB]
  obtain ⟨cur', h3, h4, h5⟩ := setCells_row (encB l) 0 W cur hh (by rw [he, hcs]; omega)
  refine mkownB (by rw [pageOf_len]) hb hok hnc hcm h3 (by rw [h4, hcs]) ?_
  rw [h5, List.take_zero, List.nil_append, Nat.zero_add, he]
  unfold pageOf
  rw [List.take_append, he, List.take_of_length_le (by rw [he]; exact hl), List.take_drop]
  have : (l.length + (256 - l.length)) = 256 := by omega
  rw [this, ht, List.take_of_length_le hl]
  unfold encB
  rw [List.map_append, List.map_replicate, List.map_replicate, List.drop_replicate]
theorem page_run {w w1 : World} {g c : Nat} {A0 : Option Addr} {c0 : Nat} {l0 : List Int} (hinfo : (Tryd.prog.info? 5).map (·.size) = some 1) (hC : Kd.C (Kd.int .u8) w1 A0 l0.length l0) (hl : l0.length < 1000)
    (ho : Kd.R (Kd.int .u8) 5 w1 w.heap.size (fun _ => True) (.slice (some ⟨g, 0, none⟩) 256 c) (List.replicate 256 0)) (hb : Below w.heap.size w w1) (hbg : w.heap.size ≤ g) :
    ∃ W2 v2, (∀ ty, (Builtin.copy_ #[26, 26] ty #[.slice (some ⟨g, 0, none⟩) 256 c, .slice A0 l0.length c0]).run Tryd.prog w1 = .ok v2 W2) ∧ Kd.R (Kd.int .u8) 5 W2 w.heap.size (fun _ => True) (.slice (some ⟨g, 0, none⟩) 256 c) (pageOf l0) ∧ Below w.heap.size w W2 := by
  rcases Nat.eq_zero_or_pos l0.length with h0 | h0
  · have hnil := List.length_eq_zero_iff.1 h0
    refine ⟨w1, goInt 0, fun ty => run_copy_none w1 26 26 ty 5 _ _ _ _ _ _ Tryd.underlying26 hinfo (by rw [h0]; rfl), ?_, hb⟩
    rw [hnil, show pageOf [] = List.replicate 256 0 from by unfold pageOf; rw [List.take_nil, List.nil_append, List.length_nil, Nat.sub_zero]]
    exact ho
  · obtain ⟨ad, hA, hcell⟩ := readB hC h0
    obtain ⟨_, _, _, hnc, _, cur, hh, hcs, _⟩ := ownB ho
    have he : (encB (l0.take 256)).length = min l0.length 256 := by
      unfold encB
      rw [List.length_map, List.length_take, Nat.min_comm]
    refine ⟨w1.setCells g 0 (encB (l0.take 256)), _, fun ty => by
      rw [hA]
      exact run_copy_cells w1 26 26 ty 5 g 0 256 c ad l0.length c0 (encB (l0.take 256)) Tryd.underlying26 hinfo he (fun j v hj => hcell j v (by
        unfold encB at hj ⊢
        rw [List.map_take, List.getElem?_take] at hj
        split at hj
        · exact hj
        · cases hj)) (fun j hj => by rw [cell_of_row w1 g _ cur 5 (0, 0) hh, Nat.zero_add, Array.getElem?_eq_getElem (by rw [he] at hj; omega)]; rfl) (fun j _ => blk_frozen hh _) (oneB _), ?_, ?_⟩
    · have := copy_page (l := l0.take 256) (w0 := w) trivial ho (by rw [List.length_take]; omega)
      have e2 : pageOf (l0.take 256) = pageOf l0 := by
        unfold pageOf
        rw [List.take_take, List.length_take, Nat.min_self]
        congr 2
        omega
      rw [e2] at this
      exact this
    · exact hb.grown (grown_setCells _ _ _ _) hb.size (fun k hk => by injection hk with hk; rw [← hk]; exact hbg)
def engrosslaw9_Of.f (l : List Int) : Option (List Int) := if l.length < 1000 then some (pageOf l) else none
set_option maxHeartbeats 4000000 in
set_option maxRecDepth 100000 in
theorem engrosslaw9_Of.calls (A0 : Option Addr) (c0 : Nat) (l0 : List Int) (r : List Int) (w : World) (hr0 : Kd.C (Kd.int .u8) w A0 l0.length l0) (hc0 : l0.length ≤ c0) (h : engrosslaw9_Of.f l0 = some r) :
  Calls Tryd.prog 20 #[.slice A0 l0.length c0] w fun e w' => ∃ v0_ : Value, e = .returned (v0_) ∧ Kd.R (Kd.int .u8) 5 w' w.heap.size (fun _ => True) v0_ r ∧ Below w.heap.size w w' := by
  unfold engrosslaw9_Of.f at h
  by_cases hl : l0.length < 1000
  · rw [if_pos hl] at h
    obtain rfl := Option.some.inj h
    have HR := Aside0.mk hr0
    clear hr0
    have hinfo : (Tryd.prog.info? 5).map (·.size) = some 1 := by kernel_rfl
    go_enter Tryd.func20, Tryd.ntmps20
    clear h
    go_wp2_with (first | ((with_reducible refine gate_dst (N := 4) rfl ?_); refine Kd.R_make (Kd.int .u8) (w0 := w) w.heap.size 5 rfl (N := 4) rfl 26 _ _ rfl 256 rfl rfl Tryd.underlying26 (.int .u8 0) 1 info5 rfl (by decide) (by omega) 0 (ok := fun _ => True) (okp := fun _ => True) rfl (fun _ hk => hk) trivial (by omega) (by rw [show (256 : Int).toNat = 256 from rfl]; omega) (Below.refl _ _) (Nat.le_refl _) ?_; intro v1 w1 ho1 hb1 hg1 hat1; rw [show (256 : Int).toNat = 256 from rfl] at ho1; obtain ⟨g, c, rfl, hbg, hlg, _⟩ := Kd.R_form ho1 (by rw [List.length_replicate]; omega); (have e256 : (List.replicate 256 (0:Int)).length = 256 := List.length_replicate); rw [e256] at ho1; rw [e256]; have HO1 := Aside0.mk ho1; have HB1 := Aside0.mk hb1; have HBG := Aside0.mk hbg; clear ho1 hb1 hg1 hat1 hbg hlg) | (((with_reducible refine gate_builtin (b := .copy) (xs := #[.tmp 5, .tmp 6]) rfl ?_)); obtain ⟨W2, v2, hrun, hr2, hb2⟩ := page_run (c0 := c0) hinfo (Kd.C_below HR.out HB1.out) hl HO1.out HB1.out HBG.out; refine copy_list _ rfl _ _ 26 26 rfl _ _ rfl rfl (hrun _) ?_; have HR2 := Aside0.mk hr2; have HB2 := Aside0.mk hb2; clear hr2 hb2 hrun))
    go_ret
    exact ⟨_, rfl, HR2.out, HB2.out⟩
  · rw [if_neg hl] at h
    cases h
end Go.Proofs.YtijnfnlahhgpgaaDoor.P
