/- A row of images as its cells; an element taken out by append(m[:k:k], m[k+1:]...). -/
import Derived.Test.YtijnfnlahhgpgaaDoorXM
import Derived.Deep.AppendSrc
import Derived.Deep.Upon
import Derived.Laws.AppendOwn
set_option linter.unusedVariables false
set_option linter.unusedSimpArgs false
namespace Go.Proofs.YtijnfnlahhgpgaaDoor.P
open Go.RowKit Go.Proofs.YtijnfnlahhgpgaaDoorW.PrintWords Go.Proofs.YtijnfnlahhgpgaaDoorW.PrintLast Go.Proofs.YtijnfnlahhgpgaaDoorW.PrintMore
theorem rows38 {W : World} {base g n c : Nat} {ok : Nat → Prop} {l : List S38} (h : Kd.R k38 38 W base ok (.slice (some ⟨g, 0, none⟩) n c) l) :
    n = l.length ∧ n ≤ 9223372036854775807 ∧ ∃ inner : List Value, inner.length = l.length * 2 ∧ (∀ u ∈ inner, u.oneCell' = true) ∧ (∀ j v, inner[j]? = some v → W.cell? ⟨g, j, none⟩ = some v) ∧ ∀ j x, l[j]? = some x → k38.K W x ((inner.drop (j * 2)).take 2) := by
  have hmax := (Kd.R_reads' h).2.2.2.1
  obtain ⟨hn0, _, _⟩ := Kd.R_reads' h
  obtain ⟨hok, inner, ⟨ho1, ho2⟩, hr⟩ := h
  rcases ho2 with ⟨hv, _⟩ | ⟨g', cap', cur, hv, hb, hh, hnc', hcm, hcs, ht⟩
  · cases hv
  injection hv with ha hn hc
  injection ha with ha
  injection ha with hg
  subst hg; subst hc; subst hn
  have ht' : cur.toList.take (l.length * 2) = inner := ht
  have hl : inner.length = l.length * 2 := ho1
  have hK : ∀ j x, l[j]? = some x → k38.K W x ((inner.drop (j * 2)).take 2) := fun j x hj => k38.K_of_M (hr.2 j x hj)
  refine ⟨rfl, hmax, inner, hl, fun u hu => ?_, fun j v hj => ?_, hK⟩
  · obtain ⟨j, hj⟩ := List.mem_iff_getElem?.1 hu
    have hjl := (List.getElem?_eq_some_iff.1 hj).1
    have hx : l[j / 2]? = some (l[j / 2]'(by omega)) := List.getElem?_eq_getElem (by omega)
    refine k38.K_one (hK (j / 2) _ hx) u ?_
    refine List.mem_iff_getElem?.2 ⟨j % 2, ?_⟩
    rw [List.getElem?_take, if_pos (by omega), List.getElem?_drop, show j / 2 * 2 + j % 2 = j by omega]
    exact hj
  · have hjl := (List.getElem?_eq_some_iff.1 hj).1
    refine (cell_of_row W g j cur 38 (0, 0) hh).trans ?_
    rw [← ht', List.getElem?_take, if_pos (by omega), Array.getElem?_toList] at hj
    exact hj
theorem C_of_cells {W : World} {H : Nat} {l : List S38} {inner : List Value} (hl : inner.length = l.length * 2) (hm : l.length ≤ 9223372036854775807) (hc : ∀ j v, inner[j]? = some v → W.cell? ⟨H, j, none⟩ = some v) (hK : ∀ j x, l[j]? = some x → k38.K W x ((inner.drop (j * 2)).take 2)) :
    Kd.C k38 W (some ⟨H, 0, none⟩) l.length l := by
  refine ⟨rfl, hm, fun hp => ⟨⟨H, 0, none⟩, rfl, fun j p hj => ⟨(inner.drop (j * 2)).take 2, ?_, hK j p hj, fun q v hq => ?_⟩⟩⟩
  · have := (List.getElem?_eq_some_iff.1 hj).1
    show _ = 2
    rw [List.length_take, List.length_drop]
    omega
  · rw [List.getElem?_take] at hq
    split at hq
    · rw [List.getElem?_drop] at hq
      have := hc _ v hq
      have e : (Addr.add ⟨H, 0, none⟩ (j * k38.sz + q)) = ⟨H, j * 2 + q, none⟩ := by
        rw [add_plain]
        rfl
      rw [e]
      exact this
    · cases hq
/-- The cells without element k's. -/
theorem erased_at {l : List S38} {inner : List Value} (hl : inner.length = l.length * 2) {k : Nat} (hk : k < l.length) (j : Nat) (x : S38) (hj : (l.eraseIdx k)[j]? = some x) :
    ∃ j', l[j']? = some x ∧ ((inner.take (k * 2) ++ inner.drop ((k + 1) * 2)).drop (j * 2)).take 2 = (inner.drop (j' * 2)).take 2 := by
  rw [List.getElem?_eraseIdx] at hj
  have e1 : (inner.take (k * 2)).length = k * 2 := by rw [List.length_take]; omega
  by_cases h : j < k
  · rw [if_pos h] at hj
    refine ⟨j, hj, ?_⟩
    apply List.ext_getElem?
    intro q
    rw [List.getElem?_take, List.getElem?_take]
    split
    · rw [List.getElem?_drop, List.getElem?_drop, List.getElem?_append_left (by omega), List.getElem?_take, if_pos (by omega)]
    · rfl
  · rw [if_neg h] at hj
    refine ⟨j + 1, hj, ?_⟩
    apply List.ext_getElem?
    intro q
    rw [List.getElem?_take, List.getElem?_take]
    split
    · rw [List.getElem?_drop, List.getElem?_drop, List.getElem?_append_right (by omega), List.getElem?_drop, e1]
      congr 1
      omega
    · rfl
theorem step_append {W W' : World} {ops : Array Oper} {o : Oper} {a : Act} {Kc : Act → World → Prop} {Q : Exit → Act → World → Prop} {E : Prop} (hw : Region.wanted o (yielded ops a.tmps) = true) (s x : Operand) (t t' : TypeId)
    (ho : o.op = .call { callee := .builtin .append, args := #[s, x], argTypes := #[t, t'] }) {v u v' : Value} (hs : a.eval s = v) (hx : a.eval x = u) (hr : (Builtin.append_ #[t, t'] o.type #[v, u]).run Tryd.prog W = .ok v' W') (hK : Kc (a.put o.dst v') W') :
    if Region.wanted o (yielded ops a.tmps) = true then Oper.wp Tryd.prog o a W Kc Q else E := by
  rw [if_pos hw]
  unfold Oper.wp
  simp [execOp, ho, resolve, invoke, builtin, hs, hx, hr, Result.andThen]
  exact hK
theorem cut_max {n c : Nat} {g : Nat} (kk : Int) (h0 : 0 ≤ kk) (h1 : kk ≤ c) (W : World) : (Instr.slice 24 (.slice (some ⟨g, 0, none⟩) n c) none (some (.int .i64 kk)) (some (.int .i64 kk))).run Tryd.prog W = .ok (.slice (some ⟨g, 0, none⟩) kk.toNat kk.toNat) W := by
  obtain ⟨i0, hi0, _, hsz, _⟩ := info_parts (P := Tryd.prog) info38
  have ek : (kk.toNat : Int) = kk := Int.toNat_of_nonneg h0
  simp [Instr.slice, run_underlying Tryd.underlying24, Instr.sliceBounds, run_sliceBound, h0, h1, ek, sizeOf, typeInfo, hi0, hsz, Addr.add]
/-- append(m[:k:k], m[k+1:]...) of a row of one's own: a row of what is left. -/
theorem erase_run {W : World} {base g c : Nat} {ok : Nat → Prop} {l : List S38} (hR : Kd.R k38 38 W base ok (.slice (some ⟨g, 0, none⟩) l.length c) l) (hlc : l.length ≤ c) (hl6 : l.length ≤ 6) (kk : Int) (h0 : 0 ≤ kk) (h1 : kk < (l.length : Int)) :
    ∃ (A2 : Option Addr) (n2 c2 : Nat), (∀ W : World, (Instr.slice 24 (.slice (some ⟨g, 0, none⟩) l.length c) (some (.int .i64 (kk + 1))) none none).run Tryd.prog W = .ok (.slice A2 n2 c2) W) ∧
    ∃ (A3 : Option Addr) (c3 : Nat) (W' : World), (∀ ty, (Builtin.append_ #[24, 24] ty #[.slice (some ⟨g, 0, none⟩) kk.toNat kk.toNat, .slice A2 n2 c2]).run Tryd.prog W = .ok (.slice A3 (l.eraseIdx kk.toNat).length c3) W') ∧ (l.eraseIdx kk.toNat).length ≤ c3 ∧ Kd.C k38 W' A3 (l.eraseIdx kk.toNat).length (l.eraseIdx kk.toNat) ∧ Below W.heap.size W W' := by
  obtain ⟨i0, hi0, hz0, hsz, hby⟩ := info_parts (P := Tryd.prog) info38
  have hcut := cut_from (P := Tryd.prog) 24 38 .i64 Tryd.underlying24 hi0 2 hsz (some ⟨g, 0, none⟩) l.length c (kk + 1) (by omega) (by omega)
  refine ⟨_, _, _, hcut, ?_⟩
  obtain ⟨_, hmx, inner, hil, hone, hcell, hK⟩ := rows38 hR
  obtain ⟨k, rfl⟩ : ∃ k : Nat, kk = (k : Int) := ⟨kk.toNat, by omega⟩
  have e1 : ((k : Int) + 1).toNat = k + 1 := by omega
  have e0 : ((k : Int)).toNat = k := by omega
  rw [e1, e0]
  have hle : (l.eraseIdx k).length = l.length - 1 := List.length_eraseIdx_of_lt (by omega)
  by_cases hlast : k + 1 = l.length
  · -- nothing is appended
    refine ⟨some ⟨g, 0, none⟩, k, W, fun ty => ?_, by omega, ?_, Below.refl _ _⟩
    · rw [hle, show l.length - 1 = k by omega, show l.length - (k + 1) = 0 by omega]
      have hs : Src Tryd.prog i0.size 24 (.slice (if c = k + 1 then (some ⟨g, 0, none⟩ : Option Addr) else (some ⟨g, 0, none⟩ : Option Addr).map (·.add ((k + 1) * 2))) 0 (c - (k + 1))) 0 [] W := by
        split
        · exact Src.ofSlice W (e' := 38) Tryd.underlying24 _ _ _ [] (by simp) (fun j u hj => by cases hj) (fun u hu => by cases hu)
        · exact Src.ofSlice W (e' := 38) Tryd.underlying24 _ _ _ [] (by simp) (fun j u hj => by cases hj) (fun u hu => by cases hu)
      exact run_append_nothing W 24 24 ty 38 i0 Tryd.underlying24 hi0 _ k k (Nat.le_refl _) _ hs
    · have ht := Kd.R_take hR (m := k) (by omega)
      have hC := (Kd.R_reads' ht).2.2
      have e2 : l.take k = l.eraseIdx k := by
        rw [List.eraseIdx_eq_take_drop_succ, List.drop_eq_nil_of_le (by omega), List.append_nil]
      rw [e2] at hC
      exact hC
  · -- a new row
    have hlt : k + 1 < l.length := by omega
    rw [if_neg (show ¬ c = k + 1 by omega)]
    have ho : ∀ j v, (inner.take (k * 2))[j]? = some v → W.cell? ((⟨g, 0, none⟩ : Addr).add j) = some v := fun j v hj => by
      rw [List.getElem?_take] at hj
      split at hj
      · rw [add_plain]
        exact hcell j v hj
      · cases hj
    have hn : ∀ j v, (inner.drop ((k + 1) * 2))[j]? = some v → W.cell? (((⟨g, 0, none⟩ : Addr).add ((k + 1) * 2)).add j) = some v := fun j v hj => by
      rw [List.getElem?_drop] at hj
      rw [add_plain, Addr.add_lit]
      exact hcell _ v hj
    have hfit : Builtin.nextslicecap (k + (l.length - (k + 1))) k * i0.bytes ≤ 281474976710656 := growslice_fits (by omega) (by rw [hby]; omega)
    have hrun := fun ty => run_append_grow (P := Tryd.prog) W 24 ty 38 i0 _ Tryd.underlying24 hi0 hz0 ⟨g, 0, none⟩ k k (inner.take (k * 2)) (by rw [List.length_take, hsz]; omega) ho ((⟨g, 0, none⟩ : Addr).add ((k + 1) * 2)) (l.length - (k + 1)) (c - (k + 1)) (inner.drop ((k + 1) * 2)) (by rw [List.length_drop, hsz]; omega) hn (by omega) (by omega) hfit
    have en : k + (l.length - (k + 1)) = (l.eraseIdx k).length := by omega
    rw [en] at hrun
    refine ⟨_, _, _, hrun, grownCap_ge _ _ _ _, ?_, below_alloc (below_drew1 (Below.refl _ _)) _⟩
    refine C_of_cells (inner := inner.take (k * 2) ++ inner.drop ((k + 1) * 2)) (by rw [List.length_append, List.length_take, List.length_drop]; omega) (by omega) (fun j v hj => ?_) (fun j x hj => ?_)
    · refine (cell_of_row _ _ j _ 38 (0, 0) (heap_alloc_new _ _)).trans ?_
      have hjl := (List.getElem?_eq_some_iff.1 hj).1
      rw [← Array.getElem?_toList, Array.toList_append, Array.toList_append, List.getElem?_append_left (by simpa using hjl)]
      exact hj
    · obtain ⟨j', hj', e⟩ := erased_at hil (k := k) (by omega) j x hj
      rw [e]
      exact k38.K_below (below_alloc (below_drew1 (Below.refl _ _)) _) (hK j' x hj')
end Go.Proofs.YtijnfnlahhgpgaaDoor.P
