/- change.one as a Lean function, and that each call answers as it does. No condition. -/
import Derived.Test.YtijnfnlahhgpgaaDoorXM
import Derived.Lib.LazyBuf
import Derived.Test.YtijnfnlahhgpgaaDoorPx2
import Derived.Test.YtijnfnlahhgpgaaDoorPx3
set_option linter.unusedVariables false
set_option linter.unusedSimpArgs false
namespace Go.Proofs.YtijnfnlahhgpgaaDoor.P
open Go.RowKit Go.Proofs.YtijnfnlahhgpgaaDoorW.PrintWords Go.Proofs.YtijnfnlahhgpgaaDoorW.PrintLast Go.Proofs.YtijnfnlahhgpgaaDoorW.PrintMore
attribute [local go_sem] max2_int min2_int max_two min_two max_three min_three max_four min_four
attribute [local go_sem] x_str_gtr x_str_leq x_str_geq Instr.field asAgg
/-! ### change.one -/
def change_one.f (k : Nat) (l : List Int) : Option (Int × List Int × Int) :=
  (num_Get.f k l).bind fun t => if t.2.2 = 0 then (if 0 ≤ t.2.1 then (if t.2.1 ≤ (l.length : Int) then ((num_GetText.f k (l.drop t.2.1.toNat)).bind fun s => if s.2.2 = 0 then (if (s.1.size : Int) > 256 then some (0, [], 0) else some (t.1, pageOf (bytesOf s.1), wrap64 (t.2.1 + s.2.1))) else some (0, [], 0)) else none) else none) else some (0, [], 0)
theorem change_one.mono (l : List Int) (k : Nat) : LeO (change_one.f k l) (change_one.f (k + 1) l) := by
  unfold change_one.f
  exact LeO.bind (num_Get.mono _ _) (fun _ => LeO.ite (LeO.ite (LeO.ite (LeO.bind (num_GetText.mono _ _) (fun _ => LeO.refl _)) (LeO.none _)) (LeO.none _)) (LeO.refl _))
theorem bytesLen (s : ByteArray) : (bytesOf s).length = s.size := by unfold bytesOf; rw [List.length_map, Array.length_toList]; rfl
/-- A text's bytes over 256 noughts: the row as a block. -/
theorem page_str {w1 : World} {g c : Nat} {cur : Array Value} {s : ByteArray} (hz : ∀ w, (Go.sizeOf 5).run Tryd.prog w = .ok 1 w) (hh : w1.heap[g]? = some (.cells cur 5 (0, 0))) (hcs : cur.size = c) (hc : 256 ≤ c) (ht : cur.toList.take 256 = encB (List.replicate 256 0)) (hs : s.size ≤ 256) :
    ∃ W2 v2 cur2, (∀ ty, (Builtin.copy_ #[26, 9] ty #[.slice (some ⟨g, 0, none⟩) 256 c, .string s]).run Tryd.prog w1 = .ok v2 W2) ∧ W2.heap[g]? = some (.cells cur2 5 (0, 0)) ∧ cur2.size = c ∧ cur2.toList.take 256 = encB (pageOf (bytesOf s)) ∧ (∀ k, k ≠ g → W2.heap[k]? = w1.heap[k]?) ∧ (∀ B w, Below B w w1 → B ≤ g → Below B w W2) := by
  have he : (encB (bytesOf s)).length = s.size := by unfold encB; rw [List.length_map, bytesLen]
  have e1 : (s.data.toList.map fun x => Value.int .u8 (x.toNat : Int)) = encB (bytesOf s) := by unfold encB bytesOf; rw [List.map_map]; rfl
  obtain ⟨cur', h3, h4, h5⟩ := setCells_row (encB (bytesOf s)) 0 w1 cur hh (by rw [he, hcs]; omega)
  refine ⟨w1.setCells g 0 (encB (bytesOf s)), goInt s.size, cur', fun ty => ?_, h3, by rw [h4, hcs], ?_, fun k hk => setCells_far _ _ k hk, fun B w hb hg => below_setCells hg _ _ _ hb⟩
  · rw [← e1]
    exact run_copy_string w1 26 9 ty 5 g 0 256 c s Tryd.underlying26 hz hs (fun j hj => by rw [cell_of_row w1 g _ cur 5 (0, 0) hh, Nat.zero_add, Array.getElem?_eq_getElem (by omega)]; rfl) (fun j _ => blk_frozen hh _)
  · rw [h5, List.take_zero, List.nil_append, Nat.zero_add, he]
    unfold pageOf
    rw [List.take_append, he, List.take_of_length_le (by rw [he]; exact hs), List.take_drop]
    have : (s.size + (256 - s.size)) = 256 := by omega
    rw [this, ht, List.take_of_length_le (by rw [bytesLen]; exact hs), bytesLen]
    unfold encB
    rw [List.map_append, List.map_replicate, List.map_replicate, List.drop_replicate]
theorem event_copyS {w : World} {ops : Array Oper} {rest : List Oper} {o : Oper} {a : Act} {Q : Exit → Act → World → Prop} (hgd : o.guard = none) {d s : Operand} (ho : o.op = .call { callee := .builtin .copy, args := #[d, s], argTypes := #[26, 9] })
    {g c : Nat} {cur : Array Value} {str : ByteArray} (hd : a.eval d = .slice (some ⟨g, 0, none⟩) 256 c) (hs : a.eval s = .string str) (hz : ∀ w, (Go.sizeOf 5).run Tryd.prog w = .ok 1 w) (hh : w.heap[g]? = some (.cells cur 5 (0, 0))) (hcs : cur.size = c) (hc : 256 ≤ c) (ht : cur.toList.take 256 = encB (List.replicate 256 0)) (hsz : str.size ≤ 256)
    (h : ∀ W2 v2 cur2, W2.heap[g]? = some (.cells cur2 5 (0, 0)) → cur2.size = c → cur2.toList.take 256 = encB (pageOf (bytesOf str)) → (∀ k, k ≠ g → W2.heap[k]? = w.heap[k]?) → (∀ B w0, Below B w0 w → B ≤ g → Below B w0 W2) → wpList Tryd.prog ops Q rest (a.put o.dst v2) W2) : wpList Tryd.prog ops Q (o :: rest) a w := by
  obtain ⟨W2, v2, cur2, hrun, h1, h2, h3, h4, h5⟩ := page_str hz hh hcs hc ht hsz
  exact copy_list w hgd d s 26 9 ho _ _ hd hs (hrun _) (h W2 v2 cur2 h1 h2 h3 h4 h5)
set_option maxHeartbeats 4000000 in
set_option maxRecDepth 100000 in
theorem change_one.calls (k : Nat) (A0 : Option Addr) (c0 : Nat) (l0 : List Int) (r1 : Int) (r2 : List Int) (r3 : Int) (w : World) (hr0 : Kd.C (Kd.int .u8) w A0 l0.length l0) (hc0 : l0.length ≤ c0) (h : change_one.f k l0 = some (r1, r2, r3)) :
  Calls Tryd.prog 30 #[.slice A0 l0.length c0] w fun e w' => ∃ v0_ : Value, e = .returned (.tuple #[.agg #[.int .i64 r1, v0_], .int .i64 r3]) ∧ Kd.R (Kd.int .u8) 5 w' w.heap.size (fun _ => True) v0_ r2 ∧ Below w.heap.size w w' := by
  unfold change_one.f at h
  obtain ⟨⟨t1, t2, t3⟩, hG, hh⟩ := Option.bind_eq_some_iff.1 h
  clear h
  have h := hh
  clear hh
  have HR := Aside0.mk hr0
  have HB := Aside0.mk (Below.refl w.heap.size w)
  have AG := Aside0.mk hG
  clear hG
  simp only at h
  by_cases h3 : t3 = 0
  rotate_left
  · rw [if_neg h3] at h
    have b3 : (t3 == 0) = false := by simpa using h3
    have b4 : (t3 != 0) = true := by simpa using h3
    obtain ⟨rfl, rfl, rfl⟩ : (0 : Int) = r1 ∧ ([] : List Int) = r2 ∧ (0 : Int) = r3 := by
      have := Option.some.inj h
      simpa using this
    clear h
    clear hr0
    go_enter Tryd.func30, Tryd.ntmps30
    go_wp2_with (first | ((with_reducible refine gate_dst (N := 2) rfl ?_); refine box_event ?hg (N := 2) ?hd (cs := #[.int .i64 0, .slice none 0 0]) (t := 38) ?hr ?_; (case hd => rfl); (case hg => rfl); (case hr => first | (go_simp; done) | (go_simp; rfl)); intro gb2 hg w2 hbox hb; have BK2 := Aside0.mk (hbox); have GW2 := bZ HB hg; replace HB := bW HB hb; clear hb hbox hg; obtain ⟨hcz_0, hcz_1, hfz_0, hfz_1⟩ := bf2 (w := w2) BK2) | ((with_reducible refine gate_callee (f := 29) rfl ?_); refine goesL_ (some 12) rfl rfl Tryd.func29 (by kernel_rfl) rfl #[.slice A0 l0.length c0] rfl (by (try simp only [List.map_toArray, List.map_cons, List.map_nil]); first | done | rfl) ?_; refine (num_Get.calls k A0 c0 l0 t1 t2 t3 _ (by repeat (first | exact (Kd.C_below HR.out HB.out) | exact HR.out | (with_reducible refine Kd.C_alloc ?_ _) | (with_reducible refine Kd.C_drewN ?_ _) | (with_reducible refine Kd.C_drew ?_))) hc0 AG.out).mono ?_; rintro e w' ⟨rfl, ⟨nd, rfl⟩⟩; refine ⟨_, rfl, ?_⟩))
    refine bodyPost_ret (results_ct rfl _ _ gb2 38 #[.int .i64 0, .slice none 0 0] (0, 0) _ rfl (bR BK2) Tryd.underlying38 rfl (by kernel_rfl)) rfl ?_
    exact ⟨_, rfl, Kd.R_nil _ _ _ _ _, bC HB⟩
  rw [if_pos h3] at h
  subst h3
  by_cases q0 : 0 ≤ t2
  rotate_left
  · rw [if_neg q0] at h
    cases h
  rw [if_pos q0] at h
  by_cases q1 : t2 ≤ (l0.length : Int)
  rotate_left
  · rw [if_neg q1] at h
    cases h
  rw [if_pos q1] at h
  obtain ⟨⟨s1, s2, s3⟩, hT, hh⟩ := Option.bind_eq_some_iff.1 h
  clear h
  have h := hh
  clear hh
  obtain ⟨y, hy⟩ : ∃ y : List Int, y = l0.drop t2.toNat := ⟨_, rfl⟩
  rw [← hy] at hT
  have hcy : ∃ (A1 : Option Addr) (c1 : Nat), (∀ W : World, (Instr.slice 26 (Value.slice A0 l0.length c0) (some (Value.int .i64 t2)) none none).run Tryd.prog W = .ok (.slice A1 y.length c1) W) ∧ Kd.C (Kd.int .u8) w A1 y.length y ∧ y.length ≤ c1 := by
    obtain ⟨i0, hi0, _, hsz, _⟩ := info_parts (P := Tryd.prog) info5
    have hcut := cut_from (P := Tryd.prog) 26 5 .i64 Tryd.underlying26 hi0 1 hsz A0 l0.length c0 t2 q0 q1
    have hr1 := Kd.C_drop (m := t2.toNat) (c := c0) hr0 (by omega) hc0
    have hl : y.length = l0.length - t2.toNat := by rw [hy]; exact List.length_drop
    rw [← hy] at hr1
    refine ⟨_, c0 - t2.toNat, fun W => ?_, hr1, ?_⟩
    · rw [hl]; exact hcut W
    · omega
  obtain ⟨Ay, cy, hcut, hry, hcy⟩ := hcy
  have HRY := Aside0.mk hry
  have AT := Aside0.mk hT
  clear hry hy hr0 q0 q1 hT
  simp only at h
  by_cases h3 : s3 = 0
  rotate_left
  · rw [if_neg h3] at h
    have b3 : (s3 == 0) = false := by simpa using h3
    have b4 : (s3 != 0) = true := by simpa using h3
    obtain ⟨rfl, rfl, rfl⟩ : (0 : Int) = r1 ∧ ([] : List Int) = r2 ∧ (0 : Int) = r3 := by
      have := Option.some.inj h
      simpa using this
    clear h
    go_enter Tryd.func30, Tryd.ntmps30
    go_wp2_with (first | ((with_reducible refine gate_dst (N := 2) rfl ?_); refine box_event ?hg (N := 2) ?hd (cs := #[.int .i64 0, .slice none 0 0]) (t := 38) ?hr ?_; (case hd => rfl); (case hg => rfl); (case hr => first | (go_simp; done) | (go_simp; rfl)); intro gb2 hg w2 hbox hb; have BK2 := Aside0.mk (hbox); have GW2 := bZ HB hg; replace HB := bW HB hb; clear hb hbox hg; obtain ⟨hcz_0, hcz_1, hfz_0, hfz_1⟩ := bf2 (w := w2) BK2) | ((with_reducible refine gate_callee (f := 29) rfl ?_); refine goesL_ (some 12) rfl rfl Tryd.func29 (by kernel_rfl) rfl #[.slice A0 l0.length c0] rfl (by (try simp only [List.map_toArray, List.map_cons, List.map_nil]); first | done | rfl) ?_; refine (num_Get.calls k A0 c0 l0 t1 t2 0 _ (by repeat (first | exact (Kd.C_below HR.out HB.out) | exact HR.out | (with_reducible refine Kd.C_alloc ?_ _) | (with_reducible refine Kd.C_drewN ?_ _) | (with_reducible refine Kd.C_drew ?_))) hc0 AG.out).mono ?_; rintro e w' ⟨rfl, ⟨nd, rfl⟩⟩; refine ⟨_, rfl, ?_⟩) | ((with_reducible refine gate_callee (f := 35) rfl ?_); refine goesL_ (some 23) rfl rfl Tryd.func35 (by kernel_rfl) rfl #[.slice Ay y.length cy] rfl (by (try simp only [List.map_toArray, List.map_cons, List.map_nil]); first | done | rfl) ?_; refine (num_GetText.calls k Ay cy y s1 s2 s3 _ (by repeat (first | exact (Kd.C_below HRY.out HB.out) | exact HRY.out | (with_reducible refine Kd.C_alloc ?_ _) | (with_reducible refine Kd.C_drewN ?_ _) | (with_reducible refine Kd.C_drew ?_))) hcy AT.out).mono ?_; rintro e w' ⟨rfl, ⟨nd2, rfl⟩⟩; refine ⟨_, rfl, ?_⟩))
    refine bodyPost_ret (results_ct rfl _ _ gb2 38 #[.int .i64 0, .slice none 0 0] (0, 0) _ rfl (bR BK2) Tryd.underlying38 rfl (by kernel_rfl)) rfl ?_
    exact ⟨_, rfl, Kd.R_nil _ _ _ _ _, bC HB⟩
  rw [if_pos h3] at h
  subst h3
  by_cases h4 : (s1.size : Int) > 256
  · rw [if_pos h4] at h
    have b3 : decide (256 < (s1.size : Int)) = true := decide_eq_true h4
    have b4 : decide (256 < s1.size) = true := decide_eq_true (by omega)
    obtain ⟨rfl, rfl, rfl⟩ : (0 : Int) = r1 ∧ ([] : List Int) = r2 ∧ (0 : Int) = r3 := by
      have := Option.some.inj h
      simpa using this
    clear h
    go_enter Tryd.func30, Tryd.ntmps30
    go_wp2_with (first | ((with_reducible refine gate_dst (N := 2) rfl ?_); refine box_event ?hg (N := 2) ?hd (cs := #[.int .i64 0, .slice none 0 0]) (t := 38) ?hr ?_; (case hd => rfl); (case hg => rfl); (case hr => first | (go_simp; done) | (go_simp; rfl)); intro gb2 hg w2 hbox hb; have BK2 := Aside0.mk (hbox); have GW2 := bZ HB hg; replace HB := bW HB hb; clear hb hbox hg; obtain ⟨hcz_0, hcz_1, hfz_0, hfz_1⟩ := bf2 (w := w2) BK2) | ((with_reducible refine gate_callee (f := 29) rfl ?_); refine goesL_ (some 12) rfl rfl Tryd.func29 (by kernel_rfl) rfl #[.slice A0 l0.length c0] rfl (by (try simp only [List.map_toArray, List.map_cons, List.map_nil]); first | done | rfl) ?_; refine (num_Get.calls k A0 c0 l0 t1 t2 0 _ (by repeat (first | exact (Kd.C_below HR.out HB.out) | exact HR.out | (with_reducible refine Kd.C_alloc ?_ _) | (with_reducible refine Kd.C_drewN ?_ _) | (with_reducible refine Kd.C_drew ?_))) hc0 AG.out).mono ?_; rintro e w' ⟨rfl, ⟨nd, rfl⟩⟩; refine ⟨_, rfl, ?_⟩) | ((with_reducible refine gate_callee (f := 35) rfl ?_); refine goesL_ (some 23) rfl rfl Tryd.func35 (by kernel_rfl) rfl #[.slice Ay y.length cy] rfl (by (try simp only [List.map_toArray, List.map_cons, List.map_nil]); first | done | rfl) ?_; refine (num_GetText.calls k Ay cy y s1 s2 0 _ (by repeat (first | exact (Kd.C_below HRY.out HB.out) | exact HRY.out | (with_reducible refine Kd.C_alloc ?_ _) | (with_reducible refine Kd.C_drewN ?_ _) | (with_reducible refine Kd.C_drew ?_))) hcy AT.out).mono ?_; rintro e w' ⟨rfl, ⟨nd2, rfl⟩⟩; refine ⟨_, rfl, ?_⟩))
    refine bodyPost_ret (results_ct rfl _ _ gb2 38 #[.int .i64 0, .slice none 0 0] (0, 0) _ rfl (bR BK2) Tryd.underlying38 rfl (by kernel_rfl)) rfl ?_
    exact ⟨_, rfl, Kd.R_nil _ _ _ _ _, bC HB⟩
  rw [if_neg h4] at h
  have b3 : decide (256 < (s1.size : Int)) = false := decide_eq_false h4
  have b4 : decide (256 < s1.size) = false := decide_eq_false (by omega)
  have h5 : s1.size ≤ 256 := by omega
  clear h4
  obtain ⟨rfl, rfl, rfl⟩ : t1 = r1 ∧ pageOf (bytesOf s1) = r2 ∧ wrap64 (t2 + s2) = r3 := by
    have := Option.some.inj h
    simpa using this
  clear h
  have hz : ∀ w, (Go.sizeOf 5).run Tryd.prog w = .ok 1 w := fun w => by
    obtain ⟨i0, hi0, _, hsz, _⟩ := info_parts (P := Tryd.prog) info5
    simp [Go.sizeOf, typeInfo, hi0, hsz]
  have HZ := Aside0.mk hz
  clear hz
  go_enter Tryd.func30, Tryd.ntmps30
  go_wp2_with (first | ((with_reducible refine gate_dst (N := 2) rfl ?_); refine box_event ?hg (N := 2) ?hd (cs := #[.int .i64 0, .slice none 0 0]) (t := 38) ?hr ?_; (case hd => rfl); (case hg => rfl); (case hr => first | (go_simp; done) | (go_simp; rfl)); intro gb2 hg w2 hbox hb; have BK2 := Aside0.mk (hbox); have GW2 := bZ HB hg; replace HB := bW HB hb; clear hb hbox hg; obtain ⟨hcz_0, hcz_1, hfz_0, hfz_1⟩ := bf2 (w := w2) BK2) | ((with_reducible refine gate_callee (f := 29) rfl ?_); refine goesL_ (some 12) rfl rfl Tryd.func29 (by kernel_rfl) rfl #[.slice A0 l0.length c0] rfl (by (try simp only [List.map_toArray, List.map_cons, List.map_nil]); first | done | rfl) ?_; refine (num_Get.calls k A0 c0 l0 t1 t2 0 _ (by repeat (first | exact (Kd.C_below HR.out HB.out) | exact HR.out | (with_reducible refine Kd.C_alloc ?_ _) | (with_reducible refine Kd.C_drewN ?_ _) | (with_reducible refine Kd.C_drew ?_))) hc0 AG.out).mono ?_; rintro e w' ⟨rfl, ⟨nd, rfl⟩⟩; refine ⟨_, rfl, ?_⟩) | ((with_reducible refine gate_callee (f := 35) rfl ?_); refine goesL_ (some 23) rfl rfl Tryd.func35 (by kernel_rfl) rfl #[.slice Ay y.length cy] rfl (by (try simp only [List.map_toArray, List.map_cons, List.map_nil]); first | done | rfl) ?_; refine (num_GetText.calls k Ay cy y s1 s2 0 _ (by repeat (first | exact (Kd.C_below HRY.out HB.out) | exact HRY.out | (with_reducible refine Kd.C_alloc ?_ _) | (with_reducible refine Kd.C_drewN ?_ _) | (with_reducible refine Kd.C_drew ?_))) hcy AT.out).mono ?_; rintro e w' ⟨rfl, ⟨nd2, rfl⟩⟩; refine ⟨_, rfl, ?_⟩) | ((with_reducible refine gate_dst (N := 36) rfl ?_); refine Kd.R_make (Kd.int .u8) _ 5 rfl (N := 36) rfl 26 _ _ rfl 256 rfl rfl Tryd.underlying26 (.int .u8 0) 1 info5 rfl (by decide) (by omega) 0 (ok := fun _ => True) (okp := fun _ => True) rfl (fun _ hk => hk) trivial (by omega) (by rw [show (256 : Int).toNat = 256 from rfl]; omega) (Below.refl _ _) (Nat.le_refl _) ?_; intro v1 w3 ho1 hb1 hg1 hat1; rw [show (256 : Int).toNat = 256 from rfl] at ho1; obtain ⟨g, c, rfl, hbg, hlg, _⟩ := Kd.R_form ho1 (by rw [List.length_replicate]; omega); (have e256 : (List.replicate 256 (0:Int)).length = 256 := List.length_replicate); rw [e256] at ho1; rw [e256]; obtain ⟨hn_, hbg', htr_, hnc, hcm, cur, hh, hcs, ht⟩ := ownB ho1; clear hn_ htr_; have BKg := Aside0.mk hh; have GWg := Aside0.mk (Nat.le_trans (below_size (bC HB)) hbg'); have NE2 : Aside0 (gb2 ≠ g) := ⟨fun e_ => absurd (Nat.lt_of_lt_of_le (blk_lt (bQ BK2)) hbg') (by rw [e_]; exact Nat.lt_irrefl _)⟩; replace BK2 := bB BK2 hb1; replace HB := bW HB hb1; have HT := Aside0.mk ht; have HS := Aside0.mk hcs; have HN := Aside0.mk hnc; have HM := Aside0.mk hcm; clear ho1 hb1 hg1 hat1 hbg hlg hh ht e256 hbg' hcs hnc hcm) | ((with_reducible refine gate_dst (N := 9) rfl ?_); refine box_event ?hg (N := 9) ?hd (cs := #[.int .i64 0, .slice none 0 0]) (t := 38) ?hr ?_; (case hd => rfl); (case hg => rfl); (case hr => first | (go_simp; done) | (go_simp; rfl)); intro gb9 hg w4 hbox hb; have BK9 := Aside0.mk (hbox); have GW9 := bZ HB hg; have NB2_9 := bL BK2 hg; have NB9_2 := bG BK2 hg; have NBg_9 := bL BKg hg; have NB9_g := bG BKg hg; replace BK2 := bB BK2 hb; replace BKg := bB BKg hb; replace HB := bW HB hb; clear hb hbox hg hcz_0 hcz_1 hfz_0 hfz_1; obtain ⟨hcz9_0, hcz9_1, hfz9_0, hfz9_1⟩ := bf2 (w := w4) BK9) | ((with_reducible refine gate_builtin (b := .copy) (xs := #[.tmp 39, .tmp 40]) rfl ?_); refine event_copyS rfl rfl rfl rfl HZ.out ?hh HS.out HN.out HT.out h5 ?_; (case hh => exact (bS BKg).out); intro W2 v2 cur2 hh2 hcs2 ht2 hfar hbel; have BK2' := Aside0.mk ((hfar _ NE2.out).trans (bS BK2).out); have BK9' := Aside0.mk ((hfar _ NB9_g.out).trans (bR BK9)); have HB' := Aside0.mk (hbel _ _ (bC HB) GWg.out); clear hfar hbel hcz9_0 hcz9_1 hfz9_0 hfz9_1 BKg BK2 BK9 HB; have BKg := Aside0.mk hh2; have HT2 := Aside0.mk ht2; have HS2 := Aside0.mk hcs2; clear hh2 ht2 hcs2; obtain ⟨hcz9_0, hcz9_1, hfz9_0, hfz9_1⟩ := bf2 (w := W2) BK9'; obtain ⟨hcz_0, hcz_1, hfz_0, hfz_1⟩ := bf2 (w := W2) BK2'))
  refine bodyPost_ret (results_ct rfl _ _ gb2 38 #[.int .i64 t1, .slice (some ⟨g, 0, none⟩) 256 c] (0, 0) _ rfl (bR BK2') Tryd.underlying38 rfl (by kernel_rfl)) rfl ?_
  exact ⟨_, rfl, mkownB (by rw [pageOf_len]) GWg.out trivial HN.out HM.out (blk_far (blk_far BKg.out (fun e => NE2.out e.symm) _) (fun e => NE2.out e.symm) _) HS2.out HT2.out, bC HB'⟩
end Go.Proofs.YtijnfnlahhgpgaaDoor.P
