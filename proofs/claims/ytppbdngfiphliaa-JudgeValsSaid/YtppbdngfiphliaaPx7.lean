/- Functions of the program as Lean functions, and that each call answers as its function does. No condition. (Lines written by a generator of this session.) -/
import Derived.Test.YtppbdngfiphliaaPx0
import Derived.Test.YtppbdngfiphliaaPx2
import Derived.Test.YtppbdngfiphliaaPx3
import Derived.Test.YtppbdngfiphliaaPx5
import Derived.Test.YtppbdngfiphliaaXU
namespace Go.Proofs.Ytppbdngfiphliaa.P
open Go.RowKit Go.Proofs.YtppbdngfiphliaaW.PrintWords Go.Proofs.YtppbdngfiphliaaW.PrintLast Go.Proofs.YtppbdngfiphliaaW.PrintMore
attribute [local go_sem] max2_int min2_int max_two min_two max_three min_three max_four min_four   -- for this text's walks alone
attribute [local go_sem] x_str_gtr x_str_leq x_str_geq ext_bits ext_frombits ext_neg x_store_float Instr.field asAgg
set_option linter.unusedVariables false
set_option linter.unusedSimpArgs false

-- BY HAND: function 36 (api_Pair_36)

/-! ### judge_Over: function 19 -/
mutual
def judge_Over.l0 : Nat → List (S38) → List (S38) → Int → Int → Option ((List (S38)))
 | 0, _, _, _, _ => none
 | k + 1, x5, x15, x16, x17 => if x17 < x16 then (if 0 ≤ x17 then (if x17 < (x15.length : Int) then ((key_May.f ((rd_T38 x15 x17).f0)).bind fun t159 => (if t159 = true then ((datum_May.f ((rd_T38 x15 x17).f1.f0) ((rd_T38 x15 x17).f1.f1) ((rd_T38 x15 x17).f1.f2)).bind fun t160 => (judge_Over.j1 k x5 x15 x16 x17 (!t160) ((rd_T38 x15 x17).f0) ((rd_T38 x15 x17).f1.f0) ((rd_T38 x15 x17).f1.f1) ((rd_T38 x15 x17).f1.f2))) else (judge_Over.j1 k x5 x15 x16 x17 true ((rd_T38 x15 x17).f0) ((rd_T38 x15 x17).f1.f0) ((rd_T38 x15 x17).f1.f1) ((rd_T38 x15 x17).f1.f2)))) else (none)) else (none)) else (some x5)
def judge_Over.j1 : Nat → List (S38) → List (S38) → Int → Int → Bool → ByteArray → Int → Nat → ByteArray → Option ((List (S38)))
 | 0, _, _, _, _, _, _, _, _, _ => none
 | k + 1, x5, x15, x16, x17, x30, x159000, x159001, x159002, x159003 => if x30 = true then (judge_Over.l0 k x5 x15 x16 (wrap64 (x17 + 1))) else ((judge_find.f k x5 x159000).bind fun bt161 => (if x159001 = 0 then (judge_Over.j2 k x5 bt161.1 bt161.2 x15 x16 x17 bt161.2 x159000 x159001 x159002 x159003) else (judge_Over.j2 k x5 bt161.1 bt161.2 x15 x16 x17 false x159000 x159001 x159002 x159003)))
def judge_Over.j2 : Nat → List (S38) → Int → Bool → List (S38) → Int → Int → Bool → ByteArray → Int → Nat → ByteArray → Option ((List (S38)))
 | 0, _, _, _, _, _, _, _, _, _, _, _ => none
 | k + 1, x5, x8, x9, x15, x16, x17, x43, x159000, x159001, x159002, x159003 => if x43 = true then ((api_Pair_35.f x5 x8 (wrap64 (x8 + 1))).bind fun t163 => (judge_Over.l0 k t163 x15 x16 (wrap64 (x17 + 1)))) else (if x159001 = 0 then (judge_Over.l0 k x5 x15 x16 (wrap64 (x17 + 1))) else (if x9 = true then (if 0 ≤ x8 then (if x8 < (x5.length : Int) then (judge_Over.l0 k (x5.set (x8 : Int).toNat (⟨x159000, (⟨x159001, x159002, x159003⟩ : S31)⟩ : S38)) x15 x16 (wrap64 (x17 + 1))) else (none)) else (none)) else ((api_Pair_36.f x5 x8 (([(⟨x159000, (⟨x159001, x159002, x159003⟩ : S31)⟩ : S38)] : List (S38)))).bind fun bt170 => (judge_Over.l0 k bt170.1 x15 x16 (wrap64 (x17 + 1))))))
end
def judge_Over.f (k : Nat) (l0 : List (S38)) (l1 : List (S38)) : Option ((List (S38))) := (judge_Sorted.f k l0).bind fun t153 => (if t153 = true then ((api_Pair_31.f l0).bind fun t154 => (judge_Over.l0 k t154 l1 (l1.length : Int) 0)) else (some ([] : List (S38))))
theorem judge_Over.mono_l : ∀ k, (∀ y0 y1 y2 y3, LeO (judge_Over.l0 k y0 y1 y2 y3) (judge_Over.l0 (k + 1) y0 y1 y2 y3)) ∧ (∀ y0 y1 y2 y3 y4 y5 y6 y7 y8, LeO (judge_Over.j1 k y0 y1 y2 y3 y4 y5 y6 y7 y8) (judge_Over.j1 (k + 1) y0 y1 y2 y3 y4 y5 y6 y7 y8)) ∧ (∀ y0 y1 y2 y3 y4 y5 y6 y7 y8 y9 y10, LeO (judge_Over.j2 k y0 y1 y2 y3 y4 y5 y6 y7 y8 y9 y10) (judge_Over.j2 (k + 1) y0 y1 y2 y3 y4 y5 y6 y7 y8 y9 y10))
 | 0 => ⟨fun _ _ _ _ r h => by simp [judge_Over.l0] at h, fun _ _ _ _ _ _ _ _ _ r h => by simp [judge_Over.j1] at h, fun _ _ _ _ _ _ _ _ _ _ _ r h => by simp [judge_Over.j2] at h⟩
 | k + 1 => by
  obtain ⟨ih0, ih1, ih2⟩ := judge_Over.mono_l k
  refine ⟨?_, ?_, ?_⟩
  ·intro y0 y1 y2 y3
   unfold judge_Over.l0
   repeat' first
   | (with_reducible exact ih0 _ _ _ _)
   | (with_reducible exact ih1 _ _ _ _ _ _ _ _ _)
   | (with_reducible exact ih2 _ _ _ _ _ _ _ _ _ _ _)
   | (with_reducible exact judge_Sorted.mono _ _)
   | (with_reducible exact judge_find.mono _ _ _)
   | (with_reducible exact LeO.refl _)
   | (with_reducible exact LeO.none _)
   | (with_reducible refine LeO.ite ?_ ?_)
   | (with_reducible refine LeO.bind ?_ (fun _ => ?_))
   | exact ih0 _ _ _ _
   | exact ih1 _ _ _ _ _ _ _ _ _
   | exact ih2 _ _ _ _ _ _ _ _ _ _ _
   | exact judge_Sorted.mono _ _
   | exact judge_find.mono _ _ _
   | exact LeO.none _
   | refine LeO.ite ?_ ?_
   | refine LeO.bind ?_ (fun _ => ?_)
  ·intro y0 y1 y2 y3 y4 y5 y6 y7 y8
   unfold judge_Over.j1
   repeat' first
   | (with_reducible exact ih0 _ _ _ _)
   | (with_reducible exact ih1 _ _ _ _ _ _ _ _ _)
   | (with_reducible exact ih2 _ _ _ _ _ _ _ _ _ _ _)
   | (with_reducible exact judge_Sorted.mono _ _)
   | (with_reducible exact judge_find.mono _ _ _)
   | (with_reducible exact LeO.refl _)
   | (with_reducible exact LeO.none _)
   | (with_reducible refine LeO.ite ?_ ?_)
   | (with_reducible refine LeO.bind ?_ (fun _ => ?_))
   | exact ih0 _ _ _ _
   | exact ih1 _ _ _ _ _ _ _ _ _
   | exact ih2 _ _ _ _ _ _ _ _ _ _ _
   | exact judge_Sorted.mono _ _
   | exact judge_find.mono _ _ _
   | exact LeO.none _
   | refine LeO.ite ?_ ?_
   | refine LeO.bind ?_ (fun _ => ?_)
  ·intro y0 y1 y2 y3 y4 y5 y6 y7 y8 y9 y10
   unfold judge_Over.j2
   repeat' first
   | (with_reducible exact ih0 _ _ _ _)
   | (with_reducible exact ih1 _ _ _ _ _ _ _ _ _)
   | (with_reducible exact ih2 _ _ _ _ _ _ _ _ _ _ _)
   | (with_reducible exact judge_Sorted.mono _ _)
   | (with_reducible exact judge_find.mono _ _ _)
   | (with_reducible exact LeO.refl _)
   | (with_reducible exact LeO.none _)
   | (with_reducible refine LeO.ite ?_ ?_)
   | (with_reducible refine LeO.bind ?_ (fun _ => ?_))
   | exact ih0 _ _ _ _
   | exact ih1 _ _ _ _ _ _ _ _ _
   | exact ih2 _ _ _ _ _ _ _ _ _ _ _
   | exact judge_Sorted.mono _ _
   | exact judge_find.mono _ _ _
   | exact LeO.none _
   | refine LeO.ite ?_ ?_
   | refine LeO.bind ?_ (fun _ => ?_)
theorem judge_Over.mono : ∀ a0 a1 k, LeO (judge_Over.f k a0 a1) (judge_Over.f (k + 1) a0 a1) := by
 intro a0 a1 k
 obtain ⟨ih0, ih1, ih2⟩ := judge_Over.mono_l k
 unfold judge_Over.f
 repeat' first
   | (with_reducible exact ih0 _ _ _ _)
   | (with_reducible exact ih1 _ _ _ _ _ _ _ _ _)
   | (with_reducible exact ih2 _ _ _ _ _ _ _ _ _ _ _)
   | (with_reducible exact judge_Sorted.mono _ _)
   | (with_reducible exact judge_find.mono _ _ _)
   | (with_reducible exact LeO.refl _)
   | (with_reducible exact LeO.none _)
   | (with_reducible refine LeO.ite ?_ ?_)
   | (with_reducible refine LeO.bind ?_ (fun _ => ?_))
   | exact ih0 _ _ _ _
   | exact ih1 _ _ _ _ _ _ _ _ _
   | exact ih2 _ _ _ _ _ _ _ _ _ _ _
   | exact judge_Sorted.mono _ _
   | exact judge_find.mono _ _ _
   | exact LeO.none _
   | refine LeO.ite ?_ ?_
   | refine LeO.bind ?_ (fun _ => ?_)
set_option maxHeartbeats 8000000 in
set_option maxRecDepth 100000 in
theorem judge_Over.calls (k : Nat) (A0 : Option Addr) (c0 : Nat) (l0 : List (S38)) (A1 : Option Addr) (c1 : Nat) (l1 : List (S38)) (r : List (S38)) (w : World) (hr0 : Kd.C k38 w A0 l0.length l0) (hc0 : l0.length ≤ c0) (hr1 : Kd.C k38 w A1 l1.length l1) (hc1 : l1.length ≤ c1) (h : judge_Over.f k l0 l1 = some r) :
  Calls Try.prog 19 #[.slice A0 l0.length c0, .slice A1 l1.length c1] w fun e w' => ∃ v0_ : Value, e = .returned (v0_) ∧ Kd.R k38 38 w' w.heap.size (fun _ => True) v0_ r ∧ Below w.heap.size w w' := by
 have hu38 := Try.underlying38
 have hu31 := Try.underlying31
 have HR0 := Aside0.mk hr0
 have HC0 := Aside0.mk hc0
 clear hr0 hc0
 have HR1 := Aside0.mk hr1
 have HC1 := Aside0.mk hc1
 clear hr1 hc1
 have HB := Aside0.mk (Below.refl w.heap.size w)
 have H : ((judge_Sorted.f k l0).bind fun t153 => (if t153 = true then ((api_Pair_31.f l0).bind fun t154 => (judge_Over.l0 k t154 l1 (l1.length : Int) 0)) else (some ([] : List (S38))))) = some r := h
 clear h
 replace H := Option.bind_eq_some_iff.mp H
 obtain ⟨t153, A30, H⟩ := H
 replace H : (if t153 = true then ((api_Pair_31.f l0).bind fun t154 => (judge_Over.l0 k t154 l1 (l1.length : Int) 0)) else (some ([] : List (S38)))) = some r := H
 have A3 := Aside0.mk A30
 clear A30
 by_cases c4 : t153 = true
 ·subst c4
  have H1 : ((api_Pair_31.f l0).bind fun t154 => (judge_Over.l0 k t154 l1 (l1.length : Int) 0)) = some r := by rw [if_pos rfl] at H; exact H
  clear H
  have H := H1
  clear H1
  replace H := Option.bind_eq_some_iff.mp H
  obtain ⟨t154, A50, H⟩ := H
  replace H : (judge_Over.l0 k t154 l1 (l1.length : Int) 0) = some r := H
  have A5 := Aside0.mk A50
  clear A50
  have H' := Aside0.mk H
  clear H
  go_enter Try.func19, Try.ntmps19
  go_wp2_with (first | ((with_reducible refine gate_callee (f := 10) rfl ?_); refine goesL_ (some 11) rfl rfl Try.func10 (by kernel_rfl) rfl #[.slice A0 l0.length c0] rfl (by (try simp only [List.map_toArray, List.map_cons, List.map_nil]); first | done | rfl | (simp only [List.length_drop, List.length_take]; rfl)) ?_; (with_reducible refine (judge_Sorted.calls k _ _ l0 true _ ?side1 ?side2 A3.out).mono ?_); (case side1 => repeat (first | exact HR0.out | (with_reducible refine Kd.C_alloc ?_ _) | (with_reducible refine Kd.C_drewN ?_ _) | (with_reducible refine Kd.C_drew ?_))); (case side2 => exact HC0.out); rintro e w6 ⟨rfl, hb⟩; refine ⟨_, rfl, ?_⟩; replace HB := bW HB hb; (try clear hb); (try clear hb2); (try clear hk); (try clear hi)) | ((with_reducible refine gate_callee (f := 31) rfl ?_); refine goesL_ (some 14) rfl rfl Try.func31 (by kernel_rfl) rfl #[.slice A0 l0.length c0] rfl (by (try simp only [List.map_toArray, List.map_cons, List.map_nil]); first | done | rfl | (simp only [List.length_drop, List.length_take]; rfl)) ?_; (with_reducible refine (api_Pair_31.calls _ _ l0 t154 _ ?side1 ?side2 A5.out).mono ?_); (case side1 => repeat (first | exact (Kd.C_below HR0.out HB.out) | (with_reducible refine Kd.C_alloc ?_ _) | (with_reducible refine Kd.C_drewN ?_ _) | (with_reducible refine Kd.C_drew ?_))); (case side2 => exact HC0.out); rintro e w7 ⟨v155, rfl, ho0, hb⟩; refine ⟨_, rfl, ?_⟩; have HO156 := Aside0.mk (Kd.R_lower ho0 (below_size (bC HB))); replace HB := bW HB hb; (try clear hb); (try clear hb2); (try clear hk); (try clear hi); (try clear ho0)))
  go_loopg [5, 17] k (fun kq v5 v17 w' => ∃ (x5_1 : List (S38)) (x17_1 : Int), v17 = .int .i64 x17_1 ∧ Aside0 (judge_Over.l0 kq x5_1 l1 (l1.length : Int) x17_1 = some r) ∧ Aside0 (kq ≤ k) ∧ Aside0 (Kd.R k38 38 w' w.heap.size (fun _ => True) v5 x5_1) ∧ Aside0 (Below w.heap.size w w'))
  case atStart => exact ⟨(t154), (0), (by first | rfl | (simp; done) | (simp [*]; done)), H', ⟨Nat.le_refl _⟩, ⟨by (with_reducible repeat (first | apply Kd.R_alloc | apply Kd.R_drewN | apply Kd.R_drew)); exact HO156.out⟩, ⟨by repeat (first | (with_reducible first | exact HB.out | apply below_alloc | apply pw_below_drewN | apply below_drew1) | exact HB.out)⟩⟩
  case round =>
   clear H'
   try clear c1
   try clear p2
   try clear c3
   try clear c4
   obtain ⟨x5_1, x17_1, rfl, HA, HK1, HO_5, HB⟩ := hrel
   cases gk with
   | zero => exact absurd HA.out (by simp [judge_Over.l0])
   | succ k1 =>
    have H := HA.out
    clear HA
    simp only [judge_Over.l0] at H
    by_cases c8 : x17_1 < (l1.length : Int)
    ·rw [if_pos c8] at H
     have c8b0 : decide (x17_1 < (l1.length : Int)) = true := decide_eq_true c8
     clear c8
     by_cases c9 : 0 ≤ x17_1
     ·rw [if_pos c9] at H
      have c9b0 : decide (0 ≤ x17_1) = true := decide_eq_true c9
      clear c9
      by_cases c10 : x17_1 < (l1.length : Int)
      ·rw [if_pos c10] at H
       have c10b0 : decide (x17_1 < (l1.length : Int)) = true := decide_eq_true c10
       clear c10
       have HC11 := Aside0.mk H
       clear H
       have p157 : 0 ≤ (x17_1 : Int) := of_decide_eq_true (by first | (with_reducible assumption) | assumption)
       have q157 : x17_1 < (l1.length : Int) := of_decide_eq_true (by first | (with_reducible assumption) | assumption)
       obtain ⟨ad157, e157, hx157_0, hx157_1, hx157_2, hx157_3⟩ := at_T38 HR1.out x17_1 p157 q157
       cases e157
       replace hx157_0 := (HB.out.cell (World.block_lt_of_cell? w _ hx157_0)).trans hx157_0
       replace hx157_1 := (HB.out.cell (World.block_lt_of_cell? w _ hx157_1)).trans hx157_1
       replace hx157_2 := (HB.out.cell (World.block_lt_of_cell? w _ hx157_2)).trans hx157_2
       replace hx157_3 := (HB.out.cell (World.block_lt_of_cell? w _ hx157_3)).trans hx157_3
       replace p157 := eq_true p157
       replace q157 := eq_true q157
       go_upto_region 7 with (first | ((with_reducible refine gate_dst (N := 7) rfl ?_); refine box_event ?hg (N := 7) ?hd (cs := #[.string (⟨#[]⟩ : ByteArray), .int .i64 0, .float .f64 0, .string (⟨#[]⟩ : ByteArray)]) (t := 38) ?hr ?_; (case hd => rfl); (case hg => rfl); (case hr => first | (go_simp; done) | (go_simp; rfl)); intro gb158 hg w12 hbox hb; have BK158 := Aside0.mk (hbox); have GW158 := bZ HB hg; have GE158 := bZ HB hg; replace HO_5 := Aside0.mk (Kd.R_below (Kd.R_elderB (by (with_reducible repeat (first | apply Kd.R_alloc | apply Kd.R_drewN | apply Kd.R_drew)); exact HO_5.out) gb158 (Nat.le_of_eq hg.symm)) hb); replace HB := bW HB hb; clear hb hbox hg; obtain ⟨hcz13_0, hcz13_1, hcz13_2, hcz13_3, hfz13_0, hfz13_1, hfz13_2, hfz13_3⟩ := bf4 (w := w12) BK158))
       (try simp only [Act.put, List.setIfInBounds_toArray, List.set_cons_zero, List.set_cons_succ])
       go_cut [30] (fun v30 wc => ∃ (kq : Nat) (x30_10 : Bool), v30 = .bool x30_10 ∧ Aside0 (judge_Over.j1 kq x5_1 l1 (l1.length : Int) x17_1 x30_10 ((rd_T38 l1 x17_1).f0) ((rd_T38 l1 x17_1).f1.f0) ((rd_T38 l1 x17_1).f1.f1) ((rd_T38 l1 x17_1).f1.f2) = some r) ∧ Aside0 (kq ≤ k1) ∧ Aside0 (Kd.R k38 38 wc w.heap.size (fun k_ => k_ ≠ gb158) u5 x5_1) ∧ Aside0 (wc.heap[gb158]? = some (.cells #[.string ((rd_T38 l1 x17_1).f0), .int .i64 ((rd_T38 l1 x17_1).f1.f0), .float .f64 ((rd_T38 l1 x17_1).f1.f1), .string ((rd_T38 l1 x17_1).f1.f2)] 38 (0, 0))) ∧ Aside0 (Below w.heap.size w wc))
       case first =>
        have H := HC11.out
        clear HC11
        replace H := Option.bind_eq_some_iff.mp H
        obtain ⟨t159, A140, H⟩ := H
        replace H : (if t159 = true then ((datum_May.f ((rd_T38 l1 x17_1).f1.f0) ((rd_T38 l1 x17_1).f1.f1) ((rd_T38 l1 x17_1).f1.f2)).bind fun t160 => (judge_Over.j1 k1 x5_1 l1 (l1.length : Int) x17_1 (!t160) ((rd_T38 l1 x17_1).f0) ((rd_T38 l1 x17_1).f1.f0) ((rd_T38 l1 x17_1).f1.f1) ((rd_T38 l1 x17_1).f1.f2))) else (judge_Over.j1 k1 x5_1 l1 (l1.length : Int) x17_1 true ((rd_T38 l1 x17_1).f0) ((rd_T38 l1 x17_1).f1.f0) ((rd_T38 l1 x17_1).f1.f1) ((rd_T38 l1 x17_1).f1.f2))) = some r := H
        have A14 := Aside0.mk A140
        clear A140
        by_cases c15 : t159 = true
        ·subst c15
         have H1 : ((datum_May.f ((rd_T38 l1 x17_1).f1.f0) ((rd_T38 l1 x17_1).f1.f1) ((rd_T38 l1 x17_1).f1.f2)).bind fun t160 => (judge_Over.j1 k1 x5_1 l1 (l1.length : Int) x17_1 (!t160) ((rd_T38 l1 x17_1).f0) ((rd_T38 l1 x17_1).f1.f0) ((rd_T38 l1 x17_1).f1.f1) ((rd_T38 l1 x17_1).f1.f2))) = some r := by rw [if_pos rfl] at H; exact H
         clear H
         have H := H1
         clear H1
         replace H := Option.bind_eq_some_iff.mp H
         obtain ⟨t160, A160, H⟩ := H
         replace H : (judge_Over.j1 k1 x5_1 l1 (l1.length : Int) x17_1 (!t160) ((rd_T38 l1 x17_1).f0) ((rd_T38 l1 x17_1).f1.f0) ((rd_T38 l1 x17_1).f1.f1) ((rd_T38 l1 x17_1).f1.f2)) = some r := H
         have A16 := Aside0.mk A160
         clear A160
         have H' := Aside0.mk H
         clear H
         obtain ⟨hcz17_0, hcz17_1, hcz17_2, hcz17_3, hfz17_0, hfz17_1, hfz17_2, hfz17_3⟩ := bf4 (w := w12) BK158
         go_wp2_with (first | ((with_reducible refine gate_callee (f := 32) rfl ?_); refine goesL_ (some 23) rfl rfl Try.func32 (by kernel_rfl) rfl #[.string ((rd_T38 l1 x17_1).f0)] rfl (by (try simp only [List.map_toArray, List.map_cons, List.map_nil]); first | done | rfl | (simp only [List.length_drop, List.length_take]; rfl)) ?_; (with_reducible refine (key_May.calls ((rd_T38 l1 x17_1).f0) true _ A14.out).mono ?_); rintro e w' ⟨rfl, ⟨nd, rfl⟩⟩; refine ⟨_, rfl, ?_⟩) | (go_at_call 33; (with_reducible refine (datum_May.calls ((rd_T38 l1 x17_1).f1.f0) ((rd_T38 l1 x17_1).f1.f1) ((rd_T38 l1 x17_1).f1.f2) t160 _ A16.out).mono ?_); rintro e w18 ⟨rfl, hb⟩; replace HO_5 := Aside0.mk (Kd.R_below (by (with_reducible repeat (first | apply Kd.R_alloc | apply Kd.R_drewN | apply Kd.R_drew)); exact (Kd.R_mono (Kd.R_far (p := ⟨gb158, 3, none⟩) (Kd.R_far (p := ⟨gb158, 2, none⟩) (Kd.R_far (p := ⟨gb158, 1, none⟩) (Kd.R_far (p := ⟨gb158, 0, none⟩) (Kd.R_mono HO_5.out (fun k_ hk => (⟨hk, hk.2⟩ : _ ∧ k_ ≠ gb158))) (fun _ hk => hk.2) (.string ((rd_T38 l1 x17_1).f0))) (fun _ hk => hk.2) (.int .i64 ((rd_T38 l1 x17_1).f1.f0))) (fun _ hk => hk.2) (.float .f64 ((rd_T38 l1 x17_1).f1.f1))) (fun _ hk => hk.2) (.string ((rd_T38 l1 x17_1).f1.f2))) (fun _ h_ => h_.1))) hb); replace BK158 := Aside0.mk (blk_below (g := gb158) (o := .cells #[.string ((rd_T38 l1 x17_1).f0), .int .i64 ((rd_T38 l1 x17_1).f1.f0), .float .f64 ((rd_T38 l1 x17_1).f1.f1), .string ((rd_T38 l1 x17_1).f1.f2)] 38 (0, 0)) (bR BK158) hb); replace HB := bW HB hb; (try clear hb); (try clear hb2); (try clear hk); (try clear hi)))
         go_meet
         case rel => exact ⟨_, (!t160), (by first | rfl | (simp; done) | (simp [*]; done)), H', ⟨by have := HK1.out; first | omega | exact Nat.le_refl _⟩, ⟨by (with_reducible repeat (first | apply Kd.R_alloc | apply Kd.R_drewN | apply Kd.R_drew)); exact Kd.R_mono HO_5.out (fun _ hk => hk.2)⟩, ⟨by (with_reducible repeat (first | refine blk_drewN ?_ _ | refine blk_drew ?_ | refine blk_alloc ?_ _)); exact BK158.out⟩, ⟨by repeat (first | (with_reducible first | exact HB.out | apply below_alloc | apply pw_below_drewN | apply below_drew1 | refine below_set ?_ GE158.out) | exact HB.out)⟩⟩
        ·replace c15 := Bool.eq_false_iff.mpr c15
         subst c15
         have H1 : (judge_Over.j1 k1 x5_1 l1 (l1.length : Int) x17_1 true ((rd_T38 l1 x17_1).f0) ((rd_T38 l1 x17_1).f1.f0) ((rd_T38 l1 x17_1).f1.f1) ((rd_T38 l1 x17_1).f1.f2)) = some r := by rw [if_neg (show ¬ (false = true) by decide)] at H; exact H
         clear H
         have H := H1
         clear H1
         have H' := Aside0.mk H
         clear H
         obtain ⟨hcz19_0, hcz19_1, hcz19_2, hcz19_3, hfz19_0, hfz19_1, hfz19_2, hfz19_3⟩ := bf4 (w := w12) BK158
         go_wp2_with (first | ((with_reducible refine gate_callee (f := 32) rfl ?_); refine goesL_ (some 23) rfl rfl Try.func32 (by kernel_rfl) rfl #[.string ((rd_T38 l1 x17_1).f0)] rfl (by (try simp only [List.map_toArray, List.map_cons, List.map_nil]); first | done | rfl | (simp only [List.length_drop, List.length_take]; rfl)) ?_; (with_reducible refine (key_May.calls ((rd_T38 l1 x17_1).f0) false _ A14.out).mono ?_); rintro e w' ⟨rfl, ⟨nd, rfl⟩⟩; refine ⟨_, rfl, ?_⟩))
         go_meet
         case rel => exact ⟨_, (true), (by first | rfl | (simp; done) | (simp [*]; done)), H', ⟨by have := HK1.out; first | omega | exact Nat.le_refl _⟩, ⟨by (with_reducible repeat (first | apply Kd.R_alloc | apply Kd.R_drewN | apply Kd.R_drew)); exact Kd.R_mono (Kd.R_far (p := ⟨gb158, 3, none⟩) (Kd.R_far (p := ⟨gb158, 2, none⟩) (Kd.R_far (p := ⟨gb158, 1, none⟩) (Kd.R_far (p := ⟨gb158, 0, none⟩) (Kd.R_mono HO_5.out (fun k_ hk => (⟨hk, hk.2⟩ : _ ∧ k_ ≠ gb158))) (fun _ hk => hk.2) (.string ((rd_T38 l1 x17_1).f0))) (fun _ hk => hk.2) (.int .i64 ((rd_T38 l1 x17_1).f1.f0))) (fun _ hk => hk.2) (.float .f64 ((rd_T38 l1 x17_1).f1.f1))) (fun _ hk => hk.2) (.string ((rd_T38 l1 x17_1).f1.f2))) (fun _ hk => hk.1.2)⟩, ⟨by (with_reducible repeat (first | refine blk_drewN ?_ _ | refine blk_drew ?_ | refine blk_alloc ?_ _)); refine blk_put (cs := #[.string ((rd_T38 l1 x17_1).f0), .int .i64 ((rd_T38 l1 x17_1).f1.f0), .float .f64 ((rd_T38 l1 x17_1).f1.f1), .string (⟨#[]⟩ : ByteArray)]) ?_ 3 _ rfl; (with_reducible repeat (first | refine blk_drewN ?_ _ | refine blk_drew ?_ | refine blk_alloc ?_ _)); refine blk_put (cs := #[.string ((rd_T38 l1 x17_1).f0), .int .i64 ((rd_T38 l1 x17_1).f1.f0), .float .f64 0, .string (⟨#[]⟩ : ByteArray)]) ?_ 2 _ rfl; (with_reducible repeat (first | refine blk_drewN ?_ _ | refine blk_drew ?_ | refine blk_alloc ?_ _)); refine blk_put (cs := #[.string ((rd_T38 l1 x17_1).f0), .int .i64 0, .float .f64 0, .string (⟨#[]⟩ : ByteArray)]) ?_ 1 _ rfl; (with_reducible repeat (first | refine blk_drewN ?_ _ | refine blk_drew ?_ | refine blk_alloc ?_ _)); refine blk_put (cs := #[.string (⟨#[]⟩ : ByteArray), .int .i64 0, .float .f64 0, .string (⟨#[]⟩ : ByteArray)]) ?_ 0 _ rfl; (with_reducible repeat (first | refine blk_drewN ?_ _ | refine blk_drew ?_ | refine blk_alloc ?_ _)); exact BK158.out⟩, ⟨by repeat (first | (with_reducible first | exact HB.out | apply below_alloc | apply pw_below_drewN | apply below_drew1 | refine below_set ?_ GE158.out) | exact HB.out)⟩⟩
       case rest =>
        clear HC11
        try clear c1
        try clear p1
        try clear q1
        try clear hx1
        try clear p2
        try clear c3
        try clear c4
        try clear c8
        try clear c8b0
        try clear c9
        try clear c9b0
        try clear c10
        try clear c10b0
        try clear c15
        try clear p15
        try clear q15
        try clear hx15
        try clear c19
        try clear hcz13_0
        try clear hcz13_1
        try clear hcz13_2
        try clear hcz13_3
        try clear hcz17_0
        try clear hcz17_1
        try clear hcz17_2
        try clear hcz17_3
        try clear hcz19_0
        try clear hcz19_1
        try clear hcz19_2
        try clear hcz19_3
        try clear hfz13_0
        try clear hfz13_1
        try clear hfz13_2
        try clear hfz13_3
        try clear hfz17_0
        try clear hfz17_1
        try clear hfz17_2
        try clear hfz17_3
        try clear hfz19_0
        try clear hfz19_1
        try clear hfz19_2
        try clear hfz19_3
        try clear hx157_0
        try clear hx157_1
        try clear hx157_2
        try clear hx157_3
        try clear p157
        try clear p2
        try clear q157
        obtain ⟨kq, x30_10, rfl, HA, HJ10, HO_5, BK158, HB⟩ := hcut
        cases kq with
        | zero => exact absurd HA.out (by simp [judge_Over.j1])
        | succ kj10 =>
         have H := HA.out
         clear HA
         simp only [judge_Over.j1] at H
         by_cases c20 : x30_10 = true
         ·subst c20
          have H1 : (judge_Over.l0 kj10 x5_1 l1 (l1.length : Int) (wrap64 (x17_1 + 1))) = some r := by rw [if_pos rfl] at H; exact H
          clear H
          have H := H1
          clear H1
          have H' := Aside0.mk H
          clear H
          go_wp2
          go_roundg kj10
          case measure => have := HK1.out; have := HJ10.out; omega
          case rel => exact ⟨(x5_1), (wrap64 (x17_1 + 1)), (by first | rfl | (simp; done) | (simp [*]; done)), H', ⟨by have := HK1.out; have := HJ10.out; omega⟩, ⟨by (with_reducible repeat (first | apply Kd.R_alloc | apply Kd.R_drewN | apply Kd.R_drew)); exact Kd.R_mono HO_5.out (fun _ hk => trivial)⟩, ⟨by repeat (first | (with_reducible first | exact HB.out | apply below_alloc | apply pw_below_drewN | apply below_drew1 | refine below_set ?_ GE158.out) | exact HB.out)⟩⟩
         ·replace c20 := Bool.eq_false_iff.mpr c20
          subst c20
          have H1 : ((judge_find.f kj10 x5_1 ((rd_T38 l1 x17_1).f0)).bind fun bt161 => (if ((rd_T38 l1 x17_1).f1.f0) = 0 then (judge_Over.j2 kj10 x5_1 bt161.1 bt161.2 l1 (l1.length : Int) x17_1 bt161.2 ((rd_T38 l1 x17_1).f0) ((rd_T38 l1 x17_1).f1.f0) ((rd_T38 l1 x17_1).f1.f1) ((rd_T38 l1 x17_1).f1.f2)) else (judge_Over.j2 kj10 x5_1 bt161.1 bt161.2 l1 (l1.length : Int) x17_1 false ((rd_T38 l1 x17_1).f0) ((rd_T38 l1 x17_1).f1.f0) ((rd_T38 l1 x17_1).f1.f1) ((rd_T38 l1 x17_1).f1.f2)))) = some r := by rw [if_neg (show ¬ (false = true) by decide)] at H; exact H
          clear H
          have H := H1
          clear H1
          replace H := Option.bind_eq_some_iff.mp H
          obtain ⟨⟨t161, t162⟩, A210, H⟩ := H
          replace H : (if ((rd_T38 l1 x17_1).f1.f0) = 0 then (judge_Over.j2 kj10 x5_1 t161 t162 l1 (l1.length : Int) x17_1 t162 ((rd_T38 l1 x17_1).f0) ((rd_T38 l1 x17_1).f1.f0) ((rd_T38 l1 x17_1).f1.f1) ((rd_T38 l1 x17_1).f1.f2)) else (judge_Over.j2 kj10 x5_1 t161 t162 l1 (l1.length : Int) x17_1 false ((rd_T38 l1 x17_1).f0) ((rd_T38 l1 x17_1).f1.f0) ((rd_T38 l1 x17_1).f1.f1) ((rd_T38 l1 x17_1).f1.f2))) = some r := H
          have A21 := Aside0.mk A210
          clear A210
          have HC22 := Aside0.mk H
          clear H
          obtain ⟨hcz23_0, hcz23_1, hcz23_2, hcz23_3, hfz23_0, hfz23_1, hfz23_2, hfz23_3⟩ := bf4 (w := wc) BK158
          obtain ⟨Ao24, co24, eo24⟩ := Kd.R_slice HO_5.out
          subst eo24
          go_upto_region 10 with (first | ((with_reducible refine gate_callee (f := 34) rfl ?_); refine goesL_ (some 35) rfl rfl Try.func34 (by kernel_rfl) rfl #[.slice Ao24 x5_1.length co24, .string ((rd_T38 l1 x17_1).f0)] rfl (by (try simp only [List.map_toArray, List.map_cons, List.map_nil]); first | done | rfl | (simp only [List.length_drop, List.length_take]; rfl)) ?_; (with_reducible refine (judge_find.calls kj10 _ _ x5_1 ((rd_T38 l1 x17_1).f0) t161 t162 _ ?side1 ?side2 A21.out).mono ?_); (case side1 => repeat (first | exact (Kd.R_reads' HO_5.out).2.2 | (with_reducible refine Kd.C_alloc ?_ _) | (with_reducible refine Kd.C_drewN ?_ _) | (with_reducible refine Kd.C_drew ?_))); (case side2 => exact (Kd.R_reads' HO_5.out).2.1); rintro e w25 ⟨rfl, hb⟩; refine ⟨_, rfl, ?_⟩; replace HO_5 := Aside0.mk (Kd.R_below (by (with_reducible repeat (first | apply Kd.R_alloc | apply Kd.R_drewN | apply Kd.R_drew)); exact HO_5.out) hb); replace BK158 := bB BK158 hb; replace HB := bW HB hb; (try clear hb); (try clear hb2); (try clear hk); (try clear hi)))
          (try simp only [Act.put, List.setIfInBounds_toArray, List.set_cons_zero, List.set_cons_succ])
          go_cut [43] (fun v43 wc => ∃ (kq : Nat) (x43_21 : Bool), v43 = .bool x43_21 ∧ Aside0 (judge_Over.j2 kq x5_1 t161 t162 l1 (l1.length : Int) x17_1 x43_21 ((rd_T38 l1 x17_1).f0) ((rd_T38 l1 x17_1).f1.f0) ((rd_T38 l1 x17_1).f1.f1) ((rd_T38 l1 x17_1).f1.f2) = some r) ∧ Aside0 (kq ≤ kj10) ∧ Aside0 (Kd.R k38 38 wc w.heap.size (fun k_ => k_ ≠ gb158) (.slice Ao24 x5_1.length co24) x5_1) ∧ Aside0 (wc.heap[gb158]? = some (.cells #[.string ((rd_T38 l1 x17_1).f0), .int .i64 ((rd_T38 l1 x17_1).f1.f0), .float .f64 ((rd_T38 l1 x17_1).f1.f1), .string ((rd_T38 l1 x17_1).f1.f2)] 38 (0, 0))) ∧ Aside0 (Below w.heap.size w wc))
          case first =>
           have H := HC22.out
           clear HC22
           by_cases c26 : ((rd_T38 l1 x17_1).f1.f0) = 0
           ·rw [if_pos c26] at H
            have c26b0 : (((rd_T38 l1 x17_1).f1.f0) == 0) = true := beq_iff_eq.mpr c26
            have c26b1 : (((rd_T38 l1 x17_1).f1.f0) != 0) = false := bne_eq_false_iff_eq.mpr c26
            clear c26
            (first | rw [c26b0] | (simp only [i64_w, i32_w]; rw [c26b0]) | skip)
            have H' := Aside0.mk H
            clear H
            obtain ⟨hcz27_0, hcz27_1, hcz27_2, hcz27_3, hfz27_0, hfz27_1, hfz27_2, hfz27_3⟩ := bf4 (w := w25) BK158
            go_wp2
            go_meet
            case rel => exact ⟨_, (t162), (by first | rfl | (simp; done) | (simp [*]; done)), H', ⟨by have := HK1.out; have := HJ10.out; first | omega | exact Nat.le_refl _⟩, ⟨by (with_reducible repeat (first | apply Kd.R_alloc | apply Kd.R_drewN | apply Kd.R_drew)); exact HO_5.out⟩, ⟨by (with_reducible repeat (first | refine blk_drewN ?_ _ | refine blk_drew ?_ | refine blk_alloc ?_ _)); exact BK158.out⟩, ⟨by repeat (first | (with_reducible first | exact HB.out | apply below_alloc | apply pw_below_drewN | apply below_drew1 | refine below_set ?_ GE158.out) | exact HB.out)⟩⟩
           ·rw [if_neg c26] at H
            have c26b0 : (((rd_T38 l1 x17_1).f1.f0) == 0) = false := beq_eq_false_iff_ne.mpr c26
            have c26b1 : (((rd_T38 l1 x17_1).f1.f0) != 0) = true := bne_iff_ne.mpr c26
            (first | rw [c26b0] | (simp only [i64_w, i32_w]; rw [c26b0]) | skip)
            have H' := Aside0.mk H
            clear H
            obtain ⟨hcz28_0, hcz28_1, hcz28_2, hcz28_3, hfz28_0, hfz28_1, hfz28_2, hfz28_3⟩ := bf4 (w := w25) BK158
            go_wp2
            go_meet
            case rel => exact ⟨_, (false), (by first | rfl | (simp; done) | (simp [*]; done)), H', ⟨by have := HK1.out; have := HJ10.out; first | omega | exact Nat.le_refl _⟩, ⟨by (with_reducible repeat (first | apply Kd.R_alloc | apply Kd.R_drewN | apply Kd.R_drew)); exact HO_5.out⟩, ⟨by (with_reducible repeat (first | refine blk_drewN ?_ _ | refine blk_drew ?_ | refine blk_alloc ?_ _)); exact BK158.out⟩, ⟨by repeat (first | (with_reducible first | exact HB.out | apply below_alloc | apply pw_below_drewN | apply below_drew1 | refine below_set ?_ GE158.out) | exact HB.out)⟩⟩
          case rest =>
           clear HC22
           try clear c1
           try clear p1
           try clear q1
           try clear hx1
           try clear c2
           try clear p2
           try clear c3
           try clear c4
           try clear p6
           try clear c8
           try clear c8b0
           try clear c9
           try clear c9b0
           try clear c10
           try clear c10b0
           try clear c15
           try clear p15
           try clear q15
           try clear hx15
           try clear c19
           try clear c20
           try clear c26
           try clear c26b0
           try clear c26b1
           try clear hcz13_0
           try clear hcz13_1
           try clear hcz13_2
           try clear hcz13_3
           try clear hcz17_0
           try clear hcz17_1
           try clear hcz17_2
           try clear hcz17_3
           try clear hcz19_0
           try clear hcz19_1
           try clear hcz19_2
           try clear hcz19_3
           try clear hcz23_0
           try clear hcz23_1
           try clear hcz23_2
           try clear hcz23_3
           try clear hcz27_0
           try clear hcz27_1
           try clear hcz27_2
           try clear hcz27_3
           try clear hcz28_0
           try clear hcz28_1
           try clear hcz28_2
           try clear hcz28_3
           try clear hfz13_0
           try clear hfz13_1
           try clear hfz13_2
           try clear hfz13_3
           try clear hfz17_0
           try clear hfz17_1
           try clear hfz17_2
           try clear hfz17_3
           try clear hfz19_0
           try clear hfz19_1
           try clear hfz19_2
           try clear hfz19_3
           try clear hfz23_0
           try clear hfz23_1
           try clear hfz23_2
           try clear hfz23_3
           try clear hfz27_0
           try clear hfz27_1
           try clear hfz27_2
           try clear hfz27_3
           try clear hfz28_0
           try clear hfz28_1
           try clear hfz28_2
           try clear hfz28_3
           try clear hx157_0
           try clear hx157_1
           try clear hx157_2
           try clear hx157_3
           try clear p1
           try clear p15
           try clear p157
           try clear p2
           try clear q1
           try clear q15
           try clear q157
           obtain ⟨kq, x43_21, rfl, HA, HJ21, HO_5, BK158, HB⟩ := hcut
           cases kq with
           | zero => exact absurd HA.out (by simp [judge_Over.j2])
           | succ kj21 =>
            have H := HA.out
            clear HA
            simp only [judge_Over.j2] at H
            by_cases c29 : x43_21 = true
            ·subst c29
             have H1 : ((api_Pair_35.f x5_1 t161 (wrap64 (t161 + 1))).bind fun t163 => (judge_Over.l0 kj21 t163 l1 (l1.length : Int) (wrap64 (x17_1 + 1)))) = some r := by rw [if_pos rfl] at H; exact H
             clear H
             have H := H1
             clear H1
             replace H := Option.bind_eq_some_iff.mp H
             obtain ⟨t163, A300, H⟩ := H
             replace H : (judge_Over.l0 kj21 t163 l1 (l1.length : Int) (wrap64 (x17_1 + 1))) = some r := H
             have A30 := Aside0.mk A300
             clear A300
             have H' := Aside0.mk H
             clear H
             go_wp2_with (first | ((with_reducible refine gate_callee (f := 35) rfl ?_); refine goesL_ (some 55) rfl rfl Try.func35 (by kernel_rfl) rfl #[.slice Ao24 x5_1.length co24, .int .i64 t161, .int .i64 (wrap64 (t161 + 1))] rfl (by (try simp only [List.map_toArray, List.map_cons, List.map_nil]); first | done | rfl | (simp only [List.length_drop, List.length_take]; rfl)) ?_; (with_reducible refine (api_Pair_35.calls (fun k_ => some k_ = (.slice Ao24 x5_1.length co24 : Value).ownBlock) (.slice Ao24 x5_1.length co24) x5_1 t161 (wrap64 (t161 + 1)) t163 w _ ?side1 ?side2 A30.out).mono ?_); (case side1 => repeat (first | (with_reducible first | exact HB.out | apply below_alloc | apply pw_below_drewN | apply below_drew1 | refine below_set ?_ GE158.out) | exact HB.out)); (case side2 => exact Kd.R_tight rfl HO_5.out); rintro e w31 ⟨v164, rfl, ho0, hb, hkp⟩; refine ⟨_, rfl, ?_⟩; have HO165 := Aside0.mk (Kd.R_mono (ok' := fun k_ => k_ ≠ gb158) ho0 (fun k_ hk_ => Or.elim hk_ (fun hs_ => fun e_ => (Kd.R_away HO_5.out (fun _ hk => hk)) (by rw [← e_]; exact hs_)) (fun hn_ => (Kd.freshB (bQ BK158) k_ hn_)))); replace BK158 := Aside0.mk (blk_kept (bQ BK158) hkp (fun hs_ => (fun e_ => (Kd.R_away HO_5.out (fun _ hk => hk)) e_) hs_)); replace HB := Aside0.mk (hb); clear HO_5; (try clear hb); (try clear hkp); (try clear ho0)))
             go_roundg kj21
             case measure => have := HK1.out; have := HJ10.out; have := HJ21.out; omega
             case rel => exact ⟨(t163), (wrap64 (x17_1 + 1)), (by first | rfl | (simp; done) | (simp [*]; done)), H', ⟨by have := HK1.out; have := HJ10.out; have := HJ21.out; omega⟩, ⟨by (with_reducible repeat (first | apply Kd.R_alloc | apply Kd.R_drewN | apply Kd.R_drew)); exact Kd.R_mono HO165.out (fun _ hk => trivial)⟩, ⟨by repeat (first | (with_reducible first | exact HB.out | apply below_alloc | apply pw_below_drewN | apply below_drew1 | refine below_set ?_ GE158.out) | exact HB.out)⟩⟩
            ·replace c29 := Bool.eq_false_iff.mpr c29
             subst c29
             have H1 : (if ((rd_T38 l1 x17_1).f1.f0) = 0 then (judge_Over.l0 kj21 x5_1 l1 (l1.length : Int) (wrap64 (x17_1 + 1))) else (if t162 = true then (if 0 ≤ t161 then (if t161 < (x5_1.length : Int) then (judge_Over.l0 kj21 (x5_1.set (t161 : Int).toNat (⟨((rd_T38 l1 x17_1).f0), (⟨((rd_T38 l1 x17_1).f1.f0), ((rd_T38 l1 x17_1).f1.f1), ((rd_T38 l1 x17_1).f1.f2)⟩ : S31)⟩ : S38)) l1 (l1.length : Int) (wrap64 (x17_1 + 1))) else (none)) else (none)) else ((api_Pair_36.f x5_1 t161 (([(⟨((rd_T38 l1 x17_1).f0), (⟨((rd_T38 l1 x17_1).f1.f0), ((rd_T38 l1 x17_1).f1.f1), ((rd_T38 l1 x17_1).f1.f2)⟩ : S31)⟩ : S38)] : List (S38)))).bind fun bt170 => (judge_Over.l0 kj21 bt170.1 l1 (l1.length : Int) (wrap64 (x17_1 + 1)))))) = some r := by rw [if_neg (show ¬ (false = true) by decide)] at H; exact H
             clear H
             have H := H1
             clear H1
             by_cases c32 : ((rd_T38 l1 x17_1).f1.f0) = 0
             ·rw [if_pos c32] at H
              have c32b0 : (((rd_T38 l1 x17_1).f1.f0) == 0) = true := beq_iff_eq.mpr c32
              have c32b1 : (((rd_T38 l1 x17_1).f1.f0) != 0) = false := bne_eq_false_iff_eq.mpr c32
              clear c32
              have H' := Aside0.mk H
              clear H
              obtain ⟨hcz33_0, hcz33_1, hcz33_2, hcz33_3, hfz33_0, hfz33_1, hfz33_2, hfz33_3⟩ := bf4 (w := wc) BK158
              go_wp2
              go_roundg kj21
              case measure => have := HK1.out; have := HJ10.out; have := HJ21.out; omega
              case rel => exact ⟨(x5_1), (wrap64 (x17_1 + 1)), (by first | rfl | (simp; done) | (simp [*]; done)), H', ⟨by have := HK1.out; have := HJ10.out; have := HJ21.out; omega⟩, ⟨by (with_reducible repeat (first | apply Kd.R_alloc | apply Kd.R_drewN | apply Kd.R_drew)); exact Kd.R_mono HO_5.out (fun _ hk => trivial)⟩, ⟨by repeat (first | (with_reducible first | exact HB.out | apply below_alloc | apply pw_below_drewN | apply below_drew1 | refine below_set ?_ GE158.out) | exact HB.out)⟩⟩
             ·rw [if_neg c32] at H
              have c32b0 : (((rd_T38 l1 x17_1).f1.f0) == 0) = false := beq_eq_false_iff_ne.mpr c32
              have c32b1 : (((rd_T38 l1 x17_1).f1.f0) != 0) = true := bne_iff_ne.mpr c32
              by_cases c34 : t162 = true
              ·subst c34
               have H1 : (if 0 ≤ t161 then (if t161 < (x5_1.length : Int) then (judge_Over.l0 kj21 (x5_1.set (t161 : Int).toNat (⟨((rd_T38 l1 x17_1).f0), (⟨((rd_T38 l1 x17_1).f1.f0), ((rd_T38 l1 x17_1).f1.f1), ((rd_T38 l1 x17_1).f1.f2)⟩ : S31)⟩ : S38)) l1 (l1.length : Int) (wrap64 (x17_1 + 1))) else (none)) else (none)) = some r := by rw [if_pos rfl] at H; exact H
               clear H
               have H := H1
               clear H1
               by_cases c35 : 0 ≤ t161
               ·rw [if_pos c35] at H
                have c35b0 : decide (0 ≤ t161) = true := decide_eq_true c35
                clear c35
                by_cases c36 : t161 < (x5_1.length : Int)
                ·rw [if_pos c36] at H
                 have c36b0 : decide (t161 < (x5_1.length : Int)) = true := decide_eq_true c36
                 clear c36
                 obtain ⟨y166, hy166⟩ : ∃ y_ : List (S38), y_ = (x5_1.set (t161 : Int).toNat (⟨((rd_T38 l1 x17_1).f0), (⟨((rd_T38 l1 x17_1).f1.f0), ((rd_T38 l1 x17_1).f1.f1), ((rd_T38 l1 x17_1).f1.f2)⟩ : S31)⟩ : S38)) := ⟨_, rfl⟩
                 replace H : (judge_Over.l0 kj21 y166 l1 (l1.length : Int) (wrap64 (x17_1 + 1))) = some r := by first | (rw [hy166]; with_reducible exact H) | (have H2_ := (Option.bind_some _ _).symm.trans H; rw [hy166]; with_reducible exact H2_) | (have H2_ := (Option.bind_some _ _).symm.trans H; with_reducible exact H2_) | with_reducible exact H | (rw [hy166]; exact H) | exact H
                 have Ny166 := Aside0.mk hy166
                 clear hy166
                 have H' := Aside0.mk H
                 clear H
                 obtain ⟨hcz38_0, hcz38_1, hcz38_2, hcz38_3, hfz38_0, hfz38_1, hfz38_2, hfz38_3⟩ := bf4 (w := wc) BK158
                 have p37 : 0 ≤ (t161 : Int) := of_decide_eq_true (by first | (with_reducible assumption) | assumption)
                 have q37 : (t161 : Int) < ((x5_1.length : Int) : Int) := of_decide_eq_true (by first | (with_reducible assumption) | assumption)
                 obtain ⟨go37, co37, eo37, gb37, gl37, cl37, HG37⟩ := Kd.R_form HO_5.out (by omega)
                 (first | cases eo37 | (injection eo37 with ea_ en_ ec_; (first | subst ea_ | (injection ea_ with ea_; subst ea_)); subst ec_; clear en_))
                 have GB37 := Aside0.mk gb37
                 have GG37 := Aside0.mk HG37
                 clear gb37 gl37 HG37
                 obtain ⟨ce37, hcl37, hM37, hcc37, hfr37⟩ := Kd.R_elem HO_5.out z38 (t161 : Int) p37 q37
                 obtain rfl := k38_openM hM37
                 have hx37_0 : wc.cell? ⟨go37, (t161 : Int).toNat * 4, none⟩ = some (.string ((rd_T38 x5_1 t161).f0)) := hcc37 0 _ rfl
                 have hx37_1 : wc.cell? ⟨go37, (t161 : Int).toNat * 4 + 1, none⟩ = some (.int .i64 ((rd_T38 x5_1 t161).f1.f0)) := hcc37 1 _ rfl
                 have hx37_2 : wc.cell? ⟨go37, (t161 : Int).toNat * 4 + 2, none⟩ = some (.float .f64 ((rd_T38 x5_1 t161).f1.f1)) := hcc37 2 _ rfl
                 have hx37_3 : wc.cell? ⟨go37, (t161 : Int).toNat * 4 + 3, none⟩ = some (.string ((rd_T38 x5_1 t161).f1.f2)) := hcc37 3 _ rfl
                 have hf37_0 : wc.frozen? ⟨go37, (t161 : Int).toNat * 4, none⟩ = false := hfr37 0
                 have hf37_1 : wc.frozen? ⟨go37, (t161 : Int).toNat * 4 + 1, none⟩ = false := hfr37 1
                 have hf37_2 : wc.frozen? ⟨go37, (t161 : Int).toNat * 4 + 2, none⟩ = false := hfr37 2
                 have hf37_3 : wc.frozen? ⟨go37, (t161 : Int).toNat * 4 + 3, none⟩ = false := hfr37 3
                 clear hcl37 hcc37 hfr37 hM37
                 replace p37 := eq_true p37
                 replace q37 := eq_true q37
                 have HX39 := Aside0.mk (show Kd.R k38 38 wc w.heap.size (fun k_ => k_ ≠ gb158) (.slice (some ⟨go37, 0, none⟩) x5_1.length co24) x5_1 from (by (with_reducible repeat (first | apply Kd.R_alloc | apply Kd.R_drewN | apply Kd.R_drew)); exact HO_5.out))
                 obtain ⟨ce39, hcl39, hM39, hcc39, hfr39⟩ := Kd.R_elem HX39.out z38 (t161 : Int) (of_decide_eq_true (by first | (with_reducible assumption) | assumption)) (by have h_ : (t161 : Int) < ((x5_1.length : Int) : Int) := of_decide_eq_true (by first | (with_reducible assumption) | assumption); first | exact h_ | (have e_ := (Kd.R_reads' HO_5.out).1; omega) | simpa using h_)
                 obtain rfl := k38_openM hM39
                 have HP39 := Kd.R_seg HX39.out (t161 : Int) (of_decide_eq_true (by first | (with_reducible assumption) | assumption)) (by have h_ : (t161 : Int) < ((x5_1.length : Int) : Int) := of_decide_eq_true (by first | (with_reducible assumption) | assumption); first | exact h_ | (have e_ := (Kd.R_reads' HO_5.out).1; omega) | simpa using h_) (seg := [.string ((rd_T38 l1 x17_1).f0), .int .i64 ((rd_T38 l1 x17_1).f1.f0), .float .f64 ((rd_T38 l1 x17_1).f1.f1), .string ((rd_T38 l1 x17_1).f1.f2)]) (j := 0) hcl39 hcc39 (show 4 ≤ 4 from by decide) (x' := (⟨((rd_T38 l1 x17_1).f0), (⟨((rd_T38 l1 x17_1).f1.f0), ((rd_T38 l1 x17_1).f1.f1), ((rd_T38 l1 x17_1).f1.f2)⟩ : S31)⟩ : S38)) (k38_mkM _ _ _ (⟨((rd_T38 l1 x17_1).f0), (⟨((rd_T38 l1 x17_1).f1.f0), ((rd_T38 l1 x17_1).f1.f1), ((rd_T38 l1 x17_1).f1.f2)⟩ : S31)⟩ : S38) ) (fun _ hk => hk)
                 have hx39_0 := hcc39 0 _ rfl
                 (try simp only [show (k38).sz = 4 from rfl, Nat.mul_one, Nat.add_zero] at hx39_0)
                 have hf39_0 := hfr39 0
                 (try simp only [show (k38).sz = 4 from rfl, Nat.mul_one, Nat.add_zero] at hf39_0)
                 have hx39_1 := hcc39 1 _ rfl
                 (try simp only [show (k38).sz = 4 from rfl, Nat.mul_one, Nat.add_zero] at hx39_1)
                 have hf39_1 := hfr39 1
                 (try simp only [show (k38).sz = 4 from rfl, Nat.mul_one, Nat.add_zero] at hf39_1)
                 have hx39_2 := hcc39 2 _ rfl
                 (try simp only [show (k38).sz = 4 from rfl, Nat.mul_one, Nat.add_zero] at hx39_2)
                 have hf39_2 := hfr39 2
                 (try simp only [show (k38).sz = 4 from rfl, Nat.mul_one, Nat.add_zero] at hf39_2)
                 have hx39_3 := hcc39 3 _ rfl
                 (try simp only [show (k38).sz = 4 from rfl, Nat.mul_one, Nat.add_zero] at hx39_3)
                 have hf39_3 := hfr39 3
                 (try simp only [show (k38).sz = 4 from rfl, Nat.mul_one, Nat.add_zero] at hf39_3)
                 clear hcl39 hcc39 hfr39 hM39
                 go_wp2_with (first | ((with_reducible refine gate_store (t := 38) (p := 66) rfl ?_); refine store_event (t := 38) (p := 66) (v := ?vo_w40) (w1 := ((((wc.setCell ⟨go37, (t161 : Int).toNat * 4, none⟩ (.string ((rd_T38 l1 x17_1).f0))).setCell ⟨go37, (t161 : Int).toNat * 4 + 1, none⟩ (.int .i64 ((rd_T38 l1 x17_1).f1.f0))).setCell ⟨go37, (t161 : Int).toNat * 4 + 2, none⟩ (.float .f64 ((rd_T38 l1 x17_1).f1.f1))).setCell ⟨go37, (t161 : Int).toNat * 4 + 3, none⟩ (.string ((rd_T38 l1 x17_1).f1.f2)))) ?hg ?ho ?hn ?hr ?_; (case ho => rfl); (case hg => rfl); (case hn => rfl); (case hr => first | (go_simp; done) | (go_simp; rfl)); intro w40 hw; have hg : wc.grownBy w40 (some go37) := (by rw [hw]; exact HP39.2); have hp_ : Kd.R k38 38 w40 w.heap.size (fun k_ => k_ ≠ gb158) (.slice (some ⟨go37, 0, none⟩) x5_1.length co24) y166 := (by rw [hw, Ny166.out]; exact HP39.1); clear HP39; replace BK158 := Aside0.mk (blk_grown (bQ BK158) hg (Kd.R_away HO_5.out (fun _ hk => hk))); replace HO_5 := Aside0.mk (hp_); replace HB := Aside0.mk ((by rw [hw]; exact below_set (below_set (below_set (below_set (HB.out) GB37.out) GB37.out) GB37.out) GB37.out : Below w.heap.size w w40)); clear hg hw hp_))
                 go_roundg kj21
                 case measure => have := HK1.out; have := HJ10.out; have := HJ21.out; omega
                 case rel => exact ⟨(y166), (wrap64 (x17_1 + 1)), (by first | rfl | (simp; done) | (simp [*]; done)), H', ⟨by have := HK1.out; have := HJ10.out; have := HJ21.out; omega⟩, ⟨by (with_reducible repeat (first | apply Kd.R_alloc | apply Kd.R_drewN | apply Kd.R_drew)); exact Kd.R_mono HO_5.out (fun _ hk => trivial)⟩, ⟨by repeat (first | (with_reducible first | exact HB.out | apply below_alloc | apply pw_below_drewN | apply below_drew1 | refine below_set ?_ GE158.out) | exact HB.out)⟩⟩
                ·rw [if_neg c36] at H
                 exact absurd H (by simp)
               ·rw [if_neg c35] at H
                exact absurd H (by simp)
              ·replace c34 := Bool.eq_false_iff.mpr c34
               subst c34
               have H1 : ((api_Pair_36.f x5_1 t161 (([(⟨((rd_T38 l1 x17_1).f0), (⟨((rd_T38 l1 x17_1).f1.f0), ((rd_T38 l1 x17_1).f1.f1), ((rd_T38 l1 x17_1).f1.f2)⟩ : S31)⟩ : S38)] : List (S38)))).bind fun bt170 => (judge_Over.l0 kj21 bt170.1 l1 (l1.length : Int) (wrap64 (x17_1 + 1)))) = some r := by rw [if_neg (show ¬ (false = true) by decide)] at H; exact H
               clear H
               have H := H1
               clear H1
               obtain ⟨y167, hy167⟩ : ∃ y_ : List (S38), y_ = (([(⟨((rd_T38 l1 x17_1).f0), (⟨((rd_T38 l1 x17_1).f1.f0), ((rd_T38 l1 x17_1).f1.f1), ((rd_T38 l1 x17_1).f1.f2)⟩ : S31)⟩ : S38)] : List (S38))) := ⟨_, rfl⟩
               replace H : ((api_Pair_36.f x5_1 t161 y167).bind fun bt170 => (judge_Over.l0 kj21 bt170.1 l1 (l1.length : Int) (wrap64 (x17_1 + 1)))) = some r := by first | (rw [hy167]; with_reducible exact H) | (have H2_ := (Option.bind_some _ _).symm.trans H; rw [hy167]; with_reducible exact H2_) | (have H2_ := (Option.bind_some _ _).symm.trans H; with_reducible exact H2_) | with_reducible exact H | (rw [hy167]; exact H) | exact H
               have Ny167 := Aside0.mk hy167
               clear hy167
               replace H := Option.bind_eq_some_iff.mp H
               obtain ⟨⟨t170, t173⟩, A410, H⟩ := H
               replace H : (judge_Over.l0 kj21 t170 l1 (l1.length : Int) (wrap64 (x17_1 + 1))) = some r := H
               have A41 := Aside0.mk A410
               clear A410
               have H' := Aside0.mk H
               clear H
               obtain ⟨hcz42_0, hcz42_1, hcz42_2, hcz42_3, hfz42_0, hfz42_1, hfz42_2, hfz42_3⟩ := bf4 (w := wc) BK158
               go_wp2_with (first | ((with_reducible refine gate_dst (N := 41) rfl ?_); refine Kd.R_lit k38 _ 38 ?hg (N := 41) ?hd (xs := ([(⟨((rd_T38 l1 x17_1).f0), (⟨((rd_T38 l1 x17_1).f1.f0), ((rd_T38 l1 x17_1).f1.f1), ((rd_T38 l1 x17_1).f1.f2)⟩ : S31)⟩ : S38)] : List (S38))) (inner := [.string ((rd_T38 l1 x17_1).f0), .int .i64 ((rd_T38 l1 x17_1).f1.f0), .float .f64 ((rd_T38 l1 x17_1).f1.f1), .string ((rd_T38 l1 x17_1).f1.f2)]) (ok := fun _ => True) (okp := fun _ => True) ?hr ?hp (fun _ hk => hk) trivial (Below.refl _ _) (Nat.le_refl _) (by simp) ?_; (case hd => rfl); (case hg => rfl); (case hr => first | (go_simp; done) | (go_simp; rfl)); (case hp => exact (Reps.c4 (show Kd.M k38 _ _ _ (⟨((rd_T38 l1 x17_1).f0), (⟨((rd_T38 l1 x17_1).f1.f0), ((rd_T38 l1 x17_1).f1.f1), ((rd_T38 l1 x17_1).f1.f2)⟩ : S31)⟩ : S38) [.string ((rd_T38 l1 x17_1).f0), .int .i64 ((rd_T38 l1 x17_1).f1.f0), .float .f64 ((rd_T38 l1 x17_1).f1.f1), .string ((rd_T38 l1 x17_1).f1.f2)] from (k38_mkM _ _ _ (⟨((rd_T38 l1 x17_1).f0), (⟨((rd_T38 l1 x17_1).f1.f0), ((rd_T38 l1 x17_1).f1.f1), ((rd_T38 l1 x17_1).f1.f2)⟩ : S31)⟩ : S38) )) (Reps.none _ _))); intro v168 w43 ho44 hb hg_ hnew_; clear hg_ hnew_; (first | rw [← Ny167.out] at ho44 | (simp only [Int.reduceToNat] at ho44; rw [← Ny167.out] at ho44)); have HO169 := Aside0.mk (Kd.R_lower (Kd.R_newB (Kd.R_new' ho44 (Kd.R_lt (by (with_reducible repeat (first | apply Kd.R_alloc | apply Kd.R_drewN | apply Kd.R_drew)); exact HO_5.out))) (bQ BK158)) (below_size (bC HB))); replace HO_5 := Aside0.mk (Kd.R_elder' (by (with_reducible repeat (first | apply Kd.R_alloc | apply Kd.R_drewN | apply Kd.R_drew)); exact HO_5.out) (Kd.R_base ho44) hb); replace BK158 := bB BK158 hb; replace HB := bW HB hb; clear hb ho44; obtain ⟨Ao45, co45, eo45⟩ := Kd.R_slice HO169.out; subst eo45) | ((with_reducible refine gate_callee (f := 36) rfl ?_); refine goesL_ (some 42) rfl rfl Try.func36 (by kernel_rfl) rfl #[.slice Ao24 x5_1.length co24, .int .i64 t161, .slice Ao45 y167.length co45] rfl (by (try simp only [List.map_toArray, List.map_cons, List.map_nil]); first | done | rfl | (simp only [List.length_drop, List.length_take]; rfl)) ?_; (with_reducible refine (api_Pair_36.calls (fun k_ => some k_ = (.slice Ao24 x5_1.length co24 : Value).ownBlock) (.slice Ao24 x5_1.length co24) x5_1 t161 (fun k_ => some k_ = (.slice Ao45 y167.length co45 : Value).ownBlock) (.slice Ao45 y167.length co45) y167 t170 t173 w _ ?side1 ?side2 ?side3 ?side4 ?side5 A41.out).mono ?_); (case side1 => repeat (first | (with_reducible first | exact HB.out | apply below_alloc | apply pw_below_drewN | apply below_drew1 | refine below_set ?_ GE158.out) | exact HB.out)); (case side2 => exact Kd.R_tight rfl HO_5.out); (case side3 => exact fun k_ e_ => (HO_5.out.1 k_ e_.symm).2); (case side4 => exact Kd.R_tight rfl HO169.out); (case side5 => exact fun k_ e_ => (HO169.out.1 k_ e_.symm).1.2); rintro e w46 ⟨v171, rfl, ho0, hy0, hb, hkp⟩; refine ⟨_, rfl, ?_⟩; have HO172 := Aside0.mk (Kd.R_mono (ok' := fun k_ => some k_ ≠ (.slice Ao45 y167.length co45 : Value).ownBlock ∧ k_ ≠ gb158) ho0 (fun k_ hk_ => ⟨hk_.2, Or.elim hk_.1 (fun hs_ => Or.elim hs_ (fun hs_ => fun e_ => (Kd.R_away HO_5.out (fun _ hk => hk.1)) (by rw [← e_]; exact hs_)) (fun hs_ => fun e_ => (Kd.R_away HO169.out (fun _ hk => hk.2)) (by rw [← e_]; exact hs_))) (fun hn_ => (Kd.freshB (bQ BK158) k_ hn_))⟩)); replace BK158 := Aside0.mk (blk_kept (bQ BK158) hkp (fun hs_ => Or.elim hs_ (fun e_ => (fun e_ => (Kd.R_away HO_5.out (fun _ hk => hk.1)) e_) e_) (fun e_ => (fun e_ => (Kd.R_away HO169.out (fun _ hk => hk.2)) e_) e_))); replace HO169 := Aside0.mk (Kd.R_reok rfl hy0 (fun k_ e_ => HO169.out.1 k_ e_)); replace HB := Aside0.mk (hb); clear HO_5; (try clear hb); (try clear hkp); (try clear ho0); (try clear hy0)))
               go_roundg kj21
               case measure => have := HK1.out; have := HJ10.out; have := HJ21.out; omega
               case rel => exact ⟨(t170), (wrap64 (x17_1 + 1)), (by first | rfl | (simp; done) | (simp [*]; done)), H', ⟨by have := HK1.out; have := HJ10.out; have := HJ21.out; omega⟩, ⟨by (with_reducible repeat (first | apply Kd.R_alloc | apply Kd.R_drewN | apply Kd.R_drew)); exact Kd.R_mono HO172.out (fun _ hk => trivial)⟩, ⟨by repeat (first | (with_reducible first | exact HB.out | apply below_alloc | apply pw_below_drewN | apply below_drew1 | refine below_set ?_ GE158.out) | exact HB.out)⟩⟩
      ·rw [if_neg c10] at H
       exact absurd H (by simp)
     ·rw [if_neg c9] at H
      exact absurd H (by simp)
    ·rw [if_neg c8] at H
     have c8b0 : decide (x17_1 < (l1.length : Int)) = false := decide_eq_false c8
     clear c8
     obtain rfl := Option.some.inj H
     go_wp2
     go_ret
     exact ⟨_, by first | rfl | (simp [errW_none, errW_some] <;> rfl) | (simp [*, errW_none, errW_some] <;> rfl), by (with_reducible repeat (first | apply Kd.R_alloc | apply Kd.R_drewN | apply Kd.R_drew)); exact HO_5.out, by repeat (first | (with_reducible first | exact HB.out | apply below_alloc | apply pw_below_drewN | apply below_drew1) | exact HB.out)⟩
 ·replace c4 := Bool.eq_false_iff.mpr c4
  subst c4
  have H1 : (some ([] : List (S38))) = some r := by rw [if_neg (show ¬ (false = true) by decide)] at H; exact H
  clear H
  have H := H1
  clear H1
  obtain rfl := Option.some.inj H
  go_enter Try.func19, Try.ntmps19
  go_wp2_with (first | ((with_reducible refine gate_callee (f := 10) rfl ?_); refine goesL_ (some 11) rfl rfl Try.func10 (by kernel_rfl) rfl #[.slice A0 l0.length c0] rfl (by (try simp only [List.map_toArray, List.map_cons, List.map_nil]); first | done | rfl | (simp only [List.length_drop, List.length_take]; rfl)) ?_; (with_reducible refine (judge_Sorted.calls k _ _ l0 false _ ?side1 ?side2 A3.out).mono ?_); (case side1 => repeat (first | exact HR0.out | (with_reducible refine Kd.C_alloc ?_ _) | (with_reducible refine Kd.C_drewN ?_ _) | (with_reducible refine Kd.C_drew ?_))); (case side2 => exact HC0.out); rintro e w47 ⟨rfl, hb⟩; refine ⟨_, rfl, ?_⟩; replace HB := bW HB hb; (try clear hb); (try clear hb2); (try clear hk); (try clear hi)))
  go_ret
  exact ⟨_, by first | rfl | (simp [errW_none, errW_some] <;> rfl) | (simp [*, errW_none, errW_some] <;> rfl), by first | exact Kd.R_nil _ _ _ _ _ | exact Kd.N_nil _ _ _ _ _ | exact Kd.V_nil _ _ _ _ _ | exact Kd.Q_nil _ _ _ _ _ | exact Kd.S_nil _ _ _ _ _, by repeat (first | (with_reducible first | exact HB.out | apply below_alloc | apply pw_below_drewN | apply below_drew1) | exact HB.out)⟩

end Go.Proofs.Ytppbdngfiphliaa.P
