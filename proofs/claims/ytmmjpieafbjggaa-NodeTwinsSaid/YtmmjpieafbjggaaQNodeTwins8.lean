/- The law NodeTwins returns true for every input: the words, the walks and the plain statement that its row needs. No condition. (Merged by a program of this session out of its own texts.) -/
import Derived.ArgAppend
import Derived.Below
import Derived.BigQuiet
import Derived.Deep.AppendLies
import Derived.Deep.CutBlock
import Derived.Deep.DeepCutAuto
import Derived.Deep.Draws
import Derived.Deep.LoopGhost
import Derived.Deep.OwnRows
import Derived.Deep.QuietTactic
import Derived.Deep.RegionHeld3
import Derived.KernelRfl
import Derived.Laws.BitsLemmas
import Derived.Laws.BytesArg
import Derived.Laws.Cover2
import Derived.Laws.Externs
import Derived.Laws.FloatArith
import Derived.Laws.IdiomCopy
import Derived.Laws.MakeOwn
import Derived.Laws.OwnMore
import Derived.Laws.Rows
import Derived.Laws.Slices
import Derived.Laws.StructEq
import Derived.Lib.AppendStr
import Derived.Lib.ConvBytes
import Derived.Maps.AppendAt
import Derived.OrdersHeld
import Derived.OwnWalk
import Derived.RowKit
import Derived.RowKit3
import Derived.Tactics
import Derived.Test.YtmmjpieafbjggaaProg
import Derived.WalkKit
import Derived.WideLaws
import Derived.Test.YtmmjpieafbjggaaQNodeTwins4
import Derived.Test.YtmmjpieafbjggaaQNodeTwins5
import Derived.Test.YtmmjpieafbjggaaQNodeTwins6
import Derived.Test.YtmmjpieafbjggaaQNodeTwins7
section
namespace Go.Proofs.Ytmmjpieafbjggaa.P
open Go.RowKit Go.Proofs.YtmmjpieafbjggaaW.PrintWords Go.Proofs.YtmmjpieafbjggaaW.PrintLast Go.Proofs.YtmmjpieafbjggaaW.PrintMore
attribute [local go_sem] max2_int min2_int max_two min_two max_three min_three max_four min_four   -- for this text's walks alone
attribute [local go_sem] x_str_gtr x_str_leq x_str_geq ext_bits ext_frombits ext_neg x_store_float Instr.field asAgg
set_option linter.unusedVariables false
set_option linter.unusedSimpArgs false
mutual
def engrossref10_EqNode.j0 : Nat → Bool → Bool → List (S56) → List ByteArray → List Int → Bool → List (S56) → List ByteArray → List Int → Option (Bool)
 | 0, _, _, _, _, _, _, _, _, _ => none
 | k + 1, x39, x527000, x527001, x527002, x527003, x528000, x528001, x528002, x528003 => if x39 = true then (some false) else (engrossref10_EqNode.l0 k 0 x527000 x527001 x527002 x527003 x528000 x528001 x528002 x528003)
def engrossref10_EqNode.l0 : Nat → Int → Bool → List (S56) → List ByteArray → List Int → Bool → List (S56) → List ByteArray → List Int → Option (Bool)
 | 0, _, _, _, _, _, _, _, _, _ => none
 | k + 1, x5, x527000, x527001, x527002, x527003, x528000, x528001, x528002, x528003 => if x5 < (x527001.length : Int) then (if 0 ≤ x5 then (if x5 < (x528001.length : Int) then ((engrossref10_Eq.f ((rd_T56 x527001 x5).f0) ((rd_T56 x527001 x5).f1.f0) ((rd_T56 x527001 x5).f1.f1) ((rd_T56 x527001 x5).f1.f2) ((rd_T56 x527001 x5).f2) ((rd_T56 x527001 x5).f3.f0) ((rd_T56 x527001 x5).f3.f1) ((rd_T56 x527001 x5).f3.f2) ((rd_T56 x528001 x5).f0) ((rd_T56 x528001 x5).f1.f0) ((rd_T56 x528001 x5).f1.f1) ((rd_T56 x528001 x5).f1.f2) ((rd_T56 x528001 x5).f2) ((rd_T56 x528001 x5).f3.f0) ((rd_T56 x528001 x5).f3.f1) ((rd_T56 x528001 x5).f3.f2)).bind fun t530 => (if t530 = true then (engrossref10_EqNode.l0 k (wrap64 (x5 + 1)) x527000 x527001 x527002 x527003 x528000 x528001 x528002 x528003) else (some false))) else (none)) else (none)) else (engrossref10_EqNode.l1 k 0 x527000 x527001 x527002 x527003 x528000 x528001 x528002 x528003)
def engrossref10_EqNode.l1 : Nat → Int → Bool → List (S56) → List ByteArray → List Int → Bool → List (S56) → List ByteArray → List Int → Option (Bool)
 | 0, _, _, _, _, _, _, _, _, _ => none
 | k + 1, x6, x527000, x527001, x527002, x527003, x528000, x528001, x528002, x528003 => if x6 < (x527002.length : Int) then (if 0 ≤ x6 then (if x6 < (x528002.length : Int) then (if (rdOf ByteArray.empty x527002 x6).toList = (rdOf ByteArray.empty x528002 x6).toList then (engrossref10_EqNode.l1 k (wrap64 (x6 + 1)) x527000 x527001 x527002 x527003 x528000 x528001 x528002 x528003) else (some false)) else (none)) else (none)) else (engrossref10_EqNode.l2 k 0 x527000 x527001 x527002 x527003 x528000 x528001 x528002 x528003)
def engrossref10_EqNode.l2 : Nat → Int → Bool → List (S56) → List ByteArray → List Int → Bool → List (S56) → List ByteArray → List Int → Option (Bool)
 | 0, _, _, _, _, _, _, _, _, _ => none
 | k + 1, x7, x527000, x527001, x527002, x527003, x528000, x528001, x528002, x528003 => if x7 < (x527003.length : Int) then (if 0 ≤ x7 then (if x7 < (x528003.length : Int) then (if (rd x527003 x7) = (rd x528003 x7) then (engrossref10_EqNode.l2 k (wrap64 (x7 + 1)) x527000 x527001 x527002 x527003 x528000 x528001 x528002 x528003) else (some false)) else (none)) else (none)) else (some true)
end
def engrossref10_EqNode.f (k : Nat) (a0_0 : Bool) (l0_1 : List (S56)) (l0_2 : List ByteArray) (l0_3 : List Int) (a1_0 : Bool) (l1_1 : List (S56)) (l1_2 : List ByteArray) (l1_3 : List Int) : Option (Bool) := if (a0_0 != a1_0) = true then (engrossref10_EqNode.j0 k true a0_0 l0_1 l0_2 l0_3 a1_0 l1_1 l1_2 l1_3) else (if (l0_1.length : Int) = (l1_1.length : Int) then (if (l0_2.length : Int) = (l1_2.length : Int) then (engrossref10_EqNode.j0 k ((l0_3.length : Int) != (l1_3.length : Int)) a0_0 l0_1 l0_2 l0_3 a1_0 l1_1 l1_2 l1_3) else (engrossref10_EqNode.j0 k true a0_0 l0_1 l0_2 l0_3 a1_0 l1_1 l1_2 l1_3)) else (engrossref10_EqNode.j0 k true a0_0 l0_1 l0_2 l0_3 a1_0 l1_1 l1_2 l1_3))
def engrossref10_EqNode.T6 : Bool × List (List Nat × List Nat) := (true, [([], []), ([0], [0]), ([], []), ([1, 2], [1, 2]), ([3], [3]), ([], []), ([5], [5]), ([], []), ([6, 7], [6, 7]), ([8], [8]), ([4, 9], [4, 9]), ([10], [10])])
def engrossref10_EqNode.B6 : List Nat := [0, 1, 0, 7, 15, 0, 32, 0, 224, 480, 1023, 2047]
theorem engrossref10_EqNode.tab6 : rtab .any (opsOf Try.f23 6) = engrossref10_EqNode.T6 := by kernel_rfl
theorem engrossref10_EqNode.bits6 : waitsOk engrossref10_EqNode.T6.2 engrossref10_EqNode.B6 = true := by kernel_rfl
def engrossref10_EqNode.T11 : Bool × List (List Nat × List Nat) := (true, [([], []), ([0], [0]), ([], []), ([1, 2], [1, 2]), ([3], [3]), ([], []), ([5], [5]), ([], []), ([6, 7], [6, 7]), ([8], [8]), ([4, 9], [4, 9])])
def engrossref10_EqNode.B11 : List Nat := [0, 1, 0, 7, 15, 0, 32, 0, 224, 480, 1023]
theorem engrossref10_EqNode.tab11 : rtab .any (opsOf Try.f23 11) = engrossref10_EqNode.T11 := by kernel_rfl
theorem engrossref10_EqNode.bits11 : waitsOk engrossref10_EqNode.T11.2 engrossref10_EqNode.B11 = true := by kernel_rfl
def engrossref10_EqNode.T16 : Bool × List (List Nat × List Nat) := (true, [([], []), ([0], [0]), ([], []), ([1, 2], [1, 2]), ([3], [3]), ([], []), ([5], [5]), ([], []), ([6, 7], [6, 7]), ([8], [8]), ([4, 9], [4, 9])])
def engrossref10_EqNode.B16 : List Nat := [0, 1, 0, 7, 15, 0, 32, 0, 224, 480, 1023]
theorem engrossref10_EqNode.tab16 : rtab .any (opsOf Try.f23 16) = engrossref10_EqNode.T16 := by kernel_rfl
theorem engrossref10_EqNode.bits16 : waitsOk engrossref10_EqNode.T16.2 engrossref10_EqNode.B16 = true := by kernel_rfl
set_option maxHeartbeats 8000000 in
set_option maxRecDepth 100000 in
theorem engrossref10_EqNode.calls (k : Nat) (a0_0 : Bool) (A0_1 : Option Addr) (c0_1 : Nat) (l0_1 : List (S56)) (A0_2 : Option Addr) (c0_2 : Nat) (l0_2 : List ByteArray) (A0_3 : Option Addr) (c0_3 : Nat) (l0_3 : List Int) (a1_0 : Bool) (A1_1 : Option Addr) (c1_1 : Nat) (l1_1 : List (S56)) (A1_2 : Option Addr) (c1_2 : Nat) (l1_2 : List ByteArray) (A1_3 : Option Addr) (c1_3 : Nat) (l1_3 : List Int) (r : Bool) (w : World) (hr0_1 : Kd.C k56 w A0_1 l0_1.length l0_1) (hc0_1 : l0_1.length ≤ c0_1) (hr0_2 : Kd.C Kd.string w A0_2 l0_2.length l0_2) (hc0_2 : l0_2.length ≤ c0_2) (hr0_3 : Kd.C (Kd.int .i64) w A0_3 l0_3.length l0_3) (hc0_3 : l0_3.length ≤ c0_3) (hr1_1 : Kd.C k56 w A1_1 l1_1.length l1_1) (hc1_1 : l1_1.length ≤ c1_1) (hr1_2 : Kd.C Kd.string w A1_2 l1_2.length l1_2) (hc1_2 : l1_2.length ≤ c1_2) (hr1_3 : Kd.C (Kd.int .i64) w A1_3 l1_3.length l1_3) (hc1_3 : l1_3.length ≤ c1_3) (h : engrossref10_EqNode.f k a0_0 l0_1 l0_2 l0_3 a1_0 l1_1 l1_2 l1_3 = some r) :
  Calls Try.prog 23 #[.agg #[.bool a0_0, .slice A0_1 l0_1.length c0_1, .slice A0_2 l0_2.length c0_2, .slice A0_3 l0_3.length c0_3], .agg #[.bool a1_0, .slice A1_1 l1_1.length c1_1, .slice A1_2 l1_2.length c1_2, .slice A1_3 l1_3.length c1_3]] w fun e w' => e = .returned (.bool r) ∧ Below w.heap.size w w' := by
 have hu26 := Try.underlying26
 have hu56 := Try.underlying56
 have HR0_1 := Aside0.mk hr0_1
 have HC0_1 := Aside0.mk hc0_1
 clear hr0_1 hc0_1
 have HR0_2 := Aside0.mk hr0_2
 have HC0_2 := Aside0.mk hc0_2
 clear hr0_2 hc0_2
 have HR0_3 := Aside0.mk hr0_3
 have HC0_3 := Aside0.mk hc0_3
 clear hr0_3 hc0_3
 have HR1_1 := Aside0.mk hr1_1
 have HC1_1 := Aside0.mk hc1_1
 clear hr1_1 hc1_1
 have HR1_2 := Aside0.mk hr1_2
 have HC1_2 := Aside0.mk hc1_2
 clear hr1_2 hc1_2
 have HR1_3 := Aside0.mk hr1_3
 have HC1_3 := Aside0.mk hc1_3
 clear hr1_3 hc1_3
 have HB := Aside0.mk (Below.refl w.heap.size w)
 have H : (if (a0_0 != a1_0) = true then (engrossref10_EqNode.j0 k true a0_0 l0_1 l0_2 l0_3 a1_0 l1_1 l1_2 l1_3) else (if (l0_1.length : Int) = (l1_1.length : Int) then (if (l0_2.length : Int) = (l1_2.length : Int) then (engrossref10_EqNode.j0 k ((l0_3.length : Int) != (l1_3.length : Int)) a0_0 l0_1 l0_2 l0_3 a1_0 l1_1 l1_2 l1_3) else (engrossref10_EqNode.j0 k true a0_0 l0_1 l0_2 l0_3 a1_0 l1_1 l1_2 l1_3)) else (engrossref10_EqNode.j0 k true a0_0 l0_1 l0_2 l0_3 a1_0 l1_1 l1_2 l1_3))) = some r := h
 clear h
 have HC3 := Aside0.mk H
 clear H
 go_enter Try.func23, Try.ntmps23
 go_upto_region 1 with (first | ((with_reducible refine gate_dst (N := 2) rfl ?_); (try (refine gate_guard (by rfl) ?_; dsimp only)); refine box_event ?hg (N := 2) ?hd (cs := #[.bool a0_0, .slice A0_1 l0_1.length c0_1, .slice A0_2 l0_2.length c0_2, .slice A0_3 l0_3.length c0_3]) (t := 26) ?hr ?_; (case hd => rfl); (case hg => rfl); (case hr => first | (go_simp; done) | (go_simp; rfl)); intro gb526 hg w4 hbox hb; have BK526 := Aside0.mk (hbox); have GW526 := bZ HB hg; have GE526 := bZ HB hg; replace HB := bW HB hb; clear hb hbox hg) | ((with_reducible refine gate_dst (N := 3) rfl ?_); (try (refine gate_guard (by rfl) ?_; dsimp only)); refine box_event ?hg (N := 3) ?hd (cs := #[.bool a1_0, .slice A1_1 l1_1.length c1_1, .slice A1_2 l1_2.length c1_2, .slice A1_3 l1_3.length c1_3]) (t := 26) ?hr ?_; (case hd => rfl); (case hg => rfl); (case hr => first | (go_simp; done) | (go_simp; rfl)); intro gb527 hg w5 hbox hb; have BK527 := Aside0.mk (hbox); have GW527 := bZ HB hg; have GE527 := bZ HB hg; have NB526_527 := bL BK526 hg; have NB527_526 := bG BK526 hg; replace BK526 := bB BK526 hb; replace HB := bW HB hb; clear hb hbox hg))
 (try simp only [Act.put, List.setIfInBounds_toArray, List.set_cons_zero, List.set_cons_succ])
 go_cut [39] (fun v39 wc => ∃ (kq : Nat) (x39_2 : Bool), v39 = .bool x39_2 ∧ Aside0 (engrossref10_EqNode.j0 kq x39_2 a0_0 l0_1 l0_2 l0_3 a1_0 l1_1 l1_2 l1_3 = some r) ∧ Aside0 (kq ≤ k) ∧ Aside0 (wc.heap[gb526]? = some (.cells #[.bool a0_0, (.slice A0_1 l0_1.length c0_1), (.slice A0_2 l0_2.length c0_2), (.slice A0_3 l0_3.length c0_3)] 26 (0, 0))) ∧ Aside0 (wc.heap[gb527]? = some (.cells #[.bool a1_0, (.slice A1_1 l1_1.length c1_1), (.slice A1_2 l1_2.length c1_2), (.slice A1_3 l1_3.length c1_3)] 26 (0, 0))) ∧ Aside0 (Below w.heap.size w wc))
 case first =>
  have H := HC3.out
  clear HC3
  by_cases c6 : (a0_0 != a1_0) = true
  ·rw [if_pos c6] at H
   have c6b0 : (a0_0 != a1_0) = true := c6
   (try (have c6b1 : decide (a0_0 = a1_0) = false := by simpa using c6))
   (try (have c6b2 : (a0_0 == a1_0) = false := by simpa using c6))
   (try (have c6b3 : ¬ (a0_0 = a1_0) := by simpa using c6))
   clear c6
   (first | rw [c6b0] | (simp only [i64_w, i32_w]; rw [c6b0]) | skip)
   have H' := Aside0.mk H
   clear H
   have hnb7 := NB526_527.out
   have hnc7 := NB527_526.out
   obtain ⟨hcz8_0, hcz8_1, hcz8_2, hcz8_3, hfz8_0, hfz8_1, hfz8_2, hfz8_3⟩ := bf4 (w := w5) BK526
   obtain ⟨hcz9_0, hcz9_1, hcz9_2, hcz9_3, hfz9_0, hfz9_1, hfz9_2, hfz9_3⟩ := bf4 (w := w5) BK527
   go_wp2
   go_meet
   case rel => exact ⟨_, (true), (by first | rfl | (simp; done) | (simp [*]; done)), H', ⟨by first | omega | exact Nat.le_refl _⟩, ⟨by (with_reducible repeat (first | refine blk_drewN ?_ _ | refine blk_drew ?_ | refine blk_alloc ?_ _)); exact BK526.out⟩, ⟨by (with_reducible repeat (first | refine blk_drewN ?_ _ | refine blk_drew ?_ | refine blk_alloc ?_ _)); exact BK527.out⟩, ⟨by repeat (first | (with_reducible first | exact HB.out | apply below_alloc | apply pw_below_drewN | apply below_drew1 | refine below_set ?_ GE526.out | refine below_set ?_ GE527.out) | exact HB.out)⟩⟩
  rw [if_neg c6] at H
  have c6b0 : (a0_0 != a1_0) = false := by simpa using c6
  (try (have c6b1 : decide (a0_0 = a1_0) = true := by simpa using c6))
  (try (have c6b2 : (a0_0 == a1_0) = true := by simpa using c6))
  clear c6
  (first | rw [c6b0] | (simp only [i64_w, i32_w]; rw [c6b0]) | skip)
  by_cases c10 : (l0_1.length : Int) = (l1_1.length : Int)
  rotate_left
  ·rw [if_neg c10] at H
   have c10b0 : ((l0_1.length : Int) == (l1_1.length : Int)) = false := beq_eq_false_iff_ne.mpr c10
   have c10b1 : ((l0_1.length : Int) != (l1_1.length : Int)) = true := bne_iff_ne.mpr c10
   have c10b2 : (l0_1.length == l1_1.length) = false := by first | simpa using c10 | (simp at c10 ⊢; omega)
   have H' := Aside0.mk H
   clear H
   have hnb18 := NB526_527.out
   have hnc18 := NB527_526.out
   obtain ⟨hcz19_0, hcz19_1, hcz19_2, hcz19_3, hfz19_0, hfz19_1, hfz19_2, hfz19_3⟩ := bf4 (w := w5) BK526
   obtain ⟨hcz20_0, hcz20_1, hcz20_2, hcz20_3, hfz20_0, hfz20_1, hfz20_2, hfz20_3⟩ := bf4 (w := w5) BK527
   go_wp2
   go_meet
   case rel => exact ⟨_, (true), (by first | rfl | (simp; done) | (simp [*]; done)), H', ⟨by first | omega | exact Nat.le_refl _⟩, ⟨by (with_reducible repeat (first | refine blk_drewN ?_ _ | refine blk_drew ?_ | refine blk_alloc ?_ _)); exact BK526.out⟩, ⟨by (with_reducible repeat (first | refine blk_drewN ?_ _ | refine blk_drew ?_ | refine blk_alloc ?_ _)); exact BK527.out⟩, ⟨by repeat (first | (with_reducible first | exact HB.out | apply below_alloc | apply pw_below_drewN | apply below_drew1 | refine below_set ?_ GE526.out | refine below_set ?_ GE527.out) | exact HB.out)⟩⟩
  rw [if_pos c10] at H
  have c10b0 : ((l0_1.length : Int) == (l1_1.length : Int)) = true := beq_iff_eq.mpr c10
  have c10b1 : ((l0_1.length : Int) != (l1_1.length : Int)) = false := bne_eq_false_iff_eq.mpr c10
  have c10b2 : (l0_1.length == l1_1.length) = true := by first | simpa using c10 | (simp at c10 ⊢; omega)
  clear c10
  by_cases c11 : (l0_2.length : Int) = (l1_2.length : Int)
  rotate_left
  ·rw [if_neg c11] at H
   have c11b0 : ((l0_2.length : Int) == (l1_2.length : Int)) = false := beq_eq_false_iff_ne.mpr c11
   have c11b1 : ((l0_2.length : Int) != (l1_2.length : Int)) = true := bne_iff_ne.mpr c11
   have c11b2 : (l0_2.length == l1_2.length) = false := by first | simpa using c11 | (simp at c11 ⊢; omega)
   have H' := Aside0.mk H
   clear H
   have hnb15 := NB526_527.out
   have hnc15 := NB527_526.out
   obtain ⟨hcz16_0, hcz16_1, hcz16_2, hcz16_3, hfz16_0, hfz16_1, hfz16_2, hfz16_3⟩ := bf4 (w := w5) BK526
   obtain ⟨hcz17_0, hcz17_1, hcz17_2, hcz17_3, hfz17_0, hfz17_1, hfz17_2, hfz17_3⟩ := bf4 (w := w5) BK527
   go_wp2
   go_meet
   case rel => exact ⟨_, (true), (by first | rfl | (simp; done) | (simp [*]; done)), H', ⟨by first | omega | exact Nat.le_refl _⟩, ⟨by (with_reducible repeat (first | refine blk_drewN ?_ _ | refine blk_drew ?_ | refine blk_alloc ?_ _)); exact BK526.out⟩, ⟨by (with_reducible repeat (first | refine blk_drewN ?_ _ | refine blk_drew ?_ | refine blk_alloc ?_ _)); exact BK527.out⟩, ⟨by repeat (first | (with_reducible first | exact HB.out | apply below_alloc | apply pw_below_drewN | apply below_drew1 | refine below_set ?_ GE526.out | refine below_set ?_ GE527.out) | exact HB.out)⟩⟩
  rw [if_pos c11] at H
  have c11b0 : ((l0_2.length : Int) == (l1_2.length : Int)) = true := beq_iff_eq.mpr c11
  have c11b1 : ((l0_2.length : Int) != (l1_2.length : Int)) = false := bne_eq_false_iff_eq.mpr c11
  have c11b2 : (l0_2.length == l1_2.length) = true := by first | simpa using c11 | (simp at c11 ⊢; omega)
  clear c11
  have H' := Aside0.mk H
  clear H
  have hnb12 := NB526_527.out
  have hnc12 := NB527_526.out
  obtain ⟨hcz13_0, hcz13_1, hcz13_2, hcz13_3, hfz13_0, hfz13_1, hfz13_2, hfz13_3⟩ := bf4 (w := w5) BK526
  obtain ⟨hcz14_0, hcz14_1, hcz14_2, hcz14_3, hfz14_0, hfz14_1, hfz14_2, hfz14_3⟩ := bf4 (w := w5) BK527
  go_wp2
  go_meet
  case rel => exact ⟨_, (((l0_3.length : Int) != (l1_3.length : Int))), (by first | rfl | (simp; done) | (simp [*]; done)), H', ⟨by first | omega | exact Nat.le_refl _⟩, ⟨by (with_reducible repeat (first | refine blk_drewN ?_ _ | refine blk_drew ?_ | refine blk_alloc ?_ _)); exact BK526.out⟩, ⟨by (with_reducible repeat (first | refine blk_drewN ?_ _ | refine blk_drew ?_ | refine blk_alloc ?_ _)); exact BK527.out⟩, ⟨by repeat (first | (with_reducible first | exact HB.out | apply below_alloc | apply pw_below_drewN | apply below_drew1 | refine below_set ?_ GE526.out | refine below_set ?_ GE527.out) | exact HB.out)⟩⟩
 case rest =>
  clear HC3
  try clear c1
  try clear c2
  try clear p2
  try clear c6
  try clear c6b0
  try clear c6b1
  try clear c6b2
  try clear c7
  try clear c10
  try clear c10b0
  try clear c10b1
  try clear c10b2
  try clear c11
  try clear c11b0
  try clear c11b1
  try clear c11b2
  try clear c12
  try clear c15
  try clear c18
  try clear hcz13_0
  try clear hcz13_1
  try clear hcz13_2
  try clear hcz13_3
  try clear hcz14_0
  try clear hcz14_1
  try clear hcz14_2
  try clear hcz14_3
  try clear hcz16_0
  try clear hcz16_1
  try clear hcz16_2
  try clear hcz16_3
  try clear hcz17_0
  try clear hcz17_1
  try clear hcz17_2
  try clear hcz17_3
  try clear hcz19_0
  try clear hcz19_1
  try clear hcz19_2
  try clear hcz19_3
  try clear hcz20_0
  try clear hcz20_1
  try clear hcz20_2
  try clear hcz20_3
  try clear hcz8_0
  try clear hcz8_1
  try clear hcz8_2
  try clear hcz8_3
  try clear hcz9_0
  try clear hcz9_1
  try clear hcz9_2
  try clear hcz9_3
  try clear hfz13_0
  try clear hfz13_1
  try clear hfz13_2
  try clear hfz13_3
  try clear hfz14_0
  try clear hfz14_1
  try clear hfz14_2
  try clear hfz14_3
  try clear hfz16_0
  try clear hfz16_1
  try clear hfz16_2
  try clear hfz16_3
  try clear hfz17_0
  try clear hfz17_1
  try clear hfz17_2
  try clear hfz17_3
  try clear hfz19_0
  try clear hfz19_1
  try clear hfz19_2
  try clear hfz19_3
  try clear hfz20_0
  try clear hfz20_1
  try clear hfz20_2
  try clear hfz20_3
  try clear hfz8_0
  try clear hfz8_1
  try clear hfz8_2
  try clear hfz8_3
  try clear hfz9_0
  try clear hfz9_1
  try clear hfz9_2
  try clear hfz9_3
  obtain ⟨kq, x39_2, rfl, HA, HJ2, BK526, BK527, HB⟩ := hcut
  cases kq with
  | zero => exact absurd HA.out (by simp [engrossref10_EqNode.j0])
  | succ kj2 =>
   have H := HA.out
   clear HA
   simp only [engrossref10_EqNode.j0] at H
   by_cases c21 : x39_2 = true
   ·subst c21
    have H1 : (some false) = some r := by rw [if_pos rfl] at H; exact H
    clear H
    have H := H1
    clear H1
    obtain rfl := Option.some.inj H
    go_wp2
    go_ret
    exact xB HB
   replace c21 := Bool.eq_false_iff.mpr c21
   subst c21
   have H1 : (engrossref10_EqNode.l0 kj2 0 a0_0 l0_1 l0_2 l0_3 a1_0 l1_1 l1_2 l1_3) = some r := by rw [if_neg (show ¬ (false = true) by decide)] at H; exact H
   clear H
   have H := H1
   clear H1
   have H' := Aside0.mk H
   clear H
   go_wp2
   go_loopg [5] kj2 (fun kq v5 w' => ∃ (x5_2 : Int), v5 = .int .i64 x5_2 ∧ Aside0 (engrossref10_EqNode.l0 kq x5_2 a0_0 l0_1 l0_2 l0_3 a1_0 l1_1 l1_2 l1_3 = some r) ∧ Aside0 (kq ≤ kj2) ∧ Aside0 (w'.heap[gb526]? = some (.cells #[.bool a0_0, (.slice A0_1 l0_1.length c0_1), (.slice A0_2 l0_2.length c0_2), (.slice A0_3 l0_3.length c0_3)] 26 (0, 0))) ∧ Aside0 (w'.heap[gb527]? = some (.cells #[.bool a1_0, (.slice A1_1 l1_1.length c1_1), (.slice A1_2 l1_2.length c1_2), (.slice A1_3 l1_3.length c1_3)] 26 (0, 0))) ∧ Aside0 (Below w.heap.size w w'))
   case atStart => exact ⟨(0), (by first | rfl | (simp; done) | (simp [*]; done)), H', ⟨Nat.le_refl _⟩, ⟨by (with_reducible repeat (first | refine blk_drewN ?_ _ | refine blk_drew ?_ | refine blk_alloc ?_ _)); exact BK526.out⟩, ⟨by (with_reducible repeat (first | refine blk_drewN ?_ _ | refine blk_drew ?_ | refine blk_alloc ?_ _)); exact BK527.out⟩, ⟨by repeat (first | (with_reducible first | exact HB.out | apply below_alloc | apply pw_below_drewN | apply below_drew1 | refine below_set ?_ GE526.out | refine below_set ?_ GE527.out) | exact HB.out)⟩⟩
   case round =>
    clear H'
    try clear c1
    try clear c2
    try clear p2
    try clear c6
    try clear c6b0
    try clear c6b1
    try clear c6b2
    try clear c7
    try clear c10
    try clear c10b0
    try clear c10b1
    try clear c10b2
    try clear c11
    try clear c11b0
    try clear c11b1
    try clear c11b2
    try clear c12
    try clear c15
    try clear c18
    try clear c21
    try clear hcz13_0
    try clear hcz13_1
    try clear hcz13_2
    try clear hcz13_3
    try clear hcz14_0
    try clear hcz14_1
    try clear hcz14_2
    try clear hcz14_3
    try clear hcz16_0
    try clear hcz16_1
    try clear hcz16_2
    try clear hcz16_3
    try clear hcz17_0
    try clear hcz17_1
    try clear hcz17_2
    try clear hcz17_3
    try clear hcz19_0
    try clear hcz19_1
    try clear hcz19_2
    try clear hcz19_3
    try clear hcz20_0
    try clear hcz20_1
    try clear hcz20_2
    try clear hcz20_3
    try clear hcz8_0
    try clear hcz8_1
    try clear hcz8_2
    try clear hcz8_3
    try clear hcz9_0
    try clear hcz9_1
    try clear hcz9_2
    try clear hcz9_3
    try clear hfz13_0
    try clear hfz13_1
    try clear hfz13_2
    try clear hfz13_3
    try clear hfz14_0
    try clear hfz14_1
    try clear hfz14_2
    try clear hfz14_3
    try clear hfz16_0
    try clear hfz16_1
    try clear hfz16_2
    try clear hfz16_3
    try clear hfz17_0
    try clear hfz17_1
    try clear hfz17_2
    try clear hfz17_3
    try clear hfz19_0
    try clear hfz19_1
    try clear hfz19_2
    try clear hfz19_3
    try clear hfz20_0
    try clear hfz20_1
    try clear hfz20_2
    try clear hfz20_3
    try clear hfz8_0
    try clear hfz8_1
    try clear hfz8_2
    try clear hfz8_3
    try clear hfz9_0
    try clear hfz9_1
    try clear hfz9_2
    try clear hfz9_3
    try clear p2
    obtain ⟨x5_2, rfl, HA, HK2, BK526, BK527, HB⟩ := hrel
    cases gk with
    | zero => exact absurd HA.out (by simp [engrossref10_EqNode.l0])
    | succ k2 =>
     have H := HA.out
     clear HA
     simp only [engrossref10_EqNode.l0] at H
     by_cases c22 : x5_2 < (l0_1.length : Int)
     ·rw [if_pos c22] at H
      have c22b0 : decide (x5_2 < (l0_1.length : Int)) = true := decide_eq_true c22
      clear c22
      by_cases c23 : 0 ≤ x5_2
      rotate_left
      ·rw [if_neg c23] at H
       exact absurd H (by simp)
      rw [if_pos c23] at H
      have c23b0 : decide (0 ≤ x5_2) = true := decide_eq_true c23
      clear c23
      by_cases c24 : x5_2 < (l1_1.length : Int)
      rotate_left
      ·rw [if_neg c24] at H
       exact absurd H (by simp)
      rw [if_pos c24] at H
      have c24b0 : decide (x5_2 < (l1_1.length : Int)) = true := decide_eq_true c24
      clear c24
      replace H := Option.bind_eq_some_iff.mp H
      obtain ⟨t530, A250, H⟩ := H
      replace H : (if t530 = true then (engrossref10_EqNode.l0 k2 (wrap64 (x5_2 + 1)) a0_0 l0_1 l0_2 l0_3 a1_0 l1_1 l1_2 l1_3) else (some false)) = some r := H
      have A25 := Aside0.mk A250
      clear A250
      by_cases c26 : t530 = true
      rotate_left
      ·replace c26 := Bool.eq_false_iff.mpr c26
       subst c26
       have H1 : (some false) = some r := by rw [if_neg (show ¬ (false = true) by decide)] at H; exact H
       clear H
       have H := H1
       clear H1
       obtain rfl := Option.some.inj H
       have hnb31 := NB526_527.out
       have hnc31 := NB527_526.out
       obtain ⟨hcz32_0, hcz32_1, hcz32_2, hcz32_3, hfz32_0, hfz32_1, hfz32_2, hfz32_3⟩ := bf4 (w := wr) BK526
       try go_wp2
       replace BK526 := Aside0.mk (blk_drew BK526.out)
       replace BK527 := Aside0.mk (blk_drew BK527.out)
       replace HB := Aside0.mk (below_drew1 HB.out)
       have p528 : 0 ≤ (x5_2 : Int) := of_decide_eq_true (by first | (with_reducible assumption) | assumption)
       have q528 : x5_2 < (l0_1.length : Int) := of_decide_eq_true (by first | (with_reducible assumption) | assumption)
       obtain ⟨ad528, e528, hx528_0, hx528_1, hx528_2, hx528_3, hx528_4, hx528_5, hx528_6, hx528_7⟩ := at_T56 HR0_1.out x5_2 p528 q528
       have hw528_7 := hx528_7
       have hw528_6 := hx528_6
       have hw528_5 := hx528_5
       have hw528_4 := hx528_4
       have hw528_3 := hx528_3
       have hw528_2 := hx528_2
       have hw528_1 := hx528_1
       have hw528_0 := hx528_0
       cases e528
       replace hx528_0 := (HB.out.cell (World.block_lt_of_cell? w _ hx528_0)).trans hx528_0
       replace hx528_1 := (HB.out.cell (World.block_lt_of_cell? w _ hx528_1)).trans hx528_1
       replace hx528_2 := (HB.out.cell (World.block_lt_of_cell? w _ hx528_2)).trans hx528_2
       replace hx528_3 := (HB.out.cell (World.block_lt_of_cell? w _ hx528_3)).trans hx528_3
       replace hx528_4 := (HB.out.cell (World.block_lt_of_cell? w _ hx528_4)).trans hx528_4
       replace hx528_5 := (HB.out.cell (World.block_lt_of_cell? w _ hx528_5)).trans hx528_5
       replace hx528_6 := (HB.out.cell (World.block_lt_of_cell? w _ hx528_6)).trans hx528_6
       replace hx528_7 := (HB.out.cell (World.block_lt_of_cell? w _ hx528_7)).trans hx528_7
       replace p528 := eq_true p528
       replace q528 := eq_true q528
       have p529 : 0 ≤ (x5_2 : Int) := of_decide_eq_true (by first | (with_reducible assumption) | assumption)
       have q529 : x5_2 < (l1_1.length : Int) := of_decide_eq_true (by first | (with_reducible assumption) | assumption)
       obtain ⟨ad529, e529, hx529_0, hx529_1, hx529_2, hx529_3, hx529_4, hx529_5, hx529_6, hx529_7⟩ := at_T56 HR1_1.out x5_2 p529 q529
       have hw529_7 := hx529_7
       have hw529_6 := hx529_6
       have hw529_5 := hx529_5
       have hw529_4 := hx529_4
       have hw529_3 := hx529_3
       have hw529_2 := hx529_2
       have hw529_1 := hx529_1
       have hw529_0 := hx529_0
       cases e529
       replace hx529_0 := (HB.out.cell (World.block_lt_of_cell? w _ hx529_0)).trans hx529_0
       replace hx529_1 := (HB.out.cell (World.block_lt_of_cell? w _ hx529_1)).trans hx529_1
       replace hx529_2 := (HB.out.cell (World.block_lt_of_cell? w _ hx529_2)).trans hx529_2
       replace hx529_3 := (HB.out.cell (World.block_lt_of_cell? w _ hx529_3)).trans hx529_3
       replace hx529_4 := (HB.out.cell (World.block_lt_of_cell? w _ hx529_4)).trans hx529_4
       replace hx529_5 := (HB.out.cell (World.block_lt_of_cell? w _ hx529_5)).trans hx529_5
       replace hx529_6 := (HB.out.cell (World.block_lt_of_cell? w _ hx529_6)).trans hx529_6
       replace hx529_7 := (HB.out.cell (World.block_lt_of_cell? w _ hx529_7)).trans hx529_7
       replace p529 := eq_true p529
       replace q529 := eq_true q529
       refine start_ (n := 12) (S := fun w' => w'.cell? ⟨gb526, 0, none⟩ = some (.bool a0_0) ∧ w'.cell? ⟨gb526, 1, none⟩ = some (.slice (some ad528) l0_1.length c0_1) ∧ w'.cell? ⟨gb526, 2, none⟩ = some (.slice A0_2 l0_2.length c0_2) ∧ w'.cell? ⟨gb526, 3, none⟩ = some (.slice A0_3 l0_3.length c0_3) ∧ w'.cell? ⟨gb527, 0, none⟩ = some (.bool a1_0) ∧ w'.cell? ⟨gb527, 1, none⟩ = some (.slice (some ad529) l1_1.length c1_1) ∧ w'.cell? ⟨gb527, 2, none⟩ = some (.slice A1_2 l1_2.length c1_2) ∧ w'.cell? ⟨gb527, 3, none⟩ = some (.slice A1_3 l1_3.length c1_3) ∧ w'.cell? (ad528.add ((x5_2).toNat * 8)) = some (.string ((rd_T56 l0_1 x5_2).f0)) ∧ w'.cell? ⟨(ad528.add ((x5_2).toNat * 8)).block, (ad528.add ((x5_2).toNat * 8)).off + 1, none⟩ = some (.int .i64 ((rd_T56 l0_1 x5_2).f1.f0)) ∧ w'.cell? ⟨(ad528.add ((x5_2).toNat * 8)).block, (ad528.add ((x5_2).toNat * 8)).off + 2, none⟩ = some (.float .f64 ((rd_T56 l0_1 x5_2).f1.f1)) ∧ w'.cell? ⟨(ad528.add ((x5_2).toNat * 8)).block, (ad528.add ((x5_2).toNat * 8)).off + 3, none⟩ = some (.string ((rd_T56 l0_1 x5_2).f1.f2)) ∧ w'.cell? ⟨(ad528.add ((x5_2).toNat * 8)).block, (ad528.add ((x5_2).toNat * 8)).off + 4, none⟩ = some (.int .i64 ((rd_T56 l0_1 x5_2).f2)) ∧ w'.cell? ⟨(ad528.add ((x5_2).toNat * 8)).block, (ad528.add ((x5_2).toNat * 8)).off + 5, none⟩ = some (.int .i64 ((rd_T56 l0_1 x5_2).f3.f0)) ∧ w'.cell? ⟨(ad528.add ((x5_2).toNat * 8)).block, (ad528.add ((x5_2).toNat * 8)).off + 6, none⟩ = some (.float .f64 ((rd_T56 l0_1 x5_2).f3.f1)) ∧ w'.cell? ⟨(ad528.add ((x5_2).toNat * 8)).block, (ad528.add ((x5_2).toNat * 8)).off + 7, none⟩ = some (.string ((rd_T56 l0_1 x5_2).f3.f2)) ∧ w'.cell? (ad529.add ((x5_2).toNat * 8)) = some (.string ((rd_T56 l1_1 x5_2).f0)) ∧ w'.cell? ⟨(ad529.add ((x5_2).toNat * 8)).block, (ad529.add ((x5_2).toNat * 8)).off + 1, none⟩ = some (.int .i64 ((rd_T56 l1_1 x5_2).f1.f0)) ∧ w'.cell? ⟨(ad529.add ((x5_2).toNat * 8)).block, (ad529.add ((x5_2).toNat * 8)).off + 2, none⟩ = some (.float .f64 ((rd_T56 l1_1 x5_2).f1.f1)) ∧ w'.cell? ⟨(ad529.add ((x5_2).toNat * 8)).block, (ad529.add ((x5_2).toNat * 8)).off + 3, none⟩ = some (.string ((rd_T56 l1_1 x5_2).f1.f2)) ∧ w'.cell? ⟨(ad529.add ((x5_2).toNat * 8)).block, (ad529.add ((x5_2).toNat * 8)).off + 4, none⟩ = some (.int .i64 ((rd_T56 l1_1 x5_2).f2)) ∧ w'.cell? ⟨(ad529.add ((x5_2).toNat * 8)).block, (ad529.add ((x5_2).toNat * 8)).off + 5, none⟩ = some (.int .i64 ((rd_T56 l1_1 x5_2).f3.f0)) ∧ w'.cell? ⟨(ad529.add ((x5_2).toNat * 8)).block, (ad529.add ((x5_2).toNat * 8)).off + 6, none⟩ = some (.float .f64 ((rd_T56 l1_1 x5_2).f3.f1)) ∧ w'.cell? ⟨(ad529.add ((x5_2).toNat * 8)).block, (ad529.add ((x5_2).toNat * 8)).off + 7, none⟩ = some (.string ((rd_T56 l1_1 x5_2).f3.f2))) (ds := []) #[false,false,false,false,false,false,false,false,false,false,false,false] (by kernel_rfl) rfl rfl (bn4 BK526 (bn4 BK527 ⟨((HB.out.cell (World.block_lt_of_cell? w _ hw528_0)).trans hw528_0), ((HB.out.cell (World.block_lt_of_cell? w _ hw528_1)).trans hw528_1), ((HB.out.cell (World.block_lt_of_cell? w _ hw528_2)).trans hw528_2), ((HB.out.cell (World.block_lt_of_cell? w _ hw528_3)).trans hw528_3), ((HB.out.cell (World.block_lt_of_cell? w _ hw528_4)).trans hw528_4), ((HB.out.cell (World.block_lt_of_cell? w _ hw528_5)).trans hw528_5), ((HB.out.cell (World.block_lt_of_cell? w _ hw528_6)).trans hw528_6), ((HB.out.cell (World.block_lt_of_cell? w _ hw528_7)).trans hw528_7), ((HB.out.cell (World.block_lt_of_cell? w _ hw529_0)).trans hw529_0), ((HB.out.cell (World.block_lt_of_cell? w _ hw529_1)).trans hw529_1), ((HB.out.cell (World.block_lt_of_cell? w _ hw529_2)).trans hw529_2), ((HB.out.cell (World.block_lt_of_cell? w _ hw529_3)).trans hw529_3), ((HB.out.cell (World.block_lt_of_cell? w _ hw529_4)).trans hw529_4), ((HB.out.cell (World.block_lt_of_cell? w _ hw529_5)).trans hw529_5), ((HB.out.cell (World.block_lt_of_cell? w _ hw529_6)).trans hw529_6), ((HB.out.cell (World.block_lt_of_cell? w _ hw529_7)).trans hw529_7)⟩)) (fun hHeld => ?_); refine with_tabW engrossref10_EqNode.tab6 engrossref10_EqNode.bits6 (fun HT_ HW_ => ?_)
       generalize wr.drew = w33 at BK526 BK527 HB hx528_0 hx528_1 hx528_2 hx528_3 hx528_4 hx528_5 hx528_6 hx528_7 hx529_0 hx529_1 hx529_2 hx529_3 hx529_4 hx529_5 hx529_6 hx529_7 hHeld ⊢
       refine pA 0 47 HT_ ?_
       refine pA 2 49 HT_ ?_
       refine pA 5 52 HT_ ?_
       refine pA 7 54 HT_ ?_
       refine tA 1 48 HT_ HW_ hHeld ?_ (hy := by rintro w' ⟨s0, s1, s2, s3, s4, s5, s6, s7, s8, s9, s10, s11, s12, s13, s14, s15, s16, s17, s18, s19, s20, s21, s22, s23⟩; go_simp; with_reducible rfl)
       refine pA 3 50 HT_ ?_
       refine tA 4 51 HT_ HW_ hHeld ?_ (hy := by rintro w' ⟨s0, s1, s2, s3, s4, s5, s6, s7, s8, s9, s10, s11, s12, s13, s14, s15, s16, s17, s18, s19, s20, s21, s22, s23⟩; go_simp; with_reducible rfl)
       refine tA 6 53 HT_ HW_ hHeld ?_ (hy := by rintro w' ⟨s0, s1, s2, s3, s4, s5, s6, s7, s8, s9, s10, s11, s12, s13, s14, s15, s16, s17, s18, s19, s20, s21, s22, s23⟩; go_simp; with_reducible rfl)
       refine pA 8 55 HT_ ?_
       refine tA 9 56 HT_ HW_ hHeld ?_ (hy := by rintro w' ⟨s0, s1, s2, s3, s4, s5, s6, s7, s8, s9, s10, s11, s12, s13, s14, s15, s16, s17, s18, s19, s20, s21, s22, s23⟩; go_simp; with_reducible rfl)
       refine oA 10 (some 57) HT_ (fun K hK => ?_)
       refine goes_ Try.func43 (by kernel_rfl) rfl #[.agg #[.string ((rd_T56 l0_1 x5_2).f0), .int .i64 ((rd_T56 l0_1 x5_2).f1.f0), .float .f64 ((rd_T56 l0_1 x5_2).f1.f1), .string ((rd_T56 l0_1 x5_2).f1.f2), .int .i64 ((rd_T56 l0_1 x5_2).f2), .int .i64 ((rd_T56 l0_1 x5_2).f3.f0), .float .f64 ((rd_T56 l0_1 x5_2).f3.f1), .string ((rd_T56 l0_1 x5_2).f3.f2)], .agg #[.string ((rd_T56 l1_1 x5_2).f0), .int .i64 ((rd_T56 l1_1 x5_2).f1.f0), .float .f64 ((rd_T56 l1_1 x5_2).f1.f1), .string ((rd_T56 l1_1 x5_2).f1.f2), .int .i64 ((rd_T56 l1_1 x5_2).f2), .int .i64 ((rd_T56 l1_1 x5_2).f3.f0), .float .f64 ((rd_T56 l1_1 x5_2).f3.f1), .string ((rd_T56 l1_1 x5_2).f3.f2)]] (by rfl) rfl rfl (by (try simp only [List.map_toArray, List.map_cons, List.map_nil]); first | done | rfl | (simp only [List.length_drop, List.length_take]; rfl)) ?_
       with_reducible refine (engrossref10_Eq.calls ((rd_T56 l0_1 x5_2).f0) ((rd_T56 l0_1 x5_2).f1.f0) ((rd_T56 l0_1 x5_2).f1.f1) ((rd_T56 l0_1 x5_2).f1.f2) ((rd_T56 l0_1 x5_2).f2) ((rd_T56 l0_1 x5_2).f3.f0) ((rd_T56 l0_1 x5_2).f3.f1) ((rd_T56 l0_1 x5_2).f3.f2) ((rd_T56 l1_1 x5_2).f0) ((rd_T56 l1_1 x5_2).f1.f0) ((rd_T56 l1_1 x5_2).f1.f1) ((rd_T56 l1_1 x5_2).f1.f2) ((rd_T56 l1_1 x5_2).f2) ((rd_T56 l1_1 x5_2).f3.f0) ((rd_T56 l1_1 x5_2).f3.f1) ((rd_T56 l1_1 x5_2).f3.f2) false _ A25.out).mono ?_
       rintro e w34 ⟨rfl, hb⟩
       refine ⟨_, rfl, ?_⟩
       replace BK526 := bB BK526 hb
       replace BK527 := bB BK527 hb
       replace HB := bW HB hb
       (try clear hb)
       (try clear hb2)
       (try clear hk)
       (try clear hi)
       refine hK.out _ _ (bn4 BK526 (bn4 BK527 ⟨((HB.out.cell (World.block_lt_of_cell? w _ hw528_0)).trans hw528_0), ((HB.out.cell (World.block_lt_of_cell? w _ hw528_1)).trans hw528_1), ((HB.out.cell (World.block_lt_of_cell? w _ hw528_2)).trans hw528_2), ((HB.out.cell (World.block_lt_of_cell? w _ hw528_3)).trans hw528_3), ((HB.out.cell (World.block_lt_of_cell? w _ hw528_4)).trans hw528_4), ((HB.out.cell (World.block_lt_of_cell? w _ hw528_5)).trans hw528_5), ((HB.out.cell (World.block_lt_of_cell? w _ hw528_6)).trans hw528_6), ((HB.out.cell (World.block_lt_of_cell? w _ hw528_7)).trans hw528_7), ((HB.out.cell (World.block_lt_of_cell? w _ hw529_0)).trans hw529_0), ((HB.out.cell (World.block_lt_of_cell? w _ hw529_1)).trans hw529_1), ((HB.out.cell (World.block_lt_of_cell? w _ hw529_2)).trans hw529_2), ((HB.out.cell (World.block_lt_of_cell? w _ hw529_3)).trans hw529_3), ((HB.out.cell (World.block_lt_of_cell? w _ hw529_4)).trans hw529_4), ((HB.out.cell (World.block_lt_of_cell? w _ hw529_5)).trans hw529_5), ((HB.out.cell (World.block_lt_of_cell? w _ hw529_6)).trans hw529_6), ((HB.out.cell (World.block_lt_of_cell? w _ hw529_7)).trans hw529_7)⟩)) (fun hHeld => ?_)
       clear hK K
       refine norm_ (a' := ?_) ?_ ?_
       rotate_left
       ·show Act.put _ (some 57) _ = _
        simp only [Act.put, List.setIfInBounds_toArray, List.set_cons_zero, List.set_cons_succ, i64_w, i32_w]
        rfl
       refine pA 11 58 HT_ ?_
       refine done_ (done_of HT_.out (by kernel_rfl)) ?_
       try go_wp2
       go_ret
       exact xB HB
      subst c26
      have H1 : (engrossref10_EqNode.l0 k2 (wrap64 (x5_2 + 1)) a0_0 l0_1 l0_2 l0_3 a1_0 l1_1 l1_2 l1_3) = some r := by rw [if_pos rfl] at H; exact H
      clear H
      have H := H1
      clear H1
      have H' := Aside0.mk H
      clear H
      have hnb27 := NB526_527.out
      have hnc27 := NB527_526.out
      obtain ⟨hcz28_0, hcz28_1, hcz28_2, hcz28_3, hfz28_0, hfz28_1, hfz28_2, hfz28_3⟩ := bf4 (w := wr) BK526
      try go_wp2
      replace BK526 := Aside0.mk (blk_drew BK526.out)
      replace BK527 := Aside0.mk (blk_drew BK527.out)
      replace HB := Aside0.mk (below_drew1 HB.out)
      have p528 : 0 ≤ (x5_2 : Int) := of_decide_eq_true (by first | (with_reducible assumption) | assumption)
      have q528 : x5_2 < (l0_1.length : Int) := of_decide_eq_true (by first | (with_reducible assumption) | assumption)
      obtain ⟨ad528, e528, hx528_0, hx528_1, hx528_2, hx528_3, hx528_4, hx528_5, hx528_6, hx528_7⟩ := at_T56 HR0_1.out x5_2 p528 q528
      have hw528_7 := hx528_7
      have hw528_6 := hx528_6
      have hw528_5 := hx528_5
      have hw528_4 := hx528_4
      have hw528_3 := hx528_3
      have hw528_2 := hx528_2
      have hw528_1 := hx528_1
      have hw528_0 := hx528_0
      cases e528
      replace hx528_0 := (HB.out.cell (World.block_lt_of_cell? w _ hx528_0)).trans hx528_0
      replace hx528_1 := (HB.out.cell (World.block_lt_of_cell? w _ hx528_1)).trans hx528_1
      replace hx528_2 := (HB.out.cell (World.block_lt_of_cell? w _ hx528_2)).trans hx528_2
      replace hx528_3 := (HB.out.cell (World.block_lt_of_cell? w _ hx528_3)).trans hx528_3
      replace hx528_4 := (HB.out.cell (World.block_lt_of_cell? w _ hx528_4)).trans hx528_4
      replace hx528_5 := (HB.out.cell (World.block_lt_of_cell? w _ hx528_5)).trans hx528_5
      replace hx528_6 := (HB.out.cell (World.block_lt_of_cell? w _ hx528_6)).trans hx528_6
      replace hx528_7 := (HB.out.cell (World.block_lt_of_cell? w _ hx528_7)).trans hx528_7
      replace p528 := eq_true p528
      replace q528 := eq_true q528
      have p529 : 0 ≤ (x5_2 : Int) := of_decide_eq_true (by first | (with_reducible assumption) | assumption)
      have q529 : x5_2 < (l1_1.length : Int) := of_decide_eq_true (by first | (with_reducible assumption) | assumption)
      obtain ⟨ad529, e529, hx529_0, hx529_1, hx529_2, hx529_3, hx529_4, hx529_5, hx529_6, hx529_7⟩ := at_T56 HR1_1.out x5_2 p529 q529
      have hw529_7 := hx529_7
      have hw529_6 := hx529_6
      have hw529_5 := hx529_5
      have hw529_4 := hx529_4
      have hw529_3 := hx529_3
      have hw529_2 := hx529_2
      have hw529_1 := hx529_1
      have hw529_0 := hx529_0
      cases e529
      replace hx529_0 := (HB.out.cell (World.block_lt_of_cell? w _ hx529_0)).trans hx529_0
      replace hx529_1 := (HB.out.cell (World.block_lt_of_cell? w _ hx529_1)).trans hx529_1
      replace hx529_2 := (HB.out.cell (World.block_lt_of_cell? w _ hx529_2)).trans hx529_2
      replace hx529_3 := (HB.out.cell (World.block_lt_of_cell? w _ hx529_3)).trans hx529_3
      replace hx529_4 := (HB.out.cell (World.block_lt_of_cell? w _ hx529_4)).trans hx529_4
      replace hx529_5 := (HB.out.cell (World.block_lt_of_cell? w _ hx529_5)).trans hx529_5
      replace hx529_6 := (HB.out.cell (World.block_lt_of_cell? w _ hx529_6)).trans hx529_6
      replace hx529_7 := (HB.out.cell (World.block_lt_of_cell? w _ hx529_7)).trans hx529_7
      replace p529 := eq_true p529
      replace q529 := eq_true q529
      refine start_ (n := 12) (S := fun w' => w'.cell? ⟨gb526, 0, none⟩ = some (.bool a0_0) ∧ w'.cell? ⟨gb526, 1, none⟩ = some (.slice (some ad528) l0_1.length c0_1) ∧ w'.cell? ⟨gb526, 2, none⟩ = some (.slice A0_2 l0_2.length c0_2) ∧ w'.cell? ⟨gb526, 3, none⟩ = some (.slice A0_3 l0_3.length c0_3) ∧ w'.cell? ⟨gb527, 0, none⟩ = some (.bool a1_0) ∧ w'.cell? ⟨gb527, 1, none⟩ = some (.slice (some ad529) l1_1.length c1_1) ∧ w'.cell? ⟨gb527, 2, none⟩ = some (.slice A1_2 l1_2.length c1_2) ∧ w'.cell? ⟨gb527, 3, none⟩ = some (.slice A1_3 l1_3.length c1_3) ∧ w'.cell? (ad528.add ((x5_2).toNat * 8)) = some (.string ((rd_T56 l0_1 x5_2).f0)) ∧ w'.cell? ⟨(ad528.add ((x5_2).toNat * 8)).block, (ad528.add ((x5_2).toNat * 8)).off + 1, none⟩ = some (.int .i64 ((rd_T56 l0_1 x5_2).f1.f0)) ∧ w'.cell? ⟨(ad528.add ((x5_2).toNat * 8)).block, (ad528.add ((x5_2).toNat * 8)).off + 2, none⟩ = some (.float .f64 ((rd_T56 l0_1 x5_2).f1.f1)) ∧ w'.cell? ⟨(ad528.add ((x5_2).toNat * 8)).block, (ad528.add ((x5_2).toNat * 8)).off + 3, none⟩ = some (.string ((rd_T56 l0_1 x5_2).f1.f2)) ∧ w'.cell? ⟨(ad528.add ((x5_2).toNat * 8)).block, (ad528.add ((x5_2).toNat * 8)).off + 4, none⟩ = some (.int .i64 ((rd_T56 l0_1 x5_2).f2)) ∧ w'.cell? ⟨(ad528.add ((x5_2).toNat * 8)).block, (ad528.add ((x5_2).toNat * 8)).off + 5, none⟩ = some (.int .i64 ((rd_T56 l0_1 x5_2).f3.f0)) ∧ w'.cell? ⟨(ad528.add ((x5_2).toNat * 8)).block, (ad528.add ((x5_2).toNat * 8)).off + 6, none⟩ = some (.float .f64 ((rd_T56 l0_1 x5_2).f3.f1)) ∧ w'.cell? ⟨(ad528.add ((x5_2).toNat * 8)).block, (ad528.add ((x5_2).toNat * 8)).off + 7, none⟩ = some (.string ((rd_T56 l0_1 x5_2).f3.f2)) ∧ w'.cell? (ad529.add ((x5_2).toNat * 8)) = some (.string ((rd_T56 l1_1 x5_2).f0)) ∧ w'.cell? ⟨(ad529.add ((x5_2).toNat * 8)).block, (ad529.add ((x5_2).toNat * 8)).off + 1, none⟩ = some (.int .i64 ((rd_T56 l1_1 x5_2).f1.f0)) ∧ w'.cell? ⟨(ad529.add ((x5_2).toNat * 8)).block, (ad529.add ((x5_2).toNat * 8)).off + 2, none⟩ = some (.float .f64 ((rd_T56 l1_1 x5_2).f1.f1)) ∧ w'.cell? ⟨(ad529.add ((x5_2).toNat * 8)).block, (ad529.add ((x5_2).toNat * 8)).off + 3, none⟩ = some (.string ((rd_T56 l1_1 x5_2).f1.f2)) ∧ w'.cell? ⟨(ad529.add ((x5_2).toNat * 8)).block, (ad529.add ((x5_2).toNat * 8)).off + 4, none⟩ = some (.int .i64 ((rd_T56 l1_1 x5_2).f2)) ∧ w'.cell? ⟨(ad529.add ((x5_2).toNat * 8)).block, (ad529.add ((x5_2).toNat * 8)).off + 5, none⟩ = some (.int .i64 ((rd_T56 l1_1 x5_2).f3.f0)) ∧ w'.cell? ⟨(ad529.add ((x5_2).toNat * 8)).block, (ad529.add ((x5_2).toNat * 8)).off + 6, none⟩ = some (.float .f64 ((rd_T56 l1_1 x5_2).f3.f1)) ∧ w'.cell? ⟨(ad529.add ((x5_2).toNat * 8)).block, (ad529.add ((x5_2).toNat * 8)).off + 7, none⟩ = some (.string ((rd_T56 l1_1 x5_2).f3.f2))) (ds := []) #[false,false,false,false,false,false,false,false,false,false,false,false] (by kernel_rfl) rfl rfl (bn4 BK526 (bn4 BK527 ⟨((HB.out.cell (World.block_lt_of_cell? w _ hw528_0)).trans hw528_0), ((HB.out.cell (World.block_lt_of_cell? w _ hw528_1)).trans hw528_1), ((HB.out.cell (World.block_lt_of_cell? w _ hw528_2)).trans hw528_2), ((HB.out.cell (World.block_lt_of_cell? w _ hw528_3)).trans hw528_3), ((HB.out.cell (World.block_lt_of_cell? w _ hw528_4)).trans hw528_4), ((HB.out.cell (World.block_lt_of_cell? w _ hw528_5)).trans hw528_5), ((HB.out.cell (World.block_lt_of_cell? w _ hw528_6)).trans hw528_6), ((HB.out.cell (World.block_lt_of_cell? w _ hw528_7)).trans hw528_7), ((HB.out.cell (World.block_lt_of_cell? w _ hw529_0)).trans hw529_0), ((HB.out.cell (World.block_lt_of_cell? w _ hw529_1)).trans hw529_1), ((HB.out.cell (World.block_lt_of_cell? w _ hw529_2)).trans hw529_2), ((HB.out.cell (World.block_lt_of_cell? w _ hw529_3)).trans hw529_3), ((HB.out.cell (World.block_lt_of_cell? w _ hw529_4)).trans hw529_4), ((HB.out.cell (World.block_lt_of_cell? w _ hw529_5)).trans hw529_5), ((HB.out.cell (World.block_lt_of_cell? w _ hw529_6)).trans hw529_6), ((HB.out.cell (World.block_lt_of_cell? w _ hw529_7)).trans hw529_7)⟩)) (fun hHeld => ?_); refine with_tabW engrossref10_EqNode.tab6 engrossref10_EqNode.bits6 (fun HT_ HW_ => ?_)
      generalize wr.drew = w29 at BK526 BK527 HB hx528_0 hx528_1 hx528_2 hx528_3 hx528_4 hx528_5 hx528_6 hx528_7 hx529_0 hx529_1 hx529_2 hx529_3 hx529_4 hx529_5 hx529_6 hx529_7 hHeld ⊢
      refine pA 0 47 HT_ ?_
      refine pA 2 49 HT_ ?_
      refine pA 5 52 HT_ ?_
      refine pA 7 54 HT_ ?_
      refine tA 1 48 HT_ HW_ hHeld ?_ (hy := by rintro w' ⟨s0, s1, s2, s3, s4, s5, s6, s7, s8, s9, s10, s11, s12, s13, s14, s15, s16, s17, s18, s19, s20, s21, s22, s23⟩; go_simp; with_reducible rfl)
      refine pA 3 50 HT_ ?_
      refine tA 4 51 HT_ HW_ hHeld ?_ (hy := by rintro w' ⟨s0, s1, s2, s3, s4, s5, s6, s7, s8, s9, s10, s11, s12, s13, s14, s15, s16, s17, s18, s19, s20, s21, s22, s23⟩; go_simp; with_reducible rfl)
      refine tA 6 53 HT_ HW_ hHeld ?_ (hy := by rintro w' ⟨s0, s1, s2, s3, s4, s5, s6, s7, s8, s9, s10, s11, s12, s13, s14, s15, s16, s17, s18, s19, s20, s21, s22, s23⟩; go_simp; with_reducible rfl)
      refine pA 8 55 HT_ ?_
      refine tA 9 56 HT_ HW_ hHeld ?_ (hy := by rintro w' ⟨s0, s1, s2, s3, s4, s5, s6, s7, s8, s9, s10, s11, s12, s13, s14, s15, s16, s17, s18, s19, s20, s21, s22, s23⟩; go_simp; with_reducible rfl)
      refine oA 10 (some 57) HT_ (fun K hK => ?_)
      refine goes_ Try.func43 (by kernel_rfl) rfl #[.agg #[.string ((rd_T56 l0_1 x5_2).f0), .int .i64 ((rd_T56 l0_1 x5_2).f1.f0), .float .f64 ((rd_T56 l0_1 x5_2).f1.f1), .string ((rd_T56 l0_1 x5_2).f1.f2), .int .i64 ((rd_T56 l0_1 x5_2).f2), .int .i64 ((rd_T56 l0_1 x5_2).f3.f0), .float .f64 ((rd_T56 l0_1 x5_2).f3.f1), .string ((rd_T56 l0_1 x5_2).f3.f2)], .agg #[.string ((rd_T56 l1_1 x5_2).f0), .int .i64 ((rd_T56 l1_1 x5_2).f1.f0), .float .f64 ((rd_T56 l1_1 x5_2).f1.f1), .string ((rd_T56 l1_1 x5_2).f1.f2), .int .i64 ((rd_T56 l1_1 x5_2).f2), .int .i64 ((rd_T56 l1_1 x5_2).f3.f0), .float .f64 ((rd_T56 l1_1 x5_2).f3.f1), .string ((rd_T56 l1_1 x5_2).f3.f2)]] (by rfl) rfl rfl (by (try simp only [List.map_toArray, List.map_cons, List.map_nil]); first | done | rfl | (simp only [List.length_drop, List.length_take]; rfl)) ?_
      with_reducible refine (engrossref10_Eq.calls ((rd_T56 l0_1 x5_2).f0) ((rd_T56 l0_1 x5_2).f1.f0) ((rd_T56 l0_1 x5_2).f1.f1) ((rd_T56 l0_1 x5_2).f1.f2) ((rd_T56 l0_1 x5_2).f2) ((rd_T56 l0_1 x5_2).f3.f0) ((rd_T56 l0_1 x5_2).f3.f1) ((rd_T56 l0_1 x5_2).f3.f2) ((rd_T56 l1_1 x5_2).f0) ((rd_T56 l1_1 x5_2).f1.f0) ((rd_T56 l1_1 x5_2).f1.f1) ((rd_T56 l1_1 x5_2).f1.f2) ((rd_T56 l1_1 x5_2).f2) ((rd_T56 l1_1 x5_2).f3.f0) ((rd_T56 l1_1 x5_2).f3.f1) ((rd_T56 l1_1 x5_2).f3.f2) true _ A25.out).mono ?_
      rintro e w30 ⟨rfl, hb⟩
      refine ⟨_, rfl, ?_⟩
      replace BK526 := bB BK526 hb
      replace BK527 := bB BK527 hb
      replace HB := bW HB hb
      (try clear hb)
      (try clear hb2)
      (try clear hk)
      (try clear hi)
      refine hK.out _ _ (bn4 BK526 (bn4 BK527 ⟨((HB.out.cell (World.block_lt_of_cell? w _ hw528_0)).trans hw528_0), ((HB.out.cell (World.block_lt_of_cell? w _ hw528_1)).trans hw528_1), ((HB.out.cell (World.block_lt_of_cell? w _ hw528_2)).trans hw528_2), ((HB.out.cell (World.block_lt_of_cell? w _ hw528_3)).trans hw528_3), ((HB.out.cell (World.block_lt_of_cell? w _ hw528_4)).trans hw528_4), ((HB.out.cell (World.block_lt_of_cell? w _ hw528_5)).trans hw528_5), ((HB.out.cell (World.block_lt_of_cell? w _ hw528_6)).trans hw528_6), ((HB.out.cell (World.block_lt_of_cell? w _ hw528_7)).trans hw528_7), ((HB.out.cell (World.block_lt_of_cell? w _ hw529_0)).trans hw529_0), ((HB.out.cell (World.block_lt_of_cell? w _ hw529_1)).trans hw529_1), ((HB.out.cell (World.block_lt_of_cell? w _ hw529_2)).trans hw529_2), ((HB.out.cell (World.block_lt_of_cell? w _ hw529_3)).trans hw529_3), ((HB.out.cell (World.block_lt_of_cell? w _ hw529_4)).trans hw529_4), ((HB.out.cell (World.block_lt_of_cell? w _ hw529_5)).trans hw529_5), ((HB.out.cell (World.block_lt_of_cell? w _ hw529_6)).trans hw529_6), ((HB.out.cell (World.block_lt_of_cell? w _ hw529_7)).trans hw529_7)⟩)) (fun hHeld => ?_)
      clear hK K
      refine norm_ (a' := ?_) ?_ ?_
      rotate_left
      ·show Act.put _ (some 57) _ = _
       simp only [Act.put, List.setIfInBounds_toArray, List.set_cons_zero, List.set_cons_succ, i64_w, i32_w]
       rfl
      refine pA 11 58 HT_ ?_
      refine done_ (done_of HT_.out (by kernel_rfl)) ?_
      try go_wp2
      go_roundg k2
      case measure => have := HJ2.out; have := HK2.out; omega
      case rel => exact ⟨(wrap64 (x5_2 + 1)), (by first | rfl | (simp; done) | (simp [*]; done)), H', ⟨by have := HJ2.out; have := HK2.out; omega⟩, ⟨by (with_reducible repeat (first | refine blk_drewN ?_ _ | refine blk_drew ?_ | refine blk_alloc ?_ _)); exact BK526.out⟩, ⟨by (with_reducible repeat (first | refine blk_drewN ?_ _ | refine blk_drew ?_ | refine blk_alloc ?_ _)); exact BK527.out⟩, ⟨by repeat (first | (with_reducible first | exact HB.out | apply below_alloc | apply pw_below_drewN | apply below_drew1 | refine below_set ?_ GE526.out | refine below_set ?_ GE527.out) | exact HB.out)⟩⟩
     rw [if_neg c22] at H
     have c22b0 : decide (x5_2 < (l0_1.length : Int)) = false := decide_eq_false c22
     clear c22
     have H' := Aside0.mk H
     clear H
     have hnb35 := NB526_527.out
     have hnc35 := NB527_526.out
     obtain ⟨hcz36_0, hcz36_1, hcz36_2, hcz36_3, hfz36_0, hfz36_1, hfz36_2, hfz36_3⟩ := bf4 (w := wr) BK526
     go_wp2
     go_loopg [6] k2 (fun kq v6 w' => ∃ (x6_3 : Int), v6 = .int .i64 x6_3 ∧ Aside0 (engrossref10_EqNode.l1 kq x6_3 a0_0 l0_1 l0_2 l0_3 a1_0 l1_1 l1_2 l1_3 = some r) ∧ Aside0 (kq ≤ k2) ∧ Aside0 (w'.heap[gb526]? = some (.cells #[.bool a0_0, (.slice A0_1 l0_1.length c0_1), (.slice A0_2 l0_2.length c0_2), (.slice A0_3 l0_3.length c0_3)] 26 (0, 0))) ∧ Aside0 (w'.heap[gb527]? = some (.cells #[.bool a1_0, (.slice A1_1 l1_1.length c1_1), (.slice A1_2 l1_2.length c1_2), (.slice A1_3 l1_3.length c1_3)] 26 (0, 0))) ∧ Aside0 (Below w.heap.size w w'))
     case atStart => exact ⟨(0), (by first | rfl | (simp; done) | (simp [*]; done)), H', ⟨Nat.le_refl _⟩, ⟨by (with_reducible repeat (first | refine blk_drewN ?_ _ | refine blk_drew ?_ | refine blk_alloc ?_ _)); exact BK526.out⟩, ⟨by (with_reducible repeat (first | refine blk_drewN ?_ _ | refine blk_drew ?_ | refine blk_alloc ?_ _)); exact BK527.out⟩, ⟨by repeat (first | (with_reducible first | exact HB.out | apply below_alloc | apply pw_below_drewN | apply below_drew1 | refine below_set ?_ GE526.out | refine below_set ?_ GE527.out) | exact HB.out)⟩⟩
     case round =>
      clear H'
      try clear c1
      try clear c2
      try clear p2
      try clear c3
      try clear c4
      try clear p5
      try clear q5
      try clear hx5
      try clear c6
      try clear c6b0
      try clear c6b1
      try clear c6b2
      try clear p6
      try clear c7
      try clear c10
      try clear c10b0
      try clear c10b1
      try clear c10b2
      try clear c11
      try clear c11b0
      try clear c11b1
      try clear c11b2
      try clear c12
      try clear c15
      try clear c18
      try clear c21
      try clear c22
      try clear c22b0
      try clear c23
      try clear c23b0
      try clear c24
      try clear c24b0
      try clear c26
      try clear c27
      try clear c31
      try clear c35
      try clear hcz13_0
      try clear hcz13_1
      try clear hcz13_2
      try clear hcz13_3
      try clear hcz14_0
      try clear hcz14_1
      try clear hcz14_2
      try clear hcz14_3
      try clear hcz16_0
      try clear hcz16_1
      try clear hcz16_2
      try clear hcz16_3
      try clear hcz17_0
      try clear hcz17_1
      try clear hcz17_2
      try clear hcz17_3
      try clear hcz19_0
      try clear hcz19_1
      try clear hcz19_2
      try clear hcz19_3
      try clear hcz20_0
      try clear hcz20_1
      try clear hcz20_2
      try clear hcz20_3
      try clear hcz28_0
      try clear hcz28_1
      try clear hcz28_2
      try clear hcz28_3
      try clear hcz32_0
      try clear hcz32_1
      try clear hcz32_2
      try clear hcz32_3
      try clear hcz36_0
      try clear hcz36_1
      try clear hcz36_2
      try clear hcz36_3
      try clear hcz8_0
      try clear hcz8_1
      try clear hcz8_2
      try clear hcz8_3
      try clear hcz9_0
      try clear hcz9_1
      try clear hcz9_2
      try clear hcz9_3
      try clear hfz13_0
      try clear hfz13_1
      try clear hfz13_2
      try clear hfz13_3
      try clear hfz14_0
      try clear hfz14_1
      try clear hfz14_2
      try clear hfz14_3
      try clear hfz16_0
      try clear hfz16_1
      try clear hfz16_2
      try clear hfz16_3
      try clear hfz17_0
      try clear hfz17_1
      try clear hfz17_2
      try clear hfz17_3
      try clear hfz19_0
      try clear hfz19_1
      try clear hfz19_2
      try clear hfz19_3
      try clear hfz20_0
      try clear hfz20_1
      try clear hfz20_2
      try clear hfz20_3
      try clear hfz28_0
      try clear hfz28_1
      try clear hfz28_2
      try clear hfz28_3
      try clear hfz32_0
      try clear hfz32_1
      try clear hfz32_2
      try clear hfz32_3
      try clear hfz36_0
      try clear hfz36_1
      try clear hfz36_2
      try clear hfz36_3
      try clear hfz8_0
      try clear hfz8_1
      try clear hfz8_2
      try clear hfz8_3
      try clear hfz9_0
      try clear hfz9_1
      try clear hfz9_2
      try clear hfz9_3
      try clear hx528_0
      try clear hx528_1
      try clear hx528_2
      try clear hx528_3
      try clear hx528_4
      try clear hx528_5
      try clear hx528_6
      try clear hx528_7
      try clear hx529_0
      try clear hx529_1
      try clear hx529_2
      try clear hx529_3
      try clear hx529_4
      try clear hx529_5
      try clear hx529_6
      try clear hx529_7
      try clear p2
      try clear p528
      try clear p529
      try clear q528
      try clear q529
      obtain ⟨x6_3, rfl, HA, HK3, BK526, BK527, HB⟩ := hrel
      cases gk with
      | zero => exact absurd HA.out (by simp [engrossref10_EqNode.l1])
      | succ k3 =>
       have H := HA.out
       clear HA
       simp only [engrossref10_EqNode.l1] at H
       by_cases c37 : x6_3 < (l0_2.length : Int)
       ·rw [if_pos c37] at H
        have c37b0 : decide (x6_3 < (l0_2.length : Int)) = true := decide_eq_true c37
        clear c37
        by_cases c38 : 0 ≤ x6_3
        rotate_left
        ·rw [if_neg c38] at H
         exact absurd H (by simp)
        rw [if_pos c38] at H
        have c38b0 : decide (0 ≤ x6_3) = true := decide_eq_true c38
        clear c38
        by_cases c39 : x6_3 < (l1_2.length : Int)
        rotate_left
        ·rw [if_neg c39] at H
         exact absurd H (by simp)
        rw [if_pos c39] at H
        have c39b0 : decide (x6_3 < (l1_2.length : Int)) = true := decide_eq_true c39
        clear c39
        by_cases c40 : (rdOf ByteArray.empty l0_2 x6_3).toList = (rdOf ByteArray.empty l1_2 x6_3).toList
        rotate_left
        ·rw [if_neg c40] at H
         have c40b0 : ((rdOf ByteArray.empty l0_2 x6_3).toList == (rdOf ByteArray.empty l1_2 x6_3).toList) = false := beq_eq_false_iff_ne.mpr c40
         have c40b1 : ((rdOf ByteArray.empty l0_2 x6_3).toList != (rdOf ByteArray.empty l1_2 x6_3).toList) = true := bne_iff_ne.mpr c40
         obtain rfl := Option.some.inj H
         have hnb44 := NB526_527.out
         have hnc44 := NB527_526.out
         obtain ⟨hcz45_0, hcz45_1, hcz45_2, hcz45_3, hfz45_0, hfz45_1, hfz45_2, hfz45_3⟩ := bf4 (w := wr) BK526
         try go_wp2
         replace BK526 := Aside0.mk (blk_drew BK526.out)
         replace BK527 := Aside0.mk (blk_drew BK527.out)
         replace HB := Aside0.mk (below_drew1 HB.out)
         have p531 : 0 ≤ (x6_3 : Int) := of_decide_eq_true (by first | (with_reducible assumption) | assumption)
         have q531 : x6_3 < (l0_2.length : Int) := of_decide_eq_true (by first | (with_reducible assumption) | assumption)
         obtain ⟨ad531, e531, hx531_0⟩ := Kd.at_string HR0_2.out x6_3 p531 q531
         have hw531_0 := hx531_0
         cases e531
         replace hx531_0 := (HB.out.cell (World.block_lt_of_cell? w _ hx531_0)).trans hx531_0
         replace p531 := eq_true p531
         replace q531 := eq_true q531
         have p532 : 0 ≤ (x6_3 : Int) := of_decide_eq_true (by first | (with_reducible assumption) | assumption)
         have q532 : x6_3 < (l1_2.length : Int) := of_decide_eq_true (by first | (with_reducible assumption) | assumption)
         obtain ⟨ad532, e532, hx532_0⟩ := Kd.at_string HR1_2.out x6_3 p532 q532
         have hw532_0 := hx532_0
         cases e532
         replace hx532_0 := (HB.out.cell (World.block_lt_of_cell? w _ hx532_0)).trans hx532_0
         replace p532 := eq_true p532
         replace q532 := eq_true q532
         refine start_ (n := 11) (S := fun w' => w'.cell? ⟨gb526, 0, none⟩ = some (.bool a0_0) ∧ w'.cell? ⟨gb526, 1, none⟩ = some (.slice A0_1 l0_1.length c0_1) ∧ w'.cell? ⟨gb526, 2, none⟩ = some (.slice (some ad531) l0_2.length c0_2) ∧ w'.cell? ⟨gb526, 3, none⟩ = some (.slice A0_3 l0_3.length c0_3) ∧ w'.cell? ⟨gb527, 0, none⟩ = some (.bool a1_0) ∧ w'.cell? ⟨gb527, 1, none⟩ = some (.slice A1_1 l1_1.length c1_1) ∧ w'.cell? ⟨gb527, 2, none⟩ = some (.slice (some ad532) l1_2.length c1_2) ∧ w'.cell? ⟨gb527, 3, none⟩ = some (.slice A1_3 l1_3.length c1_3) ∧ w'.cell? (ad531.add (x6_3).toNat) = some (.string (rdOf ByteArray.empty l0_2 x6_3)) ∧ w'.cell? (ad532.add (x6_3).toNat) = some (.string (rdOf ByteArray.empty l1_2 x6_3))) (ds := []) #[false,false,false,false,false,false,false,false,false,false,false] (by kernel_rfl) rfl rfl (bn4 BK526 (bn4 BK527 ⟨((HB.out.cell (World.block_lt_of_cell? w _ hw531_0)).trans hw531_0), ((HB.out.cell (World.block_lt_of_cell? w _ hw532_0)).trans hw532_0)⟩)) (fun hHeld => ?_); refine with_tabW engrossref10_EqNode.tab11 engrossref10_EqNode.bits11 (fun HT_ HW_ => ?_)
         generalize wr.drew = w46 at BK526 BK527 HB hx531_0 hx532_0 hHeld ⊢
         refine pA 0 66 HT_ ?_
         refine pA 2 68 HT_ ?_
         refine pA 5 71 HT_ ?_
         refine pA 7 73 HT_ ?_
         refine tA 1 67 HT_ HW_ hHeld ?_ (hy := by rintro w' ⟨s0, s1, s2, s3, s4, s5, s6, s7, s8, s9⟩; go_simp; with_reducible rfl)
         refine pA 3 69 HT_ ?_
         refine tA 4 70 HT_ HW_ hHeld ?_ (hy := by rintro w' ⟨s0, s1, s2, s3, s4, s5, s6, s7, s8, s9⟩; go_simp; with_reducible rfl)
         refine tA 6 72 HT_ HW_ hHeld ?_ (hy := by rintro w' ⟨s0, s1, s2, s3, s4, s5, s6, s7, s8, s9⟩; go_simp; with_reducible rfl)
         refine pA 8 74 HT_ ?_
         refine tA 9 75 HT_ HW_ hHeld ?_ (hy := by rintro w' ⟨s0, s1, s2, s3, s4, s5, s6, s7, s8, s9⟩; go_simp; with_reducible rfl)
         refine pA 10 76 HT_ ?_
         refine done_ (done_of HT_.out (by kernel_rfl)) ?_
         try go_wp2
         go_ret
         exact xB HB
        rw [if_pos c40] at H
        have c40b0 : ((rdOf ByteArray.empty l0_2 x6_3).toList == (rdOf ByteArray.empty l1_2 x6_3).toList) = true := beq_iff_eq.mpr c40
        have c40b1 : ((rdOf ByteArray.empty l0_2 x6_3).toList != (rdOf ByteArray.empty l1_2 x6_3).toList) = false := bne_eq_false_iff_eq.mpr c40
        clear c40
        have H' := Aside0.mk H
        clear H
        have hnb41 := NB526_527.out
        have hnc41 := NB527_526.out
        obtain ⟨hcz42_0, hcz42_1, hcz42_2, hcz42_3, hfz42_0, hfz42_1, hfz42_2, hfz42_3⟩ := bf4 (w := wr) BK526
        try go_wp2
        replace BK526 := Aside0.mk (blk_drew BK526.out)
        replace BK527 := Aside0.mk (blk_drew BK527.out)
        replace HB := Aside0.mk (below_drew1 HB.out)
        have p531 : 0 ≤ (x6_3 : Int) := of_decide_eq_true (by first | (with_reducible assumption) | assumption)
        have q531 : x6_3 < (l0_2.length : Int) := of_decide_eq_true (by first | (with_reducible assumption) | assumption)
        obtain ⟨ad531, e531, hx531_0⟩ := Kd.at_string HR0_2.out x6_3 p531 q531
        have hw531_0 := hx531_0
        cases e531
        replace hx531_0 := (HB.out.cell (World.block_lt_of_cell? w _ hx531_0)).trans hx531_0
        replace p531 := eq_true p531
        replace q531 := eq_true q531
        have p532 : 0 ≤ (x6_3 : Int) := of_decide_eq_true (by first | (with_reducible assumption) | assumption)
        have q532 : x6_3 < (l1_2.length : Int) := of_decide_eq_true (by first | (with_reducible assumption) | assumption)
        obtain ⟨ad532, e532, hx532_0⟩ := Kd.at_string HR1_2.out x6_3 p532 q532
        have hw532_0 := hx532_0
        cases e532
        replace hx532_0 := (HB.out.cell (World.block_lt_of_cell? w _ hx532_0)).trans hx532_0
        replace p532 := eq_true p532
        replace q532 := eq_true q532
        refine start_ (n := 11) (S := fun w' => w'.cell? ⟨gb526, 0, none⟩ = some (.bool a0_0) ∧ w'.cell? ⟨gb526, 1, none⟩ = some (.slice A0_1 l0_1.length c0_1) ∧ w'.cell? ⟨gb526, 2, none⟩ = some (.slice (some ad531) l0_2.length c0_2) ∧ w'.cell? ⟨gb526, 3, none⟩ = some (.slice A0_3 l0_3.length c0_3) ∧ w'.cell? ⟨gb527, 0, none⟩ = some (.bool a1_0) ∧ w'.cell? ⟨gb527, 1, none⟩ = some (.slice A1_1 l1_1.length c1_1) ∧ w'.cell? ⟨gb527, 2, none⟩ = some (.slice (some ad532) l1_2.length c1_2) ∧ w'.cell? ⟨gb527, 3, none⟩ = some (.slice A1_3 l1_3.length c1_3) ∧ w'.cell? (ad531.add (x6_3).toNat) = some (.string (rdOf ByteArray.empty l0_2 x6_3)) ∧ w'.cell? (ad532.add (x6_3).toNat) = some (.string (rdOf ByteArray.empty l1_2 x6_3))) (ds := []) #[false,false,false,false,false,false,false,false,false,false,false] (by kernel_rfl) rfl rfl (bn4 BK526 (bn4 BK527 ⟨((HB.out.cell (World.block_lt_of_cell? w _ hw531_0)).trans hw531_0), ((HB.out.cell (World.block_lt_of_cell? w _ hw532_0)).trans hw532_0)⟩)) (fun hHeld => ?_); refine with_tabW engrossref10_EqNode.tab11 engrossref10_EqNode.bits11 (fun HT_ HW_ => ?_)
        generalize wr.drew = w43 at BK526 BK527 HB hx531_0 hx532_0 hHeld ⊢
        refine pA 0 66 HT_ ?_
        refine pA 2 68 HT_ ?_
        refine pA 5 71 HT_ ?_
        refine pA 7 73 HT_ ?_
        refine tA 1 67 HT_ HW_ hHeld ?_ (hy := by rintro w' ⟨s0, s1, s2, s3, s4, s5, s6, s7, s8, s9⟩; go_simp; with_reducible rfl)
        refine pA 3 69 HT_ ?_
        refine tA 4 70 HT_ HW_ hHeld ?_ (hy := by rintro w' ⟨s0, s1, s2, s3, s4, s5, s6, s7, s8, s9⟩; go_simp; with_reducible rfl)
        refine tA 6 72 HT_ HW_ hHeld ?_ (hy := by rintro w' ⟨s0, s1, s2, s3, s4, s5, s6, s7, s8, s9⟩; go_simp; with_reducible rfl)
        refine pA 8 74 HT_ ?_
        refine tA 9 75 HT_ HW_ hHeld ?_ (hy := by rintro w' ⟨s0, s1, s2, s3, s4, s5, s6, s7, s8, s9⟩; go_simp; with_reducible rfl)
        refine pA 10 76 HT_ ?_
        refine done_ (done_of HT_.out (by kernel_rfl)) ?_
        try go_wp2
        go_roundg k3
        case measure => have := HJ2.out; have := HK2.out; have := HK3.out; omega
        case rel => exact ⟨(wrap64 (x6_3 + 1)), (by first | rfl | (simp; done) | (simp [*]; done)), H', ⟨by have := HJ2.out; have := HK2.out; have := HK3.out; omega⟩, ⟨by (with_reducible repeat (first | refine blk_drewN ?_ _ | refine blk_drew ?_ | refine blk_alloc ?_ _)); exact BK526.out⟩, ⟨by (with_reducible repeat (first | refine blk_drewN ?_ _ | refine blk_drew ?_ | refine blk_alloc ?_ _)); exact BK527.out⟩, ⟨by repeat (first | (with_reducible first | exact HB.out | apply below_alloc | apply pw_below_drewN | apply below_drew1 | refine below_set ?_ GE526.out | refine below_set ?_ GE527.out) | exact HB.out)⟩⟩
       rw [if_neg c37] at H
       have c37b0 : decide (x6_3 < (l0_2.length : Int)) = false := decide_eq_false c37
       clear c37
       have H' := Aside0.mk H
       clear H
       have hnb47 := NB526_527.out
       have hnc47 := NB527_526.out
       obtain ⟨hcz48_0, hcz48_1, hcz48_2, hcz48_3, hfz48_0, hfz48_1, hfz48_2, hfz48_3⟩ := bf4 (w := wr) BK526
       go_wp2
       go_loopg [7] k3 (fun kq v7 w' => ∃ (x7_4 : Int), v7 = .int .i64 x7_4 ∧ Aside0 (engrossref10_EqNode.l2 kq x7_4 a0_0 l0_1 l0_2 l0_3 a1_0 l1_1 l1_2 l1_3 = some r) ∧ Aside0 (kq ≤ k3) ∧ Aside0 (w'.heap[gb526]? = some (.cells #[.bool a0_0, (.slice A0_1 l0_1.length c0_1), (.slice A0_2 l0_2.length c0_2), (.slice A0_3 l0_3.length c0_3)] 26 (0, 0))) ∧ Aside0 (w'.heap[gb527]? = some (.cells #[.bool a1_0, (.slice A1_1 l1_1.length c1_1), (.slice A1_2 l1_2.length c1_2), (.slice A1_3 l1_3.length c1_3)] 26 (0, 0))) ∧ Aside0 (Below w.heap.size w w'))
       case atStart => exact ⟨(0), (by first | rfl | (simp; done) | (simp [*]; done)), H', ⟨Nat.le_refl _⟩, ⟨by (with_reducible repeat (first | refine blk_drewN ?_ _ | refine blk_drew ?_ | refine blk_alloc ?_ _)); exact BK526.out⟩, ⟨by (with_reducible repeat (first | refine blk_drewN ?_ _ | refine blk_drew ?_ | refine blk_alloc ?_ _)); exact BK527.out⟩, ⟨by repeat (first | (with_reducible first | exact HB.out | apply below_alloc | apply pw_below_drewN | apply below_drew1 | refine below_set ?_ GE526.out | refine below_set ?_ GE527.out) | exact HB.out)⟩⟩
       case round =>
        clear H'
        try clear c1
        try clear c2
        try clear p2
        try clear c3
        try clear c4
        try clear p5
        try clear q5
        try clear hx5
        try clear c6
        try clear c6b0
        try clear c6b1
        try clear c6b2
        try clear p6
        try clear c7
        try clear c10
        try clear c10b0
        try clear c10b1
        try clear c10b2
        try clear c11
        try clear c11b0
        try clear c11b1
        try clear c11b2
        try clear c12
        try clear c15
        try clear c18
        try clear c21
        try clear c22
        try clear c22b0
        try clear c23
        try clear c23b0
        try clear c24
        try clear c24b0
        try clear c26
        try clear c27
        try clear c31
        try clear c35
        try clear c37
        try clear c37b0
        try clear c38
        try clear c38b0
        try clear c39
        try clear c39b0
        try clear c40
        try clear c40b0
        try clear c40b1
        try clear c41
        try clear c43
        try clear c44
        try clear c47
        try clear hcz13_0
        try clear hcz13_1
        try clear hcz13_2
        try clear hcz13_3
        try clear hcz14_0
        try clear hcz14_1
        try clear hcz14_2
        try clear hcz14_3
        try clear hcz16_0
        try clear hcz16_1
        try clear hcz16_2
        try clear hcz16_3
        try clear hcz17_0
        try clear hcz17_1
        try clear hcz17_2
        try clear hcz17_3
        try clear hcz19_0
        try clear hcz19_1
        try clear hcz19_2
        try clear hcz19_3
        try clear hcz20_0
        try clear hcz20_1
        try clear hcz20_2
        try clear hcz20_3
        try clear hcz28_0
        try clear hcz28_1
        try clear hcz28_2
        try clear hcz28_3
        try clear hcz32_0
        try clear hcz32_1
        try clear hcz32_2
        try clear hcz32_3
        try clear hcz36_0
        try clear hcz36_1
        try clear hcz36_2
        try clear hcz36_3
        try clear hcz42_0
        try clear hcz42_1
        try clear hcz42_2
        try clear hcz42_3
        try clear hcz45_0
        try clear hcz45_1
        try clear hcz45_2
        try clear hcz45_3
        try clear hcz48_0
        try clear hcz48_1
        try clear hcz48_2
        try clear hcz48_3
        try clear hcz8_0
        try clear hcz8_1
        try clear hcz8_2
        try clear hcz8_3
        try clear hcz9_0
        try clear hcz9_1
        try clear hcz9_2
        try clear hcz9_3
        try clear hfz13_0
        try clear hfz13_1
        try clear hfz13_2
        try clear hfz13_3
        try clear hfz14_0
        try clear hfz14_1
        try clear hfz14_2
        try clear hfz14_3
        try clear hfz16_0
        try clear hfz16_1
        try clear hfz16_2
        try clear hfz16_3
        try clear hfz17_0
        try clear hfz17_1
        try clear hfz17_2
        try clear hfz17_3
        try clear hfz19_0
        try clear hfz19_1
        try clear hfz19_2
        try clear hfz19_3
        try clear hfz20_0
        try clear hfz20_1
        try clear hfz20_2
        try clear hfz20_3
        try clear hfz28_0
        try clear hfz28_1
        try clear hfz28_2
        try clear hfz28_3
        try clear hfz32_0
        try clear hfz32_1
        try clear hfz32_2
        try clear hfz32_3
        try clear hfz36_0
        try clear hfz36_1
        try clear hfz36_2
        try clear hfz36_3
        try clear hfz42_0
        try clear hfz42_1
        try clear hfz42_2
        try clear hfz42_3
        try clear hfz45_0
        try clear hfz45_1
        try clear hfz45_2
        try clear hfz45_3
        try clear hfz48_0
        try clear hfz48_1
        try clear hfz48_2
        try clear hfz48_3
        try clear hfz8_0
        try clear hfz8_1
        try clear hfz8_2
        try clear hfz8_3
        try clear hfz9_0
        try clear hfz9_1
        try clear hfz9_2
        try clear hfz9_3
        try clear hx528_0
        try clear hx528_1
        try clear hx528_2
        try clear hx528_3
        try clear hx528_4
        try clear hx528_5
        try clear hx528_6
        try clear hx528_7
        try clear hx529_0
        try clear hx529_1
        try clear hx529_2
        try clear hx529_3
        try clear hx529_4
        try clear hx529_5
        try clear hx529_6
        try clear hx529_7
        try clear hx531_0
        try clear hx532_0
        try clear p2
        try clear p5
        try clear p528
        try clear p529
        try clear p531
        try clear p532
        try clear p6
        try clear q5
        try clear q528
        try clear q529
        try clear q531
        try clear q532
        obtain ⟨x7_4, rfl, HA, HK4, BK526, BK527, HB⟩ := hrel
        cases gk with
        | zero => exact absurd HA.out (by simp [engrossref10_EqNode.l2])
        | succ k4 =>
         have H := HA.out
         clear HA
         simp only [engrossref10_EqNode.l2] at H
         by_cases c49 : x7_4 < (l0_3.length : Int)
         rotate_left
         ·rw [if_neg c49] at H
          have c49b0 : decide (x7_4 < (l0_3.length : Int)) = false := decide_eq_false c49
          clear c49
          obtain rfl := Option.some.inj H
          have hnb59 := NB526_527.out
          have hnc59 := NB527_526.out
          obtain ⟨hcz60_0, hcz60_1, hcz60_2, hcz60_3, hfz60_0, hfz60_1, hfz60_2, hfz60_3⟩ := bf4 (w := wr) BK526
          go_wp2
          go_ret
          exact xB HB
         rw [if_pos c49] at H
         have c49b0 : decide (x7_4 < (l0_3.length : Int)) = true := decide_eq_true c49
         clear c49
         by_cases c50 : 0 ≤ x7_4
         rotate_left
         ·rw [if_neg c50] at H
          exact absurd H (by simp)
         rw [if_pos c50] at H
         have c50b0 : decide (0 ≤ x7_4) = true := decide_eq_true c50
         clear c50
         by_cases c51 : x7_4 < (l1_3.length : Int)
         rotate_left
         ·rw [if_neg c51] at H
          exact absurd H (by simp)
         rw [if_pos c51] at H
         have c51b0 : decide (x7_4 < (l1_3.length : Int)) = true := decide_eq_true c51
         clear c51
         by_cases c52 : (rd l0_3 x7_4) = (rd l1_3 x7_4)
         rotate_left
         ·rw [if_neg c52] at H
          have c52b0 : ((rd l0_3 x7_4) == (rd l1_3 x7_4)) = false := beq_eq_false_iff_ne.mpr c52
          have c52b1 : ((rd l0_3 x7_4) != (rd l1_3 x7_4)) = true := bne_iff_ne.mpr c52
          obtain rfl := Option.some.inj H
          have hnb56 := NB526_527.out
          have hnc56 := NB527_526.out
          obtain ⟨hcz57_0, hcz57_1, hcz57_2, hcz57_3, hfz57_0, hfz57_1, hfz57_2, hfz57_3⟩ := bf4 (w := wr) BK526
          try go_wp2
          replace BK526 := Aside0.mk (blk_drew BK526.out)
          replace BK527 := Aside0.mk (blk_drew BK527.out)
          replace HB := Aside0.mk (below_drew1 HB.out)
          have p533 : 0 ≤ (x7_4 : Int) := of_decide_eq_true (by first | (with_reducible assumption) | assumption)
          have q533 : x7_4 < (l0_3.length : Int) := of_decide_eq_true (by first | (with_reducible assumption) | assumption)
          obtain ⟨ad533, e533, hx533_0⟩ := Kd.at_int HR0_3.out x7_4 p533 q533
          have hw533_0 := hx533_0
          cases e533
          replace hx533_0 := (HB.out.cell (World.block_lt_of_cell? w _ hx533_0)).trans hx533_0
          replace p533 := eq_true p533
          replace q533 := eq_true q533
          have p534 : 0 ≤ (x7_4 : Int) := of_decide_eq_true (by first | (with_reducible assumption) | assumption)
          have q534 : x7_4 < (l1_3.length : Int) := of_decide_eq_true (by first | (with_reducible assumption) | assumption)
          obtain ⟨ad534, e534, hx534_0⟩ := Kd.at_int HR1_3.out x7_4 p534 q534
          have hw534_0 := hx534_0
          cases e534
          replace hx534_0 := (HB.out.cell (World.block_lt_of_cell? w _ hx534_0)).trans hx534_0
          replace p534 := eq_true p534
          replace q534 := eq_true q534
          refine start_ (n := 11) (S := fun w' => w'.cell? ⟨gb526, 0, none⟩ = some (.bool a0_0) ∧ w'.cell? ⟨gb526, 1, none⟩ = some (.slice A0_1 l0_1.length c0_1) ∧ w'.cell? ⟨gb526, 2, none⟩ = some (.slice A0_2 l0_2.length c0_2) ∧ w'.cell? ⟨gb526, 3, none⟩ = some (.slice (some ad533) l0_3.length c0_3) ∧ w'.cell? ⟨gb527, 0, none⟩ = some (.bool a1_0) ∧ w'.cell? ⟨gb527, 1, none⟩ = some (.slice A1_1 l1_1.length c1_1) ∧ w'.cell? ⟨gb527, 2, none⟩ = some (.slice A1_2 l1_2.length c1_2) ∧ w'.cell? ⟨gb527, 3, none⟩ = some (.slice (some ad534) l1_3.length c1_3) ∧ w'.cell? (ad533.add (x7_4).toNat) = some (.int .i64 (rd l0_3 x7_4)) ∧ w'.cell? (ad534.add (x7_4).toNat) = some (.int .i64 (rd l1_3 x7_4))) (ds := []) #[false,false,false,false,false,false,false,false,false,false,false] (by kernel_rfl) rfl rfl (bn4 BK526 (bn4 BK527 ⟨((HB.out.cell (World.block_lt_of_cell? w _ hw533_0)).trans hw533_0), ((HB.out.cell (World.block_lt_of_cell? w _ hw534_0)).trans hw534_0)⟩)) (fun hHeld => ?_); refine with_tabW engrossref10_EqNode.tab16 engrossref10_EqNode.bits16 (fun HT_ HW_ => ?_)
          generalize wr.drew = w58 at BK526 BK527 HB hx533_0 hx534_0 hHeld ⊢
          refine pA 0 84 HT_ ?_
          refine pA 2 86 HT_ ?_
          refine pA 5 89 HT_ ?_
          refine pA 7 91 HT_ ?_
          refine tA 1 85 HT_ HW_ hHeld ?_ (hy := by rintro w' ⟨s0, s1, s2, s3, s4, s5, s6, s7, s8, s9⟩; go_simp; with_reducible rfl)
          refine pA 3 87 HT_ ?_
          refine tA 4 88 HT_ HW_ hHeld ?_ (hy := by rintro w' ⟨s0, s1, s2, s3, s4, s5, s6, s7, s8, s9⟩; go_simp; with_reducible rfl)
          refine tA 6 90 HT_ HW_ hHeld ?_ (hy := by rintro w' ⟨s0, s1, s2, s3, s4, s5, s6, s7, s8, s9⟩; go_simp; with_reducible rfl)
          refine pA 8 92 HT_ ?_
          refine tA 9 93 HT_ HW_ hHeld ?_ (hy := by rintro w' ⟨s0, s1, s2, s3, s4, s5, s6, s7, s8, s9⟩; go_simp; with_reducible rfl)
          refine pA 10 94 HT_ ?_
          refine done_ (done_of HT_.out (by kernel_rfl)) ?_
          try go_wp2
          go_ret
          exact xB HB
         rw [if_pos c52] at H
         have c52b0 : ((rd l0_3 x7_4) == (rd l1_3 x7_4)) = true := beq_iff_eq.mpr c52
         have c52b1 : ((rd l0_3 x7_4) != (rd l1_3 x7_4)) = false := bne_eq_false_iff_eq.mpr c52
         clear c52
         have H' := Aside0.mk H
         clear H
         have hnb53 := NB526_527.out
         have hnc53 := NB527_526.out
         obtain ⟨hcz54_0, hcz54_1, hcz54_2, hcz54_3, hfz54_0, hfz54_1, hfz54_2, hfz54_3⟩ := bf4 (w := wr) BK526
         try go_wp2
         replace BK526 := Aside0.mk (blk_drew BK526.out)
         replace BK527 := Aside0.mk (blk_drew BK527.out)
         replace HB := Aside0.mk (below_drew1 HB.out)
         have p533 : 0 ≤ (x7_4 : Int) := of_decide_eq_true (by first | (with_reducible assumption) | assumption)
         have q533 : x7_4 < (l0_3.length : Int) := of_decide_eq_true (by first | (with_reducible assumption) | assumption)
         obtain ⟨ad533, e533, hx533_0⟩ := Kd.at_int HR0_3.out x7_4 p533 q533
         have hw533_0 := hx533_0
         cases e533
         replace hx533_0 := (HB.out.cell (World.block_lt_of_cell? w _ hx533_0)).trans hx533_0
         replace p533 := eq_true p533
         replace q533 := eq_true q533
         have p534 : 0 ≤ (x7_4 : Int) := of_decide_eq_true (by first | (with_reducible assumption) | assumption)
         have q534 : x7_4 < (l1_3.length : Int) := of_decide_eq_true (by first | (with_reducible assumption) | assumption)
         obtain ⟨ad534, e534, hx534_0⟩ := Kd.at_int HR1_3.out x7_4 p534 q534
         have hw534_0 := hx534_0
         cases e534
         replace hx534_0 := (HB.out.cell (World.block_lt_of_cell? w _ hx534_0)).trans hx534_0
         replace p534 := eq_true p534
         replace q534 := eq_true q534
         refine start_ (n := 11) (S := fun w' => w'.cell? ⟨gb526, 0, none⟩ = some (.bool a0_0) ∧ w'.cell? ⟨gb526, 1, none⟩ = some (.slice A0_1 l0_1.length c0_1) ∧ w'.cell? ⟨gb526, 2, none⟩ = some (.slice A0_2 l0_2.length c0_2) ∧ w'.cell? ⟨gb526, 3, none⟩ = some (.slice (some ad533) l0_3.length c0_3) ∧ w'.cell? ⟨gb527, 0, none⟩ = some (.bool a1_0) ∧ w'.cell? ⟨gb527, 1, none⟩ = some (.slice A1_1 l1_1.length c1_1) ∧ w'.cell? ⟨gb527, 2, none⟩ = some (.slice A1_2 l1_2.length c1_2) ∧ w'.cell? ⟨gb527, 3, none⟩ = some (.slice (some ad534) l1_3.length c1_3) ∧ w'.cell? (ad533.add (x7_4).toNat) = some (.int .i64 (rd l0_3 x7_4)) ∧ w'.cell? (ad534.add (x7_4).toNat) = some (.int .i64 (rd l1_3 x7_4))) (ds := []) #[false,false,false,false,false,false,false,false,false,false,false] (by kernel_rfl) rfl rfl (bn4 BK526 (bn4 BK527 ⟨((HB.out.cell (World.block_lt_of_cell? w _ hw533_0)).trans hw533_0), ((HB.out.cell (World.block_lt_of_cell? w _ hw534_0)).trans hw534_0)⟩)) (fun hHeld => ?_); refine with_tabW engrossref10_EqNode.tab16 engrossref10_EqNode.bits16 (fun HT_ HW_ => ?_)
         generalize wr.drew = w55 at BK526 BK527 HB hx533_0 hx534_0 hHeld ⊢
         refine pA 0 84 HT_ ?_
         refine pA 2 86 HT_ ?_
         refine pA 5 89 HT_ ?_
         refine pA 7 91 HT_ ?_
         refine tA 1 85 HT_ HW_ hHeld ?_ (hy := by rintro w' ⟨s0, s1, s2, s3, s4, s5, s6, s7, s8, s9⟩; go_simp; with_reducible rfl)
         refine pA 3 87 HT_ ?_
         refine tA 4 88 HT_ HW_ hHeld ?_ (hy := by rintro w' ⟨s0, s1, s2, s3, s4, s5, s6, s7, s8, s9⟩; go_simp; with_reducible rfl)
         refine tA 6 90 HT_ HW_ hHeld ?_ (hy := by rintro w' ⟨s0, s1, s2, s3, s4, s5, s6, s7, s8, s9⟩; go_simp; with_reducible rfl)
         refine pA 8 92 HT_ ?_
         refine tA 9 93 HT_ HW_ hHeld ?_ (hy := by rintro w' ⟨s0, s1, s2, s3, s4, s5, s6, s7, s8, s9⟩; go_simp; with_reducible rfl)
         refine pA 10 94 HT_ ?_
         refine done_ (done_of HT_.out (by kernel_rfl)) ?_
         try go_wp2
         go_roundg k4
         case measure => have := HJ2.out; have := HK2.out; have := HK3.out; have := HK4.out; omega
         case rel => exact ⟨(wrap64 (x7_4 + 1)), (by first | rfl | (simp; done) | (simp [*]; done)), H', ⟨by have := HJ2.out; have := HK2.out; have := HK3.out; have := HK4.out; omega⟩, ⟨by (with_reducible repeat (first | refine blk_drewN ?_ _ | refine blk_drew ?_ | refine blk_alloc ?_ _)); exact BK526.out⟩, ⟨by (with_reducible repeat (first | refine blk_drewN ?_ _ | refine blk_drew ?_ | refine blk_alloc ?_ _)); exact BK527.out⟩, ⟨by repeat (first | (with_reducible first | exact HB.out | apply below_alloc | apply pw_below_drewN | apply below_drew1 | refine below_set ?_ GE526.out | refine below_set ?_ GE527.out) | exact HB.out)⟩⟩
end Go.Proofs.Ytmmjpieafbjggaa.P
end
section
namespace Go.Proofs.Ytmmjpieafbjggaa.P
open Go.RowKit Go.Proofs.YtmmjpieafbjggaaW.PrintWords Go.Proofs.YtmmjpieafbjggaaW.PrintLast Go.Proofs.YtmmjpieafbjggaaW.PrintMore
attribute [local go_sem] max2_int min2_int max_two min_two max_three min_three max_four min_four   -- for this text's walks alone
attribute [local go_sem] x_str_gtr x_str_leq x_str_geq ext_bits ext_frombits ext_neg x_store_float Instr.field asAgg
set_option linter.unusedVariables false
set_option linter.unusedSimpArgs false
def engrosslaw11_NodeTwins.f (k : Nat) (a0_0 : Bool) (l0_1 : List (S56)) (l0_2 : List ByteArray) (l0_3 : List Int) (a1_0 : Bool) (l1_1 : List (S56)) (l1_2 : List ByteArray) (l1_3 : List Int) : Option (Bool) := (engrosslaw11_begun.f k).bind fun t947 => (if t947 = true then ((engrosslaw11_Cut.f k a0_0 l0_1 l0_2 l0_3).bind fun bt948 => ((engrosslaw11_Cut.f k a1_0 l1_1 l1_2 l1_3).bind fun bt958 => ((engrosslaw11_Of.f k bt948.1 bt948.2.1 bt948.2.2.1 bt948.2.2.2).bind fun bt968 => ((node_Encode.f k bt968.1 bt968.2.1 bt968.2.2.1 bt968.2.2.2).bind fun bt978 => ((engrosslaw11_Of.f k bt958.1 bt958.2.1 bt958.2.2.1 bt958.2.2.2).bind fun bt982 => ((node_Encode.f k bt982.1 bt982.2.1 bt982.2.2.1 bt982.2.2.2).bind fun bt992 => (if bt978.2 = 0 then (if bt992.2 = 0 then ((engrossref10_EqNode.f k bt948.1 bt948.2.1 bt948.2.2.1 bt948.2.2.2 bt958.1 bt958.2.1 bt958.2.2.1 bt958.2.2.2).bind fun t996 => (some (((strOfNums bt978.1).toList == (strOfNums bt992.1).toList) == t996))) else (some true)) else (some true)))))))) else (none))
def engrosslaw11_NodeTwins.T7 : Bool × List (List Nat × List Nat) := (true, [([], []), ([0], [0]), ([1], [1]), ([2], [2]), ([3, 2], [2, 3]), ([2, 4], [2, 4]), ([5, 2], [5]), ([6], [6]), ([7, 6], [6, 7]), ([6], [6]), ([9, 6], [6, 9]), ([8, 10, 6], [6, 8, 10]), ([6], [6]), ([6], [6]), ([12, 13, 6, 6], [6, 12, 13]), ([11, 14, 6], [6, 11, 14]), ([6, 15], [6, 15]), ([16, 14, 0, 1, 2, 3, 4, 5, 6, 7, 8, 9, 10, 11, 12, 13, 14, 15, 16], [16])])
def engrosslaw11_NodeTwins.B7 : List Nat := [0, 1, 3, 7, 15, 31, 63, 127, 255, 127, 639, 2047, 127, 127, 12415, 32767, 65535, 131071]
theorem engrosslaw11_NodeTwins.tab7 : rtab .any (opsOf Try.f10 7) = engrosslaw11_NodeTwins.T7 := by kernel_rfl
theorem engrosslaw11_NodeTwins.bits7 : waitsOk engrosslaw11_NodeTwins.T7.2 engrosslaw11_NodeTwins.B7 = true := by kernel_rfl
set_option maxHeartbeats 8000000 in
set_option maxRecDepth 100000 in
theorem engrosslaw11_NodeTwins.calls (k : Nat) (a0_0 : Bool) (A0_1 : Option Addr) (c0_1 : Nat) (l0_1 : List (S56)) (A0_2 : Option Addr) (c0_2 : Nat) (l0_2 : List ByteArray) (A0_3 : Option Addr) (c0_3 : Nat) (l0_3 : List Int) (a1_0 : Bool) (A1_1 : Option Addr) (c1_1 : Nat) (l1_1 : List (S56)) (A1_2 : Option Addr) (c1_2 : Nat) (l1_2 : List ByteArray) (A1_3 : Option Addr) (c1_3 : Nat) (l1_3 : List Int) (r : Bool) (w : World) (hr0_1 : Kd.C k56 w A0_1 l0_1.length l0_1) (hc0_1 : l0_1.length ≤ c0_1) (hr0_2 : Kd.C Kd.string w A0_2 l0_2.length l0_2) (hc0_2 : l0_2.length ≤ c0_2) (hr0_3 : Kd.C (Kd.int .i64) w A0_3 l0_3.length l0_3) (hc0_3 : l0_3.length ≤ c0_3) (hr1_1 : Kd.C k56 w A1_1 l1_1.length l1_1) (hc1_1 : l1_1.length ≤ c1_1) (hr1_2 : Kd.C Kd.string w A1_2 l1_2.length l1_2) (hc1_2 : l1_2.length ≤ c1_2) (hr1_3 : Kd.C (Kd.int .i64) w A1_3 l1_3.length l1_3) (hc1_3 : l1_3.length ≤ c1_3) (h : engrosslaw11_NodeTwins.f k a0_0 l0_1 l0_2 l0_3 a1_0 l1_1 l1_2 l1_3 = some r) :
  Calls Try.prog 10 #[.agg #[.bool a0_0, .slice A0_1 l0_1.length c0_1, .slice A0_2 l0_2.length c0_2, .slice A0_3 l0_3.length c0_3], .agg #[.bool a1_0, .slice A1_1 l1_1.length c1_1, .slice A1_2 l1_2.length c1_2, .slice A1_3 l1_3.length c1_3]] w fun e w' => e = .returned (.bool r) ∧ Below w.heap.size w w' := by
 have hu26 := Try.underlying26
 have HR0_1 := Aside0.mk hr0_1
 have HC0_1 := Aside0.mk hc0_1
 clear hr0_1 hc0_1
 have HR0_2 := Aside0.mk hr0_2
 have HC0_2 := Aside0.mk hc0_2
 clear hr0_2 hc0_2
 have HR0_3 := Aside0.mk hr0_3
 have HC0_3 := Aside0.mk hc0_3
 clear hr0_3 hc0_3
 have HR1_1 := Aside0.mk hr1_1
 have HC1_1 := Aside0.mk hc1_1
 clear hr1_1 hc1_1
 have HR1_2 := Aside0.mk hr1_2
 have HC1_2 := Aside0.mk hc1_2
 clear hr1_2 hc1_2
 have HR1_3 := Aside0.mk hr1_3
 have HC1_3 := Aside0.mk hc1_3
 clear hr1_3 hc1_3
 have HB := Aside0.mk (Below.refl w.heap.size w)
 have H : ((engrosslaw11_begun.f k).bind fun t947 => (if t947 = true then ((engrosslaw11_Cut.f k a0_0 l0_1 l0_2 l0_3).bind fun bt948 => ((engrosslaw11_Cut.f k a1_0 l1_1 l1_2 l1_3).bind fun bt958 => ((engrosslaw11_Of.f k bt948.1 bt948.2.1 bt948.2.2.1 bt948.2.2.2).bind fun bt968 => ((node_Encode.f k bt968.1 bt968.2.1 bt968.2.2.1 bt968.2.2.2).bind fun bt978 => ((engrosslaw11_Of.f k bt958.1 bt958.2.1 bt958.2.2.1 bt958.2.2.2).bind fun bt982 => ((node_Encode.f k bt982.1 bt982.2.1 bt982.2.2.1 bt982.2.2.2).bind fun bt992 => (if bt978.2 = 0 then (if bt992.2 = 0 then ((engrossref10_EqNode.f k bt948.1 bt948.2.1 bt948.2.2.1 bt948.2.2.2 bt958.1 bt958.2.1 bt958.2.2.1 bt958.2.2.2).bind fun t996 => (some (((strOfNums bt978.1).toList == (strOfNums bt992.1).toList) == t996))) else (some true)) else (some true)))))))) else (none))) = some r := h
 clear h
 replace H := Option.bind_eq_some_iff.mp H
 obtain ⟨t947, A30, H⟩ := H
 replace H : (if t947 = true then ((engrosslaw11_Cut.f k a0_0 l0_1 l0_2 l0_3).bind fun bt948 => ((engrosslaw11_Cut.f k a1_0 l1_1 l1_2 l1_3).bind fun bt958 => ((engrosslaw11_Of.f k bt948.1 bt948.2.1 bt948.2.2.1 bt948.2.2.2).bind fun bt968 => ((node_Encode.f k bt968.1 bt968.2.1 bt968.2.2.1 bt968.2.2.2).bind fun bt978 => ((engrosslaw11_Of.f k bt958.1 bt958.2.1 bt958.2.2.1 bt958.2.2.2).bind fun bt982 => ((node_Encode.f k bt982.1 bt982.2.1 bt982.2.2.1 bt982.2.2.2).bind fun bt992 => (if bt978.2 = 0 then (if bt992.2 = 0 then ((engrossref10_EqNode.f k bt948.1 bt948.2.1 bt948.2.2.1 bt948.2.2.2 bt958.1 bt958.2.1 bt958.2.2.1 bt958.2.2.2).bind fun t996 => (some (((strOfNums bt978.1).toList == (strOfNums bt992.1).toList) == t996))) else (some true)) else (some true)))))))) else (none)) = some r := H
 have A3 := Aside0.mk A30
 clear A30
 by_cases c4 : t947 = true
 rotate_left
 ·replace c4 := Bool.eq_false_iff.mpr c4
  subst c4
  have H1 : (none) = some r := by rw [if_neg (show ¬ (false = true) by decide)] at H; exact H
  clear H
  have H := H1
  clear H1
  exact absurd H (by simp)
 subst c4
 have H1 : ((engrosslaw11_Cut.f k a0_0 l0_1 l0_2 l0_3).bind fun bt948 => ((engrosslaw11_Cut.f k a1_0 l1_1 l1_2 l1_3).bind fun bt958 => ((engrosslaw11_Of.f k bt948.1 bt948.2.1 bt948.2.2.1 bt948.2.2.2).bind fun bt968 => ((node_Encode.f k bt968.1 bt968.2.1 bt968.2.2.1 bt968.2.2.2).bind fun bt978 => ((engrosslaw11_Of.f k bt958.1 bt958.2.1 bt958.2.2.1 bt958.2.2.2).bind fun bt982 => ((node_Encode.f k bt982.1 bt982.2.1 bt982.2.2.1 bt982.2.2.2).bind fun bt992 => (if bt978.2 = 0 then (if bt992.2 = 0 then ((engrossref10_EqNode.f k bt948.1 bt948.2.1 bt948.2.2.1 bt948.2.2.2 bt958.1 bt958.2.1 bt958.2.2.1 bt958.2.2.2).bind fun t996 => (some (((strOfNums bt978.1).toList == (strOfNums bt992.1).toList) == t996))) else (some true)) else (some true)))))))) = some r := by rw [if_pos rfl] at H; exact H
 clear H
 have H := H1
 clear H1
 replace H := Option.bind_eq_some_iff.mp H
 obtain ⟨⟨t948, t949, t952, t955⟩, A50, H⟩ := H
 replace H : ((engrosslaw11_Cut.f k a1_0 l1_1 l1_2 l1_3).bind fun bt958 => ((engrosslaw11_Of.f k t948 t949 t952 t955).bind fun bt968 => ((node_Encode.f k bt968.1 bt968.2.1 bt968.2.2.1 bt968.2.2.2).bind fun bt978 => ((engrosslaw11_Of.f k bt958.1 bt958.2.1 bt958.2.2.1 bt958.2.2.2).bind fun bt982 => ((node_Encode.f k bt982.1 bt982.2.1 bt982.2.2.1 bt982.2.2.2).bind fun bt992 => (if bt978.2 = 0 then (if bt992.2 = 0 then ((engrossref10_EqNode.f k t948 t949 t952 t955 bt958.1 bt958.2.1 bt958.2.2.1 bt958.2.2.2).bind fun t996 => (some (((strOfNums bt978.1).toList == (strOfNums bt992.1).toList) == t996))) else (some true)) else (some true))))))) = some r := H
 have A5 := Aside0.mk A50
 clear A50
 replace H := Option.bind_eq_some_iff.mp H
 obtain ⟨⟨t958, t959, t962, t965⟩, A60, H⟩ := H
 replace H : ((engrosslaw11_Of.f k t948 t949 t952 t955).bind fun bt968 => ((node_Encode.f k bt968.1 bt968.2.1 bt968.2.2.1 bt968.2.2.2).bind fun bt978 => ((engrosslaw11_Of.f k t958 t959 t962 t965).bind fun bt982 => ((node_Encode.f k bt982.1 bt982.2.1 bt982.2.2.1 bt982.2.2.2).bind fun bt992 => (if bt978.2 = 0 then (if bt992.2 = 0 then ((engrossref10_EqNode.f k t948 t949 t952 t955 t958 t959 t962 t965).bind fun t996 => (some (((strOfNums bt978.1).toList == (strOfNums bt992.1).toList) == t996))) else (some true)) else (some true)))))) = some r := H
 have A6 := Aside0.mk A60
 clear A60
 replace H := Option.bind_eq_some_iff.mp H
 obtain ⟨⟨t968, t969, t972, t975⟩, A70, H⟩ := H
 replace H : ((node_Encode.f k t968 t969 t972 t975).bind fun bt978 => ((engrosslaw11_Of.f k t958 t959 t962 t965).bind fun bt982 => ((node_Encode.f k bt982.1 bt982.2.1 bt982.2.2.1 bt982.2.2.2).bind fun bt992 => (if bt978.2 = 0 then (if bt992.2 = 0 then ((engrossref10_EqNode.f k t948 t949 t952 t955 t958 t959 t962 t965).bind fun t996 => (some (((strOfNums bt978.1).toList == (strOfNums bt992.1).toList) == t996))) else (some true)) else (some true))))) = some r := H
 have A7 := Aside0.mk A70
 clear A70
 replace H := Option.bind_eq_some_iff.mp H
 obtain ⟨⟨t978, t981⟩, A80, H⟩ := H
 replace H : ((engrosslaw11_Of.f k t958 t959 t962 t965).bind fun bt982 => ((node_Encode.f k bt982.1 bt982.2.1 bt982.2.2.1 bt982.2.2.2).bind fun bt992 => (if t981 = 0 then (if bt992.2 = 0 then ((engrossref10_EqNode.f k t948 t949 t952 t955 t958 t959 t962 t965).bind fun t996 => (some (((strOfNums t978).toList == (strOfNums bt992.1).toList) == t996))) else (some true)) else (some true)))) = some r := H
 have A8 := Aside0.mk A80
 clear A80
 replace H := Option.bind_eq_some_iff.mp H
 obtain ⟨⟨t982, t983, t986, t989⟩, A90, H⟩ := H
 replace H : ((node_Encode.f k t982 t983 t986 t989).bind fun bt992 => (if t981 = 0 then (if bt992.2 = 0 then ((engrossref10_EqNode.f k t948 t949 t952 t955 t958 t959 t962 t965).bind fun t996 => (some (((strOfNums t978).toList == (strOfNums bt992.1).toList) == t996))) else (some true)) else (some true))) = some r := H
 have A9 := Aside0.mk A90
 clear A90
 replace H := Option.bind_eq_some_iff.mp H
 obtain ⟨⟨t992, t995⟩, A100, H⟩ := H
 replace H : (if t981 = 0 then (if t995 = 0 then ((engrossref10_EqNode.f k t948 t949 t952 t955 t958 t959 t962 t965).bind fun t996 => (some (((strOfNums t978).toList == (strOfNums t992).toList) == t996))) else (some true)) else (some true)) = some r := H
 have A10 := Aside0.mk A100
 clear A100
 by_cases c11 : t981 = 0
 rotate_left
 ·rw [if_neg c11] at H
  have c11b0 : (t981 == 0) = false := beq_eq_false_iff_ne.mpr c11
  have c11b1 : (t981 != 0) = true := bne_iff_ne.mpr c11
  obtain rfl := Option.some.inj H
  go_enter Try.func10, Try.ntmps10
  try go_wp2_with (first | ((with_reducible refine gate_dst (N := 2) rfl ?_); refine box_event ?hg (N := 2) ?hd (cs := #[.bool a0_0, .slice A0_1 l0_1.length c0_1, .slice A0_2 l0_2.length c0_2, .slice A0_3 l0_3.length c0_3]) (t := 26) ?hr ?_; (case hd => rfl); (case hg => rfl); (case hr => first | (go_simp; done) | (go_simp; rfl)); intro gb945 hg w87 hbox hb; have BK945 := Aside0.mk (hbox); have GW945 := bZ HB hg; have GE945 := bZ HB hg; replace HB := bW HB hb; clear hb hbox hg) | ((with_reducible refine gate_dst (N := 3) rfl ?_); refine box_event ?hg (N := 3) ?hd (cs := #[.bool a1_0, .slice A1_1 l1_1.length c1_1, .slice A1_2 l1_2.length c1_2, .slice A1_3 l1_3.length c1_3]) (t := 26) ?hr ?_; (case hd => rfl); (case hg => rfl); (case hr => first | (go_simp; done) | (go_simp; rfl)); intro gb946 hg w88 hbox hb; have BK946 := Aside0.mk (hbox); have GW946 := bZ HB hg; have GE946 := bZ HB hg; have NB945_946 := bL BK945 hg; have NB946_945 := bG BK945 hg; replace BK945 := bB BK945 hb; replace HB := bW HB hb; clear hb hbox hg) | ((with_reducible refine gate_callee (f := 11) rfl ?_); refine gL (some 10) Try.func11 #[] ?_; (with_reducible refine (engrosslaw11_begun.calls k  true _ A3.out).mono ?_); rintro e w89 ⟨rfl, hb⟩; refine ⟨_, rfl, ?_⟩; replace BK945 := bB BK945 hb; replace BK946 := bB BK946 hb; replace HB := bW HB hb; (try clear hb); (try clear hb2); (try clear hk); (try clear hi)))
  replace BK945 := Aside0.mk (blk_drew BK945.out)
  replace BK946 := Aside0.mk (blk_drew BK946.out)
  replace HB := Aside0.mk (below_drew1 HB.out)
  refine start_ (n := 6) (S := fun w' => w'.cell? ⟨gb945, 0, none⟩ = some (.bool a0_0) ∧ w'.cell? ⟨gb945, 1, none⟩ = some (.slice A0_1 l0_1.length c0_1) ∧ w'.cell? ⟨gb945, 2, none⟩ = some (.slice A0_2 l0_2.length c0_2) ∧ w'.cell? ⟨gb945, 3, none⟩ = some (.slice A0_3 l0_3.length c0_3) ∧ w'.cell? ⟨gb946, 0, none⟩ = some (.bool a1_0) ∧ w'.cell? ⟨gb946, 1, none⟩ = some (.slice A1_1 l1_1.length c1_1) ∧ w'.cell? ⟨gb946, 2, none⟩ = some (.slice A1_2 l1_2.length c1_2) ∧ w'.cell? ⟨gb946, 3, none⟩ = some (.slice A1_3 l1_3.length c1_3)) (ds := [4, 5]) #[false,false,false,false,false,false] (by kernel_rfl) rfl rfl (bn4 BK945 (be4 BK946)) (fun hHeld => ?_)
  generalize w89.drew = w90 at BK945 BK946 HB hHeld ⊢
  refine take_ (i := 0) (N := some 13) (v := ?_) (a' := ?_) #[true,false,false,false,false,false] rfl rfl (by kernel_rfl) (fun _ _ _ h => h) (Or.inl ⟨by rfl, ?_⟩) hHeld ?_ ?_
  rotate_left
  ·rintro w' ⟨s0, s1, s2, s3, s4, s5, s6, s7⟩
   go_simp
   with_reducible rfl
  rotate_left
  ·simp only [Act.put, List.setIfInBounds_toArray, List.set_cons_zero, List.set_cons_succ, i64_w, i32_w]
   rfl
  refine take_ (i := 2) (N := some 15) (v := ?_) (a' := ?_) #[true,false,true,false,false,false] rfl rfl (by kernel_rfl) (fun _ _ _ h => h) (Or.inl ⟨by rfl, ?_⟩) hHeld ?_ ?_
  rotate_left
  ·rintro w' ⟨s0, s1, s2, s3, s4, s5, s6, s7⟩
   go_simp
   with_reducible rfl
  rotate_left
  ·simp only [Act.put, List.setIfInBounds_toArray, List.set_cons_zero, List.set_cons_succ, i64_w, i32_w]
   rfl
  refine one_ (i := 1) (N := some 14) #[true,true,true,false,false,false] rfl rfl (by kernel_rfl) (by decide) (fun K hK => ?_)
  refine goes_ Try.func12 (by kernel_rfl) rfl #[.agg #[.bool a0_0, .slice A0_1 l0_1.length c0_1, .slice A0_2 l0_2.length c0_2, .slice A0_3 l0_3.length c0_3]] (by rfl) rfl rfl (by (try simp only [List.map_toArray, List.map_cons, List.map_nil]); first | done | rfl | (simp only [List.length_drop, List.length_take]; rfl)) ?_
  with_reducible refine (engrosslaw11_Cut.calls k a0_0 _ _ l0_1 _ _ l0_2 _ _ l0_3 t948 t949 t952 t955 _ ?side1 ?side2 ?side3 ?side4 ?side5 ?side6 A5.out).mono ?_
  (case side1 => repeat (first | exact (Kd.C_below HR0_1.out HB.out) | (with_reducible refine Kd.C_alloc ?_ _) | (with_reducible refine Kd.C_drewN ?_ _) | (with_reducible refine Kd.C_drew ?_)))
  (case side2 => exact HC0_1.out)
  (case side3 => repeat (first | exact (Kd.C_below HR0_2.out HB.out) | (with_reducible refine Kd.C_alloc ?_ _) | (with_reducible refine Kd.C_drewN ?_ _) | (with_reducible refine Kd.C_drew ?_)))
  (case side4 => exact HC0_2.out)
  (case side5 => repeat (first | exact (Kd.C_below HR0_3.out HB.out) | (with_reducible refine Kd.C_alloc ?_ _) | (with_reducible refine Kd.C_drewN ?_ _) | (with_reducible refine Kd.C_drew ?_)))
  (case side6 => exact HC0_3.out)
  rintro e w91 ⟨v950, v953, v956, rfl, ho0, ho1, ho2, hb⟩
  refine ⟨_, rfl, ?_⟩
  have HO951 := Aside0.mk (Kd.R_lower ho0 (below_size (bC HB)))
  have HO954 := Aside0.mk (Kd.R_lower ho1 (below_size (bC HB)))
  have HO957 := Aside0.mk (Kd.R_lower ho2 (below_size (bC HB)))
  replace BK945 := bB BK945 hb
  replace BK946 := bB BK946 hb
  replace HB := bW HB hb
  (try clear hb)
  (try clear hb2)
  (try clear hk)
  (try clear hi)
  (try clear ho0)
  (try clear ho1)
  (try clear ho2)
  refine hK.out _ _ (bn4 BK945 (be4 BK946)) (fun hHeld => ?_)
  clear hK K
  refine norm_ (a' := ?_) ?_ ?_
  rotate_left
  ·show Act.put _ (some 14) _ = _
   simp only [Act.put, List.setIfInBounds_toArray, List.set_cons_zero, List.set_cons_succ, i64_w, i32_w]
   rfl
  refine one_ (i := 3) (N := some 16) #[true,true,true,true,false,false] rfl rfl (by kernel_rfl) (by decide) (fun K hK => ?_)
  refine goes_ Try.func12 (by kernel_rfl) rfl #[.agg #[.bool a1_0, .slice A1_1 l1_1.length c1_1, .slice A1_2 l1_2.length c1_2, .slice A1_3 l1_3.length c1_3]] (by rfl) rfl rfl (by (try simp only [List.map_toArray, List.map_cons, List.map_nil]); first | done | rfl | (simp only [List.length_drop, List.length_take]; rfl)) ?_
  with_reducible refine (engrosslaw11_Cut.calls k a1_0 _ _ l1_1 _ _ l1_2 _ _ l1_3 t958 t959 t962 t965 _ ?side1 ?side2 ?side3 ?side4 ?side5 ?side6 A6.out).mono ?_
  (case side1 => repeat (first | exact (Kd.C_below HR1_1.out HB.out) | (with_reducible refine Kd.C_alloc ?_ _) | (with_reducible refine Kd.C_drewN ?_ _) | (with_reducible refine Kd.C_drew ?_)))
  (case side2 => exact HC1_1.out)
  (case side3 => repeat (first | exact (Kd.C_below HR1_2.out HB.out) | (with_reducible refine Kd.C_alloc ?_ _) | (with_reducible refine Kd.C_drewN ?_ _) | (with_reducible refine Kd.C_drew ?_)))
  (case side4 => exact HC1_2.out)
  (case side5 => repeat (first | exact (Kd.C_below HR1_3.out HB.out) | (with_reducible refine Kd.C_alloc ?_ _) | (with_reducible refine Kd.C_drewN ?_ _) | (with_reducible refine Kd.C_drew ?_)))
  (case side6 => exact HC1_3.out)
  rintro e w92 ⟨v960, v963, v966, rfl, ho0, ho1, ho2, hb⟩
  refine ⟨_, rfl, ?_⟩
  have HO961 := Aside0.mk (Kd.R_lower (Kd.R_new' ho0 (Kd.R_lt (by (with_reducible repeat (first | apply Kd.R_alloc | apply Kd.R_drewN | apply Kd.R_drew)); exact HO951.out))) (below_size (bC HB)))
  have HO964 := Aside0.mk (Kd.R_lower (Kd.R_new' ho1 (Kd.R_lt (by (with_reducible repeat (first | apply Kd.R_alloc | apply Kd.R_drewN | apply Kd.R_drew)); exact HO954.out))) (below_size (bC HB)))
  have HO967 := Aside0.mk (Kd.R_lower (Kd.R_new' ho2 (Kd.R_lt (by (with_reducible repeat (first | apply Kd.R_alloc | apply Kd.R_drewN | apply Kd.R_drew)); exact HO957.out))) (below_size (bC HB)))
  replace HO951 := rE HO951 (Kd.R_base ho0) hb
  replace HO954 := rE HO954 (Kd.R_base ho1) hb
  replace HO957 := rE HO957 (Kd.R_base ho2) hb
  replace BK945 := bB BK945 hb
  replace BK946 := bB BK946 hb
  replace HB := bW HB hb
  (try clear hb)
  (try clear hb2)
  (try clear hk)
  (try clear hi)
  (try clear ho0)
  (try clear ho1)
  (try clear ho2)
  obtain ⟨Ao94, co94, eo94⟩ := Kd.R_slice HO951.out
  (first | subst eo94 | (injection eo94 with f1_ f2_ f3_; have f4_ := f1_.symm; have f5_ := f3_.symm; clear f1_ f2_ f3_; subst f4_; subst f5_))
  obtain ⟨Ao96, co96, eo96⟩ := Kd.R_slice HO954.out
  (first | subst eo96 | (injection eo96 with f1_ f2_ f3_; have f4_ := f1_.symm; have f5_ := f3_.symm; clear f1_ f2_ f3_; subst f4_; subst f5_))
  obtain ⟨Ao98, co98, eo98⟩ := Kd.R_slice HO957.out
  (first | subst eo98 | (injection eo98 with f1_ f2_ f3_; have f4_ := f1_.symm; have f5_ := f3_.symm; clear f1_ f2_ f3_; subst f4_; subst f5_))
  obtain ⟨Ao101, co101, eo101⟩ := Kd.R_slice HO961.out
  (first | subst eo101 | (injection eo101 with f1_ f2_ f3_; have f4_ := f1_.symm; have f5_ := f3_.symm; clear f1_ f2_ f3_; subst f4_; subst f5_))
  obtain ⟨Ao103, co103, eo103⟩ := Kd.R_slice HO964.out
  (first | subst eo103 | (injection eo103 with f1_ f2_ f3_; have f4_ := f1_.symm; have f5_ := f3_.symm; clear f1_ f2_ f3_; subst f4_; subst f5_))
  obtain ⟨Ao105, co105, eo105⟩ := Kd.R_slice HO967.out
  (first | subst eo105 | (injection eo105 with f1_ f2_ f3_; have f4_ := f1_.symm; have f5_ := f3_.symm; clear f1_ f2_ f3_; subst f4_; subst f5_))
  refine hK.out _ _ (bn4 BK945 (be4 BK946)) (fun hHeld => ?_)
  clear hK K
  refine norm_ (a' := ?_) ?_ ?_
  rotate_left
  ·show Act.put _ (some 16) _ = _
   simp only [Act.put, List.setIfInBounds_toArray, List.set_cons_zero, List.set_cons_succ, i64_w, i32_w]
   rfl
  refine last_ (i := 4) (N := none) #[true,true,true,true,true,false] rfl rfl (by kernel_rfl) (by decide) (fun K hK => ?_)
  have hs93 : w92.cell? ⟨gb945, 0, none⟩ = some (.bool a0_0) := (blk_cell BK945.out 0).trans rfl
  have hfs93 := blk_frozen BK945.out 0
  have hns93_1 := NB946_945.out
  have hms93_1 := NB945_946.out
  have hs95 : w92.cell? ⟨gb945, 1, none⟩ = some (.slice A0_1 l0_1.length c0_1) := (blk_cell BK945.out 1).trans rfl
  have hfs95 := blk_frozen BK945.out 1
  have hns95_1 := NB946_945.out
  have hms95_1 := NB945_946.out
  have hs97 : w92.cell? ⟨gb945, 2, none⟩ = some (.slice A0_2 l0_2.length c0_2) := (blk_cell BK945.out 2).trans rfl
  have hfs97 := blk_frozen BK945.out 2
  have hns97_1 := NB946_945.out
  have hms97_1 := NB945_946.out
  have hs99 : w92.cell? ⟨gb945, 3, none⟩ = some (.slice A0_3 l0_3.length c0_3) := (blk_cell BK945.out 3).trans rfl
  have hfs99 := blk_frozen BK945.out 3
  have hns99_1 := NB946_945.out
  have hms99_1 := NB945_946.out
  with_reducible refine skip_ (w1 := ?_) (by with_unfolding_all rfl) (by with_unfolding_all rfl) ?_ ?_
  rotate_left
  ·go_simp
   rfl
  refine hK.out _ _ ?_
  clear hK K
  refine last_ (i := 5) (N := none) #[true,true,true,true,true,true] rfl rfl (by kernel_rfl) (by decide) (fun K hK => ?_)
  have hs100 : w92.cell? ⟨gb946, 0, none⟩ = some (.bool a1_0) := (blk_cell BK946.out 0).trans rfl
  have hfs100 := blk_frozen BK946.out 0
  have hns100_0 := NB945_946.out
  have hms100_0 := NB946_945.out
  have hs102 : w92.cell? ⟨gb946, 1, none⟩ = some (.slice A1_1 l1_1.length c1_1) := (blk_cell BK946.out 1).trans rfl
  have hfs102 := blk_frozen BK946.out 1
  have hns102_0 := NB945_946.out
  have hms102_0 := NB946_945.out
  have hs104 : w92.cell? ⟨gb946, 2, none⟩ = some (.slice A1_2 l1_2.length c1_2) := (blk_cell BK946.out 2).trans rfl
  have hfs104 := blk_frozen BK946.out 2
  have hns104_0 := NB945_946.out
  have hms104_0 := NB946_945.out
  have hs106 : w92.cell? ⟨gb946, 3, none⟩ = some (.slice A1_3 l1_3.length c1_3) := (blk_cell BK946.out 3).trans rfl
  have hfs106 := blk_frozen BK946.out 3
  have hns106_0 := NB945_946.out
  have hms106_0 := NB946_945.out
  with_reducible refine skip_ (w1 := ?_) (by with_unfolding_all rfl) (by with_unfolding_all rfl) ?_ ?_
  rotate_left
  ·go_simp
   rfl
  refine hK.out _ _ ?_
  clear hK K
  refine done_ (by kernel_rfl) ?_
  have n0_ : Aside0 (Kd.R k56 56 ((((((((w92.setCell ⟨gb945, 0, none⟩ (.bool t948)).setCell ⟨gb945, 1, none⟩ (.slice Ao94 t949.length co94)).setCell ⟨gb945, 2, none⟩ (.slice Ao96 t952.length co96)).setCell ⟨gb945, 3, none⟩ (.slice Ao98 t955.length co98)).setCell ⟨gb946, 0, none⟩ (.bool t958)).setCell ⟨gb946, 1, none⟩ (.slice Ao101 t959.length co101)).setCell ⟨gb946, 2, none⟩ (.slice Ao103 t962.length co103)).setCell ⟨gb946, 3, none⟩ (.slice Ao105 t965.length co105)) w.heap.size (fun k_ => some k_ ≠ (.slice Ao101 t959.length co101 : Value).ownBlock) (.slice Ao94 t949.length co94) t949) := ⟨by (with_reducible repeat (first | apply Kd.R_alloc | apply Kd.R_drewN | apply Kd.R_drew)); exact Kd.R_mono (Kd.R_far (p := ⟨gb946, 3, none⟩) (Kd.R_far (p := ⟨gb946, 2, none⟩) (Kd.R_far (p := ⟨gb946, 1, none⟩) (Kd.R_far (p := ⟨gb946, 0, none⟩) (Kd.R_far (p := ⟨gb945, 3, none⟩) (Kd.R_far (p := ⟨gb945, 2, none⟩) (Kd.R_far (p := ⟨gb945, 1, none⟩) (Kd.R_far (p := ⟨gb945, 0, none⟩) (Kd.R_types (Kd.R_types HO951.out BK945.out (by decide)) BK946.out (by decide)) (fun _ hk => hk.1.2) (.bool t948)) (fun _ hk => hk.1.2) (.slice Ao94 t949.length co94)) (fun _ hk => hk.1.2) (.slice Ao96 t952.length co96)) (fun _ hk => hk.1.2) (.slice Ao98 t955.length co98)) (fun _ hk => hk.2) (.bool t958)) (fun _ hk => hk.2) (.slice Ao101 t959.length co101)) (fun _ hk => hk.2) (.slice Ao103 t962.length co103)) (fun _ hk => hk.2) (.slice Ao105 t965.length co105)) (fun _ hk => hk.1.1.2)⟩
  have n1_ : Aside0 (Kd.R Kd.string 9 ((((((((w92.setCell ⟨gb945, 0, none⟩ (.bool t948)).setCell ⟨gb945, 1, none⟩ (.slice Ao94 t949.length co94)).setCell ⟨gb945, 2, none⟩ (.slice Ao96 t952.length co96)).setCell ⟨gb945, 3, none⟩ (.slice Ao98 t955.length co98)).setCell ⟨gb946, 0, none⟩ (.bool t958)).setCell ⟨gb946, 1, none⟩ (.slice Ao101 t959.length co101)).setCell ⟨gb946, 2, none⟩ (.slice Ao103 t962.length co103)).setCell ⟨gb946, 3, none⟩ (.slice Ao105 t965.length co105)) w.heap.size (fun k_ => some k_ ≠ (.slice Ao103 t962.length co103 : Value).ownBlock) (.slice Ao96 t952.length co96) t952) := ⟨by (with_reducible repeat (first | apply Kd.R_alloc | apply Kd.R_drewN | apply Kd.R_drew)); exact Kd.R_mono (Kd.R_far (p := ⟨gb946, 3, none⟩) (Kd.R_far (p := ⟨gb946, 2, none⟩) (Kd.R_far (p := ⟨gb946, 1, none⟩) (Kd.R_far (p := ⟨gb946, 0, none⟩) (Kd.R_far (p := ⟨gb945, 3, none⟩) (Kd.R_far (p := ⟨gb945, 2, none⟩) (Kd.R_far (p := ⟨gb945, 1, none⟩) (Kd.R_far (p := ⟨gb945, 0, none⟩) (Kd.R_types (Kd.R_types HO954.out BK945.out (by decide)) BK946.out (by decide)) (fun _ hk => hk.1.2) (.bool t948)) (fun _ hk => hk.1.2) (.slice Ao94 t949.length co94)) (fun _ hk => hk.1.2) (.slice Ao96 t952.length co96)) (fun _ hk => hk.1.2) (.slice Ao98 t955.length co98)) (fun _ hk => hk.2) (.bool t958)) (fun _ hk => hk.2) (.slice Ao101 t959.length co101)) (fun _ hk => hk.2) (.slice Ao103 t962.length co103)) (fun _ hk => hk.2) (.slice Ao105 t965.length co105)) (fun _ hk => hk.1.1.2)⟩
  have n2_ : Aside0 (Kd.R (Kd.int .i64) 3 ((((((((w92.setCell ⟨gb945, 0, none⟩ (.bool t948)).setCell ⟨gb945, 1, none⟩ (.slice Ao94 t949.length co94)).setCell ⟨gb945, 2, none⟩ (.slice Ao96 t952.length co96)).setCell ⟨gb945, 3, none⟩ (.slice Ao98 t955.length co98)).setCell ⟨gb946, 0, none⟩ (.bool t958)).setCell ⟨gb946, 1, none⟩ (.slice Ao101 t959.length co101)).setCell ⟨gb946, 2, none⟩ (.slice Ao103 t962.length co103)).setCell ⟨gb946, 3, none⟩ (.slice Ao105 t965.length co105)) w.heap.size (fun k_ => some k_ ≠ (.slice Ao105 t965.length co105 : Value).ownBlock) (.slice Ao98 t955.length co98) t955) := ⟨by (with_reducible repeat (first | apply Kd.R_alloc | apply Kd.R_drewN | apply Kd.R_drew)); exact Kd.R_mono (Kd.R_far (p := ⟨gb946, 3, none⟩) (Kd.R_far (p := ⟨gb946, 2, none⟩) (Kd.R_far (p := ⟨gb946, 1, none⟩) (Kd.R_far (p := ⟨gb946, 0, none⟩) (Kd.R_far (p := ⟨gb945, 3, none⟩) (Kd.R_far (p := ⟨gb945, 2, none⟩) (Kd.R_far (p := ⟨gb945, 1, none⟩) (Kd.R_far (p := ⟨gb945, 0, none⟩) (Kd.R_types (Kd.R_types HO957.out BK945.out (by decide)) BK946.out (by decide)) (fun _ hk => hk.1.2) (.bool t948)) (fun _ hk => hk.1.2) (.slice Ao94 t949.length co94)) (fun _ hk => hk.1.2) (.slice Ao96 t952.length co96)) (fun _ hk => hk.1.2) (.slice Ao98 t955.length co98)) (fun _ hk => hk.2) (.bool t958)) (fun _ hk => hk.2) (.slice Ao101 t959.length co101)) (fun _ hk => hk.2) (.slice Ao103 t962.length co103)) (fun _ hk => hk.2) (.slice Ao105 t965.length co105)) (fun _ hk => hk.1.1.2)⟩
  have n3_ : Aside0 (Kd.R k56 56 ((((((((w92.setCell ⟨gb945, 0, none⟩ (.bool t948)).setCell ⟨gb945, 1, none⟩ (.slice Ao94 t949.length co94)).setCell ⟨gb945, 2, none⟩ (.slice Ao96 t952.length co96)).setCell ⟨gb945, 3, none⟩ (.slice Ao98 t955.length co98)).setCell ⟨gb946, 0, none⟩ (.bool t958)).setCell ⟨gb946, 1, none⟩ (.slice Ao101 t959.length co101)).setCell ⟨gb946, 2, none⟩ (.slice Ao103 t962.length co103)).setCell ⟨gb946, 3, none⟩ (.slice Ao105 t965.length co105)) w.heap.size (fun k_ => some k_ ≠ (.slice Ao94 t949.length co94 : Value).ownBlock) (.slice Ao101 t959.length co101) t959) := ⟨by (with_reducible repeat (first | apply Kd.R_alloc | apply Kd.R_drewN | apply Kd.R_drew)); exact Kd.R_mono (Kd.R_far (p := ⟨gb946, 3, none⟩) (Kd.R_far (p := ⟨gb946, 2, none⟩) (Kd.R_far (p := ⟨gb946, 1, none⟩) (Kd.R_far (p := ⟨gb946, 0, none⟩) (Kd.R_far (p := ⟨gb945, 3, none⟩) (Kd.R_far (p := ⟨gb945, 2, none⟩) (Kd.R_far (p := ⟨gb945, 1, none⟩) (Kd.R_far (p := ⟨gb945, 0, none⟩) (Kd.R_types (Kd.R_types HO961.out BK945.out (by decide)) BK946.out (by decide)) (fun _ hk => hk.1.2) (.bool t948)) (fun _ hk => hk.1.2) (.slice Ao94 t949.length co94)) (fun _ hk => hk.1.2) (.slice Ao96 t952.length co96)) (fun _ hk => hk.1.2) (.slice Ao98 t955.length co98)) (fun _ hk => hk.2) (.bool t958)) (fun _ hk => hk.2) (.slice Ao101 t959.length co101)) (fun _ hk => hk.2) (.slice Ao103 t962.length co103)) (fun _ hk => hk.2) (.slice Ao105 t965.length co105)) (fun _ hk => hk.1.1.2)⟩
  have n4_ : Aside0 (Kd.R Kd.string 9 ((((((((w92.setCell ⟨gb945, 0, none⟩ (.bool t948)).setCell ⟨gb945, 1, none⟩ (.slice Ao94 t949.length co94)).setCell ⟨gb945, 2, none⟩ (.slice Ao96 t952.length co96)).setCell ⟨gb945, 3, none⟩ (.slice Ao98 t955.length co98)).setCell ⟨gb946, 0, none⟩ (.bool t958)).setCell ⟨gb946, 1, none⟩ (.slice Ao101 t959.length co101)).setCell ⟨gb946, 2, none⟩ (.slice Ao103 t962.length co103)).setCell ⟨gb946, 3, none⟩ (.slice Ao105 t965.length co105)) w.heap.size (fun k_ => some k_ ≠ (.slice Ao96 t952.length co96 : Value).ownBlock) (.slice Ao103 t962.length co103) t962) := ⟨by (with_reducible repeat (first | apply Kd.R_alloc | apply Kd.R_drewN | apply Kd.R_drew)); exact Kd.R_mono (Kd.R_far (p := ⟨gb946, 3, none⟩) (Kd.R_far (p := ⟨gb946, 2, none⟩) (Kd.R_far (p := ⟨gb946, 1, none⟩) (Kd.R_far (p := ⟨gb946, 0, none⟩) (Kd.R_far (p := ⟨gb945, 3, none⟩) (Kd.R_far (p := ⟨gb945, 2, none⟩) (Kd.R_far (p := ⟨gb945, 1, none⟩) (Kd.R_far (p := ⟨gb945, 0, none⟩) (Kd.R_types (Kd.R_types HO964.out BK945.out (by decide)) BK946.out (by decide)) (fun _ hk => hk.1.2) (.bool t948)) (fun _ hk => hk.1.2) (.slice Ao94 t949.length co94)) (fun _ hk => hk.1.2) (.slice Ao96 t952.length co96)) (fun _ hk => hk.1.2) (.slice Ao98 t955.length co98)) (fun _ hk => hk.2) (.bool t958)) (fun _ hk => hk.2) (.slice Ao101 t959.length co101)) (fun _ hk => hk.2) (.slice Ao103 t962.length co103)) (fun _ hk => hk.2) (.slice Ao105 t965.length co105)) (fun _ hk => hk.1.1.2)⟩
  have n5_ : Aside0 (Kd.R (Kd.int .i64) 3 ((((((((w92.setCell ⟨gb945, 0, none⟩ (.bool t948)).setCell ⟨gb945, 1, none⟩ (.slice Ao94 t949.length co94)).setCell ⟨gb945, 2, none⟩ (.slice Ao96 t952.length co96)).setCell ⟨gb945, 3, none⟩ (.slice Ao98 t955.length co98)).setCell ⟨gb946, 0, none⟩ (.bool t958)).setCell ⟨gb946, 1, none⟩ (.slice Ao101 t959.length co101)).setCell ⟨gb946, 2, none⟩ (.slice Ao103 t962.length co103)).setCell ⟨gb946, 3, none⟩ (.slice Ao105 t965.length co105)) w.heap.size (fun k_ => some k_ ≠ (.slice Ao98 t955.length co98 : Value).ownBlock) (.slice Ao105 t965.length co105) t965) := ⟨by (with_reducible repeat (first | apply Kd.R_alloc | apply Kd.R_drewN | apply Kd.R_drew)); exact Kd.R_mono (Kd.R_far (p := ⟨gb946, 3, none⟩) (Kd.R_far (p := ⟨gb946, 2, none⟩) (Kd.R_far (p := ⟨gb946, 1, none⟩) (Kd.R_far (p := ⟨gb946, 0, none⟩) (Kd.R_far (p := ⟨gb945, 3, none⟩) (Kd.R_far (p := ⟨gb945, 2, none⟩) (Kd.R_far (p := ⟨gb945, 1, none⟩) (Kd.R_far (p := ⟨gb945, 0, none⟩) (Kd.R_types (Kd.R_types HO967.out BK945.out (by decide)) BK946.out (by decide)) (fun _ hk => hk.1.2) (.bool t948)) (fun _ hk => hk.1.2) (.slice Ao94 t949.length co94)) (fun _ hk => hk.1.2) (.slice Ao96 t952.length co96)) (fun _ hk => hk.1.2) (.slice Ao98 t955.length co98)) (fun _ hk => hk.2) (.bool t958)) (fun _ hk => hk.2) (.slice Ao101 t959.length co101)) (fun _ hk => hk.2) (.slice Ao103 t962.length co103)) (fun _ hk => hk.2) (.slice Ao105 t965.length co105)) (fun _ hk => hk.1.1.2)⟩
  have n6_ : Aside0 (((((((((w92.setCell ⟨gb945, 0, none⟩ (.bool t948)).setCell ⟨gb945, 1, none⟩ (.slice Ao94 t949.length co94)).setCell ⟨gb945, 2, none⟩ (.slice Ao96 t952.length co96)).setCell ⟨gb945, 3, none⟩ (.slice Ao98 t955.length co98)).setCell ⟨gb946, 0, none⟩ (.bool t958)).setCell ⟨gb946, 1, none⟩ (.slice Ao101 t959.length co101)).setCell ⟨gb946, 2, none⟩ (.slice Ao103 t962.length co103)).setCell ⟨gb946, 3, none⟩ (.slice Ao105 t965.length co105)).heap[gb945]? = some (.cells #[.bool t948, .slice Ao94 t949.length co94, .slice Ao96 t952.length co96, .slice Ao98 t955.length co98] 26 (0, 0))) := ⟨by (with_reducible repeat (first | refine blk_drewN ?_ _ | refine blk_drew ?_ | refine blk_alloc ?_ _)); refine blk_far ?_ NB945_946.out _; (with_reducible repeat (first | refine blk_drewN ?_ _ | refine blk_drew ?_ | refine blk_alloc ?_ _)); refine blk_far ?_ NB945_946.out _; (with_reducible repeat (first | refine blk_drewN ?_ _ | refine blk_drew ?_ | refine blk_alloc ?_ _)); refine blk_far ?_ NB945_946.out _; (with_reducible repeat (first | refine blk_drewN ?_ _ | refine blk_drew ?_ | refine blk_alloc ?_ _)); refine blk_far ?_ NB945_946.out _; (with_reducible repeat (first | refine blk_drewN ?_ _ | refine blk_drew ?_ | refine blk_alloc ?_ _)); refine blk_put (cs := #[.bool t948, .slice Ao94 t949.length co94, .slice Ao96 t952.length co96, .slice A0_3 l0_3.length c0_3]) ?_ 3 _ rfl; (with_reducible repeat (first | refine blk_drewN ?_ _ | refine blk_drew ?_ | refine blk_alloc ?_ _)); refine blk_put (cs := #[.bool t948, .slice Ao94 t949.length co94, .slice A0_2 l0_2.length c0_2, .slice A0_3 l0_3.length c0_3]) ?_ 2 _ rfl; (with_reducible repeat (first | refine blk_drewN ?_ _ | refine blk_drew ?_ | refine blk_alloc ?_ _)); refine blk_put (cs := #[.bool t948, .slice A0_1 l0_1.length c0_1, .slice A0_2 l0_2.length c0_2, .slice A0_3 l0_3.length c0_3]) ?_ 1 _ rfl; (with_reducible repeat (first | refine blk_drewN ?_ _ | refine blk_drew ?_ | refine blk_alloc ?_ _)); refine blk_put (cs := #[.bool a0_0, .slice A0_1 l0_1.length c0_1, .slice A0_2 l0_2.length c0_2, .slice A0_3 l0_3.length c0_3]) ?_ 0 _ rfl; (with_reducible repeat (first | refine blk_drewN ?_ _ | refine blk_drew ?_ | refine blk_alloc ?_ _)); exact BK945.out⟩
  have n7_ : Aside0 (((((((((w92.setCell ⟨gb945, 0, none⟩ (.bool t948)).setCell ⟨gb945, 1, none⟩ (.slice Ao94 t949.length co94)).setCell ⟨gb945, 2, none⟩ (.slice Ao96 t952.length co96)).setCell ⟨gb945, 3, none⟩ (.slice Ao98 t955.length co98)).setCell ⟨gb946, 0, none⟩ (.bool t958)).setCell ⟨gb946, 1, none⟩ (.slice Ao101 t959.length co101)).setCell ⟨gb946, 2, none⟩ (.slice Ao103 t962.length co103)).setCell ⟨gb946, 3, none⟩ (.slice Ao105 t965.length co105)).heap[gb946]? = some (.cells #[.bool t958, .slice Ao101 t959.length co101, .slice Ao103 t962.length co103, .slice Ao105 t965.length co105] 26 (0, 0))) := ⟨by (with_reducible repeat (first | refine blk_drewN ?_ _ | refine blk_drew ?_ | refine blk_alloc ?_ _)); refine blk_put (cs := #[.bool t958, .slice Ao101 t959.length co101, .slice Ao103 t962.length co103, .slice A1_3 l1_3.length c1_3]) ?_ 3 _ rfl; (with_reducible repeat (first | refine blk_drewN ?_ _ | refine blk_drew ?_ | refine blk_alloc ?_ _)); refine blk_put (cs := #[.bool t958, .slice Ao101 t959.length co101, .slice A1_2 l1_2.length c1_2, .slice A1_3 l1_3.length c1_3]) ?_ 2 _ rfl; (with_reducible repeat (first | refine blk_drewN ?_ _ | refine blk_drew ?_ | refine blk_alloc ?_ _)); refine blk_put (cs := #[.bool t958, .slice A1_1 l1_1.length c1_1, .slice A1_2 l1_2.length c1_2, .slice A1_3 l1_3.length c1_3]) ?_ 1 _ rfl; (with_reducible repeat (first | refine blk_drewN ?_ _ | refine blk_drew ?_ | refine blk_alloc ?_ _)); refine blk_put (cs := #[.bool a1_0, .slice A1_1 l1_1.length c1_1, .slice A1_2 l1_2.length c1_2, .slice A1_3 l1_3.length c1_3]) ?_ 0 _ rfl; (with_reducible repeat (first | refine blk_drewN ?_ _ | refine blk_drew ?_ | refine blk_alloc ?_ _)); refine blk_far ?_ NB946_945.out _; (with_reducible repeat (first | refine blk_drewN ?_ _ | refine blk_drew ?_ | refine blk_alloc ?_ _)); refine blk_far ?_ NB946_945.out _; (with_reducible repeat (first | refine blk_drewN ?_ _ | refine blk_drew ?_ | refine blk_alloc ?_ _)); refine blk_far ?_ NB946_945.out _; (with_reducible repeat (first | refine blk_drewN ?_ _ | refine blk_drew ?_ | refine blk_alloc ?_ _)); refine blk_far ?_ NB946_945.out _; (with_reducible repeat (first | refine blk_drewN ?_ _ | refine blk_drew ?_ | refine blk_alloc ?_ _)); exact BK946.out⟩
  have n8_ : Aside0 (Below w.heap.size w ((((((((w92.setCell ⟨gb945, 0, none⟩ (.bool t948)).setCell ⟨gb945, 1, none⟩ (.slice Ao94 t949.length co94)).setCell ⟨gb945, 2, none⟩ (.slice Ao96 t952.length co96)).setCell ⟨gb945, 3, none⟩ (.slice Ao98 t955.length co98)).setCell ⟨gb946, 0, none⟩ (.bool t958)).setCell ⟨gb946, 1, none⟩ (.slice Ao101 t959.length co101)).setCell ⟨gb946, 2, none⟩ (.slice Ao103 t962.length co103)).setCell ⟨gb946, 3, none⟩ (.slice Ao105 t965.length co105))) := ⟨by repeat (first | (with_reducible first | exact HB.out | apply below_alloc | apply pw_below_drewN | apply below_drew1 | refine below_set ?_ GE945.out | refine below_set ?_ GE946.out) | exact HB.out)⟩
  (try clear HO951)
  (try clear HO954)
  (try clear HO957)
  (try clear HO961)
  (try clear HO964)
  (try clear HO967)
  (try clear BK945)
  (try clear BK946)
  (try clear HB)
  generalize ((((((((w92.setCell ⟨gb945, 0, none⟩ (.bool t948)).setCell ⟨gb945, 1, none⟩ (.slice Ao94 t949.length co94)).setCell ⟨gb945, 2, none⟩ (.slice Ao96 t952.length co96)).setCell ⟨gb945, 3, none⟩ (.slice Ao98 t955.length co98)).setCell ⟨gb946, 0, none⟩ (.bool t958)).setCell ⟨gb946, 1, none⟩ (.slice Ao101 t959.length co101)).setCell ⟨gb946, 2, none⟩ (.slice Ao103 t962.length co103)).setCell ⟨gb946, 3, none⟩ (.slice Ao105 t965.length co105)) = w107 at n0_ n1_ n2_ n3_ n4_ n5_ n6_ n7_ n8_ ⊢
  have HO951 := n0_
  have HO954 := n1_
  have HO957 := n2_
  have HO961 := n3_
  have HO964 := n4_
  have HO967 := n5_
  have BK945 := n6_
  have BK946 := n7_
  have HB := n8_
  clear n0_ n1_ n2_ n3_ n4_ n5_ n6_ n7_ n8_
  have hnb108 := NB945_946.out
  have hnc108 := NB946_945.out
  obtain ⟨hcz109_0, hcz109_1, hcz109_2, hcz109_3, hfz109_0, hfz109_1, hfz109_2, hfz109_3⟩ := bf4 (w := w107) BK945
  try go_wp2_with (first | ((with_reducible refine gate_callee (f := 17) rfl ?_); refine gL (some 19) Try.func17 #[.agg #[.bool t948, .slice Ao94 t949.length co94, .slice Ao96 t952.length co96, .slice Ao98 t955.length co98]] ?_; (with_reducible refine (engrosslaw11_Of.calls k t948 _ _ t949 (fun k_ => some k_ = (.slice Ao96 t952.length co96 : Value).ownBlock) _ _ t952 (fun k_ => some k_ = (.slice Ao98 t955.length co98 : Value).ownBlock) _ _ t955 t968 t969 t972 t975 _ ?side1 ?side2 ?side3 ?side4 A7.out).mono ?_); (case side1 => repeat (first | exact (Kd.R_reads' HO951.out).2.2 | (with_reducible refine Kd.C_alloc ?_ _) | (with_reducible refine Kd.C_drewN ?_ _) | (with_reducible refine Kd.C_drew ?_))); (case side2 => exact (Kd.R_reads' HO951.out).2.1); (case side3 => exact Kd.R_V (Kd.R_tight rfl (Kd.R_types (Kd.R_types (Kd.R_apart' (Kd.R_apart' (Kd.R_apart' (Kd.R_apart' (HO954.out) (Kd.R_typed HO951.out) (by decide)) (Kd.R_typed HO957.out) (by decide)) (Kd.R_typed HO961.out) (by decide)) (Kd.R_typed HO967.out) (by decide)) BK945.out (by decide)) BK946.out (by decide)))); (case side4 => exact Kd.R_V (Kd.R_tight rfl (Kd.R_types (Kd.R_types (Kd.R_apart' (Kd.R_apart' (Kd.R_apart' (Kd.R_apart' (HO957.out) (Kd.R_typed HO951.out) (by decide)) (Kd.R_typed HO954.out) (by decide)) (Kd.R_typed HO961.out) (by decide)) (Kd.R_typed HO964.out) (by decide)) BK945.out (by decide)) BK946.out (by decide)))); rintro e w110 ⟨v970, v973, v976, rfl, ho0, ho1, ho2, hb⟩; refine ⟨_, rfl, ?_⟩; have HO971 := Aside0.mk (Kd.R_lower (Kd.R_mono (ok' := fun k_ => True) ho0 (fun _ hk_ => trivial)) (below_size (bC HB))); have q0_ := (Kd.R_types (Kd.R_types (Kd.R_apart' (Kd.R_apart' (Kd.R_apart' (Kd.R_apart' (HO954.out) (Kd.R_typed HO951.out) (by decide)) (Kd.R_typed HO957.out) (by decide)) (Kd.R_typed HO961.out) (by decide)) (Kd.R_typed HO967.out) (by decide)) BK945.out (by decide)) BK946.out (by decide)); have q1_ := (Kd.R_types (Kd.R_types (Kd.R_apart' (Kd.R_apart' (Kd.R_apart' (Kd.R_apart' (HO957.out) (Kd.R_typed HO951.out) (by decide)) (Kd.R_typed HO954.out) (by decide)) (Kd.R_typed HO961.out) (by decide)) (Kd.R_typed HO964.out) (by decide)) BK945.out (by decide)) BK946.out (by decide)); have HO974 := Aside0.mk (Kd.V_lower (Kd.V_mono (ok' := fun k_ => some k_ ≠ (v970 : Value).ownBlock ∧ some k_ ≠ (.slice Ao94 t949.length co94 : Value).ownBlock ∧ some k_ ≠ (.slice Ao101 t959.length co101 : Value).ownBlock ∧ some k_ ≠ (.slice Ao103 t962.length co103 : Value).ownBlock ∧ some k_ ≠ (.slice Ao105 t965.length co105 : Value).ownBlock ∧ k_ ≠ gb945 ∧ k_ ≠ gb946) ho1 (fun k_ hk_ => ⟨hk_.2, Or.elim hk_.1 (fun hs_ => Or.elim hs_ (fun hs_ => (q0_.1 k_ hs_.symm).1.1.1.1.1.2) (fun hs_ => (q1_.1 k_ hs_.symm).1.1.1.1.1.2)) (fun hn_ => (rF HO951 k_ hn_)), Or.elim hk_.1 (fun hs_ => Or.elim hs_ (fun hs_ => (q0_.1 k_ hs_.symm).1.1.1.2) (fun hs_ => (q1_.1 k_ hs_.symm).1.1.1.2)) (fun hn_ => (rF HO961 k_ hn_)), Or.elim hk_.1 (fun hs_ => Or.elim hs_ (fun hs_ => (q0_.1 k_ hs_.symm).1.1.1.1.1.1) (fun hs_ => (q1_.1 k_ hs_.symm).1.1.2)) (fun hn_ => (rF HO964 k_ hn_)), Or.elim hk_.1 (fun hs_ => Or.elim hs_ (fun hs_ => (q0_.1 k_ hs_.symm).1.1.2) (fun hs_ => (q1_.1 k_ hs_.symm).1.1.1.1.1.1)) (fun hn_ => (rF HO967 k_ hn_)), Or.elim hk_.1 (fun hs_ => Or.elim hs_ (fun hs_ => (q0_.1 k_ hs_.symm).1.2) (fun hs_ => (q1_.1 k_ hs_.symm).1.2)) (fun hn_ => (Kd.freshB (bQ BK945) k_ hn_)), Or.elim hk_.1 (fun hs_ => Or.elim hs_ (fun hs_ => (q0_.1 k_ hs_.symm).2) (fun hs_ => (q1_.1 k_ hs_.symm).2)) (fun hn_ => (Kd.freshB (bQ BK946) k_ hn_))⟩)) (below_size (bC HB))); have HO977 := Aside0.mk (Kd.V_lower (Kd.V_mono (ok' := fun k_ => some k_ ≠ (v970 : Value).ownBlock ∧ some k_ ≠ (.slice Ao94 t949.length co94 : Value).ownBlock ∧ some k_ ≠ (.slice Ao101 t959.length co101 : Value).ownBlock ∧ some k_ ≠ (.slice Ao103 t962.length co103 : Value).ownBlock ∧ some k_ ≠ (.slice Ao105 t965.length co105 : Value).ownBlock ∧ k_ ≠ gb945 ∧ k_ ≠ gb946) ho2 (fun k_ hk_ => ⟨hk_.2, Or.elim hk_.1 (fun hs_ => Or.elim hs_ (fun hs_ => (q0_.1 k_ hs_.symm).1.1.1.1.1.2) (fun hs_ => (q1_.1 k_ hs_.symm).1.1.1.1.1.2)) (fun hn_ => (rF HO951 k_ hn_)), Or.elim hk_.1 (fun hs_ => Or.elim hs_ (fun hs_ => (q0_.1 k_ hs_.symm).1.1.1.2) (fun hs_ => (q1_.1 k_ hs_.symm).1.1.1.2)) (fun hn_ => (rF HO961 k_ hn_)), Or.elim hk_.1 (fun hs_ => Or.elim hs_ (fun hs_ => (q0_.1 k_ hs_.symm).1.1.1.1.1.1) (fun hs_ => (q1_.1 k_ hs_.symm).1.1.2)) (fun hn_ => (rF HO964 k_ hn_)), Or.elim hk_.1 (fun hs_ => Or.elim hs_ (fun hs_ => (q0_.1 k_ hs_.symm).1.1.2) (fun hs_ => (q1_.1 k_ hs_.symm).1.1.1.1.1.1)) (fun hn_ => (rF HO967 k_ hn_)), Or.elim hk_.1 (fun hs_ => Or.elim hs_ (fun hs_ => (q0_.1 k_ hs_.symm).1.2) (fun hs_ => (q1_.1 k_ hs_.symm).1.2)) (fun hn_ => (Kd.freshB (bQ BK945) k_ hn_)), Or.elim hk_.1 (fun hs_ => Or.elim hs_ (fun hs_ => (q0_.1 k_ hs_.symm).2) (fun hs_ => (q1_.1 k_ hs_.symm).2)) (fun hn_ => (Kd.freshB (bQ BK946) k_ hn_))⟩)) (below_size (bC HB))); clear q0_ q1_; replace HO951 := rB HO951 hb; replace HO954 := rB HO954 hb; replace HO957 := rB HO957 hb; replace HO961 := rB HO961 hb; replace HO964 := rB HO964 hb; replace HO967 := rB HO967 hb; replace BK945 := bB BK945 hb; replace BK946 := bB BK946 hb; replace HB := bW HB hb; (try clear hb); (try clear hb2); (try clear hk); (try clear hi); (try clear ho0); (try clear ho1); (try clear ho2); obtain ⟨Ao111, co111, eo111⟩ := Kd.R_slice HO971.out; subst eo111; obtain ⟨Ao112, co112, eo112⟩ := Kd.V_slice HO974.out; subst eo112; obtain ⟨Ao113, co113, eo113⟩ := Kd.V_slice HO977.out; subst eo113) | ((with_reducible refine gate_callee (f := 19) rfl ?_); refine gL (some 20) Try.func19 #[.agg #[.bool t968, .slice Ao111 t969.length co111, .slice Ao112 t972.length co112, .slice Ao113 t975.length co113]] ?_; (with_reducible refine (node_Encode.calls k t968 _ _ t969 _ _ t972 _ _ t975 t978 t981 _ ?side1 ?side2 ?side3 ?side4 ?side5 ?side6 A8.out).mono ?_); (case side1 => repeat (first | exact (Kd.R_reads' HO971.out).2.2 | (with_reducible refine Kd.C_alloc ?_ _) | (with_reducible refine Kd.C_drewN ?_ _) | (with_reducible refine Kd.C_drew ?_))); (case side2 => exact (Kd.R_reads' HO971.out).2.1); (case side3 => repeat (first | exact (Kd.V_reads' HO974.out).2.2 | (with_reducible refine Kd.C_alloc ?_ _) | (with_reducible refine Kd.C_drewN ?_ _) | (with_reducible refine Kd.C_drew ?_))); (case side4 => exact (Kd.V_reads' HO974.out).2.1); (case side5 => repeat (first | exact (Kd.V_reads' HO977.out).2.2 | (with_reducible refine Kd.C_alloc ?_ _) | (with_reducible refine Kd.C_drewN ?_ _) | (with_reducible refine Kd.C_drew ?_))); (case side6 => exact (Kd.V_reads' HO977.out).2.1); rintro e w114 ⟨v979, rfl, ho0, hb⟩; refine ⟨_, rfl, ?_⟩; have HO980 := Aside0.mk (Kd.R_lower ho0 (below_size (bC HB))); replace HO951 := rB HO951 hb; replace HO954 := rB HO954 hb; replace HO957 := rB HO957 hb; replace HO961 := rB HO961 hb; replace HO964 := rB HO964 hb; replace HO967 := rB HO967 hb; replace HO971 := rB HO971 hb; replace HO974 := vE HO974 (Kd.R_base ho0) hb; replace HO977 := vE HO977 (Kd.R_base ho0) hb; replace BK945 := bB BK945 hb; replace BK946 := bB BK946 hb; replace HB := bW HB hb; (try clear hb); (try clear hb2); (try clear hk); (try clear hi); (try clear ho0); obtain ⟨hcz115_0, hcz115_1, hcz115_2, hcz115_3, hfz115_0, hfz115_1, hfz115_2, hfz115_3⟩ := bf4 (w := w114) BK946) | ((with_reducible refine gate_callee (f := 17) rfl ?_); refine gL (some 25) Try.func17 #[.agg #[.bool t958, .slice Ao101 t959.length co101, .slice Ao103 t962.length co103, .slice Ao105 t965.length co105]] ?_; (with_reducible refine (engrosslaw11_Of.calls k t958 _ _ t959 (fun k_ => some k_ = (.slice Ao103 t962.length co103 : Value).ownBlock) _ _ t962 (fun k_ => some k_ = (.slice Ao105 t965.length co105 : Value).ownBlock) _ _ t965 t982 t983 t986 t989 _ ?side1 ?side2 ?side3 ?side4 A9.out).mono ?_); (case side1 => repeat (first | exact (Kd.R_reads' HO961.out).2.2 | (with_reducible refine Kd.C_alloc ?_ _) | (with_reducible refine Kd.C_drewN ?_ _) | (with_reducible refine Kd.C_drew ?_))); (case side2 => exact (Kd.R_reads' HO961.out).2.1); (case side3 => exact Kd.R_V (Kd.R_tight rfl (Kd.R_types (Kd.R_types (Kd.R_apart' (Kd.R_apart' (Kd.R_apart' (Kd.R_apart' (Kd.R_apart' (Kd.R_apart' (HO964.out) (Kd.R_typed HO951.out) (by decide)) (Kd.R_typed HO957.out) (by decide)) (Kd.R_typed HO961.out) (by decide)) (Kd.R_typed HO967.out) (by decide)) (Kd.R_typed HO971.out) (by decide)) (Kd.R_typed HO980.out) (by decide)) BK945.out (by decide)) BK946.out (by decide)))); (case side4 => exact Kd.R_V (Kd.R_tight rfl (Kd.R_types (Kd.R_types (Kd.R_apart' (Kd.R_apart' (Kd.R_apart' (Kd.R_apart' (Kd.R_apart' (Kd.R_apart' (HO967.out) (Kd.R_typed HO951.out) (by decide)) (Kd.R_typed HO954.out) (by decide)) (Kd.R_typed HO961.out) (by decide)) (Kd.R_typed HO964.out) (by decide)) (Kd.R_typed HO971.out) (by decide)) (Kd.R_typed HO980.out) (by decide)) BK945.out (by decide)) BK946.out (by decide)))); rintro e w116 ⟨v984, v987, v990, rfl, ho0, ho1, ho2, hb⟩; refine ⟨_, rfl, ?_⟩; have HO985 := Aside0.mk (Kd.R_lower (Kd.R_new' (Kd.R_mono (ok' := fun k_ => True) ho0 (fun _ hk_ => trivial)) (Kd.R_lt (by (with_reducible repeat (first | apply Kd.R_alloc | apply Kd.R_drewN | apply Kd.R_drew)); exact HO971.out))) (below_size (bC HB))); have q0_ := (Kd.R_types (Kd.R_types (Kd.R_apart' (Kd.R_apart' (Kd.R_apart' (Kd.R_apart' (Kd.R_apart' (Kd.R_apart' (HO964.out) (Kd.R_typed HO951.out) (by decide)) (Kd.R_typed HO957.out) (by decide)) (Kd.R_typed HO961.out) (by decide)) (Kd.R_typed HO967.out) (by decide)) (Kd.R_typed HO971.out) (by decide)) (Kd.R_typed HO980.out) (by decide)) BK945.out (by decide)) BK946.out (by decide)); have q1_ := (Kd.R_types (Kd.R_types (Kd.R_apart' (Kd.R_apart' (Kd.R_apart' (Kd.R_apart' (Kd.R_apart' (Kd.R_apart' (HO967.out) (Kd.R_typed HO951.out) (by decide)) (Kd.R_typed HO954.out) (by decide)) (Kd.R_typed HO961.out) (by decide)) (Kd.R_typed HO964.out) (by decide)) (Kd.R_typed HO971.out) (by decide)) (Kd.R_typed HO980.out) (by decide)) BK945.out (by decide)) BK946.out (by decide)); have HO988 := Aside0.mk (Kd.V_lower (Kd.V_mono (ok' := fun k_ => some k_ ≠ (v984 : Value).ownBlock ∧ some k_ ≠ (.slice Ao94 t949.length co94 : Value).ownBlock ∧ some k_ ≠ (.slice Ao96 t952.length co96 : Value).ownBlock ∧ some k_ ≠ (.slice Ao98 t955.length co98 : Value).ownBlock ∧ some k_ ≠ (.slice Ao101 t959.length co101 : Value).ownBlock ∧ some k_ ≠ (.slice Ao111 t969.length co111 : Value).ownBlock ∧ some k_ ≠ (v979 : Value).ownBlock ∧ k_ ≠ gb945 ∧ k_ ≠ gb946) ho1 (fun k_ hk_ => ⟨hk_.2, Or.elim hk_.1 (fun hs_ => Or.elim hs_ (fun hs_ => (q0_.1 k_ hs_.symm).1.1.1.1.1.1.1.2) (fun hs_ => (q1_.1 k_ hs_.symm).1.1.1.1.1.1.1.2)) (fun hn_ => (rF HO951 k_ hn_)), Or.elim hk_.1 (fun hs_ => Or.elim hs_ (fun hs_ => (q0_.1 k_ hs_.symm).1.1.1.1.1.1.1.1) (fun hs_ => (q1_.1 k_ hs_.symm).1.1.1.1.1.1.2)) (fun hn_ => (rF HO954 k_ hn_)), Or.elim hk_.1 (fun hs_ => Or.elim hs_ (fun hs_ => (q0_.1 k_ hs_.symm).1.1.1.1.1.1.2) (fun hs_ => (q1_.1 k_ hs_.symm).1.1.1.1.1.1.1.1)) (fun hn_ => (rF HO957 k_ hn_)), Or.elim hk_.1 (fun hs_ => Or.elim hs_ (fun hs_ => (q0_.1 k_ hs_.symm).1.1.1.1.1.2) (fun hs_ => (q1_.1 k_ hs_.symm).1.1.1.1.1.2)) (fun hn_ => (rF HO961 k_ hn_)), Or.elim hk_.1 (fun hs_ => Or.elim hs_ (fun hs_ => (q0_.1 k_ hs_.symm).1.1.1.2) (fun hs_ => (q1_.1 k_ hs_.symm).1.1.1.2)) (fun hn_ => (rF HO971 k_ hn_)), Or.elim hk_.1 (fun hs_ => Or.elim hs_ (fun hs_ => (q0_.1 k_ hs_.symm).1.1.2) (fun hs_ => (q1_.1 k_ hs_.symm).1.1.2)) (fun hn_ => (rF HO980 k_ hn_)), Or.elim hk_.1 (fun hs_ => Or.elim hs_ (fun hs_ => (q0_.1 k_ hs_.symm).1.2) (fun hs_ => (q1_.1 k_ hs_.symm).1.2)) (fun hn_ => (Kd.freshB (bQ BK945) k_ hn_)), Or.elim hk_.1 (fun hs_ => Or.elim hs_ (fun hs_ => (q0_.1 k_ hs_.symm).2) (fun hs_ => (q1_.1 k_ hs_.symm).2)) (fun hn_ => (Kd.freshB (bQ BK946) k_ hn_))⟩)) (below_size (bC HB))); have HO991 := Aside0.mk (Kd.V_lower (Kd.V_mono (ok' := fun k_ => some k_ ≠ (v984 : Value).ownBlock ∧ some k_ ≠ (.slice Ao94 t949.length co94 : Value).ownBlock ∧ some k_ ≠ (.slice Ao96 t952.length co96 : Value).ownBlock ∧ some k_ ≠ (.slice Ao98 t955.length co98 : Value).ownBlock ∧ some k_ ≠ (.slice Ao101 t959.length co101 : Value).ownBlock ∧ some k_ ≠ (.slice Ao111 t969.length co111 : Value).ownBlock ∧ some k_ ≠ (v979 : Value).ownBlock ∧ k_ ≠ gb945 ∧ k_ ≠ gb946) ho2 (fun k_ hk_ => ⟨hk_.2, Or.elim hk_.1 (fun hs_ => Or.elim hs_ (fun hs_ => (q0_.1 k_ hs_.symm).1.1.1.1.1.1.1.2) (fun hs_ => (q1_.1 k_ hs_.symm).1.1.1.1.1.1.1.2)) (fun hn_ => (rF HO951 k_ hn_)), Or.elim hk_.1 (fun hs_ => Or.elim hs_ (fun hs_ => (q0_.1 k_ hs_.symm).1.1.1.1.1.1.1.1) (fun hs_ => (q1_.1 k_ hs_.symm).1.1.1.1.1.1.2)) (fun hn_ => (rF HO954 k_ hn_)), Or.elim hk_.1 (fun hs_ => Or.elim hs_ (fun hs_ => (q0_.1 k_ hs_.symm).1.1.1.1.1.1.2) (fun hs_ => (q1_.1 k_ hs_.symm).1.1.1.1.1.1.1.1)) (fun hn_ => (rF HO957 k_ hn_)), Or.elim hk_.1 (fun hs_ => Or.elim hs_ (fun hs_ => (q0_.1 k_ hs_.symm).1.1.1.1.1.2) (fun hs_ => (q1_.1 k_ hs_.symm).1.1.1.1.1.2)) (fun hn_ => (rF HO961 k_ hn_)), Or.elim hk_.1 (fun hs_ => Or.elim hs_ (fun hs_ => (q0_.1 k_ hs_.symm).1.1.1.2) (fun hs_ => (q1_.1 k_ hs_.symm).1.1.1.2)) (fun hn_ => (rF HO971 k_ hn_)), Or.elim hk_.1 (fun hs_ => Or.elim hs_ (fun hs_ => (q0_.1 k_ hs_.symm).1.1.2) (fun hs_ => (q1_.1 k_ hs_.symm).1.1.2)) (fun hn_ => (rF HO980 k_ hn_)), Or.elim hk_.1 (fun hs_ => Or.elim hs_ (fun hs_ => (q0_.1 k_ hs_.symm).1.2) (fun hs_ => (q1_.1 k_ hs_.symm).1.2)) (fun hn_ => (Kd.freshB (bQ BK945) k_ hn_)), Or.elim hk_.1 (fun hs_ => Or.elim hs_ (fun hs_ => (q0_.1 k_ hs_.symm).2) (fun hs_ => (q1_.1 k_ hs_.symm).2)) (fun hn_ => (Kd.freshB (bQ BK946) k_ hn_))⟩)) (below_size (bC HB))); clear q0_ q1_; replace HO951 := rB HO951 hb; replace HO954 := rB HO954 hb; replace HO957 := rB HO957 hb; replace HO961 := rB HO961 hb; replace HO964 := rB HO964 hb; replace HO967 := rB HO967 hb; replace HO971 := rE HO971 (Kd.R_base ho0) hb; replace HO974 := vE HO974 (Kd.R_base ho0) hb; replace HO977 := vE HO977 (Kd.R_base ho0) hb; replace HO980 := rB HO980 hb; replace BK945 := bB BK945 hb; replace BK946 := bB BK946 hb; replace HB := bW HB hb; (try clear hb); (try clear hb2); (try clear hk); (try clear hi); (try clear ho0); (try clear ho1); (try clear ho2); obtain ⟨Ao117, co117, eo117⟩ := Kd.R_slice HO985.out; subst eo117; obtain ⟨Ao118, co118, eo118⟩ := Kd.V_slice HO988.out; subst eo118; obtain ⟨Ao119, co119, eo119⟩ := Kd.V_slice HO991.out; subst eo119) | ((with_reducible refine gate_callee (f := 19) rfl ?_); refine gL (some 26) Try.func19 #[.agg #[.bool t982, .slice Ao117 t983.length co117, .slice Ao118 t986.length co118, .slice Ao119 t989.length co119]] ?_; (with_reducible refine (node_Encode.calls k t982 _ _ t983 _ _ t986 _ _ t989 t992 t995 _ ?side1 ?side2 ?side3 ?side4 ?side5 ?side6 A10.out).mono ?_); (case side1 => repeat (first | exact (Kd.R_reads' HO985.out).2.2 | (with_reducible refine Kd.C_alloc ?_ _) | (with_reducible refine Kd.C_drewN ?_ _) | (with_reducible refine Kd.C_drew ?_))); (case side2 => exact (Kd.R_reads' HO985.out).2.1); (case side3 => repeat (first | exact (Kd.V_reads' HO988.out).2.2 | (with_reducible refine Kd.C_alloc ?_ _) | (with_reducible refine Kd.C_drewN ?_ _) | (with_reducible refine Kd.C_drew ?_))); (case side4 => exact (Kd.V_reads' HO988.out).2.1); (case side5 => repeat (first | exact (Kd.V_reads' HO991.out).2.2 | (with_reducible refine Kd.C_alloc ?_ _) | (with_reducible refine Kd.C_drewN ?_ _) | (with_reducible refine Kd.C_drew ?_))); (case side6 => exact (Kd.V_reads' HO991.out).2.1); rintro e w120 ⟨v993, rfl, ho0, hb⟩; refine ⟨_, rfl, ?_⟩; have HO994 := Aside0.mk (Kd.R_lower (Kd.R_new' ho0 (Kd.R_lt (by (with_reducible repeat (first | apply Kd.R_alloc | apply Kd.R_drewN | apply Kd.R_drew)); exact HO980.out))) (below_size (bC HB))); replace HO951 := rB HO951 hb; replace HO954 := rB HO954 hb; replace HO957 := rB HO957 hb; replace HO961 := rB HO961 hb; replace HO964 := rB HO964 hb; replace HO967 := rB HO967 hb; replace HO971 := rB HO971 hb; replace HO974 := vE HO974 (Kd.R_base ho0) hb; replace HO977 := vE HO977 (Kd.R_base ho0) hb; replace HO980 := rE HO980 (Kd.R_base ho0) hb; replace HO985 := rB HO985 hb; replace HO988 := vE HO988 (Kd.R_base ho0) hb; replace HO991 := vE HO991 (Kd.R_base ho0) hb; replace BK945 := bB BK945 hb; replace BK946 := bB BK946 hb; replace HB := bW HB hb; (try clear hb); (try clear hb2); (try clear hk); (try clear hi); (try clear ho0)))
  replace HO951 := Aside0.mk (Kd.R_drew HO951.out)
  replace HO954 := Aside0.mk (Kd.R_drew HO954.out)
  replace HO957 := Aside0.mk (Kd.R_drew HO957.out)
  replace HO961 := Aside0.mk (Kd.R_drew HO961.out)
  replace HO964 := Aside0.mk (Kd.R_drew HO964.out)
  replace HO967 := Aside0.mk (Kd.R_drew HO967.out)
  replace HO971 := Aside0.mk (Kd.R_drew HO971.out)
  replace HO974 := Aside0.mk (Kd.V_drew HO974.out)
  replace HO977 := Aside0.mk (Kd.V_drew HO977.out)
  replace HO980 := Aside0.mk (Kd.R_drew HO980.out)
  replace HO985 := Aside0.mk (Kd.R_drew HO985.out)
  replace HO988 := Aside0.mk (Kd.V_drew HO988.out)
  replace HO991 := Aside0.mk (Kd.V_drew HO991.out)
  replace HO994 := Aside0.mk (Kd.R_drew HO994.out)
  replace BK945 := Aside0.mk (blk_drew BK945.out)
  replace BK946 := Aside0.mk (blk_drew BK946.out)
  replace HB := Aside0.mk (below_drew1 HB.out)
  refine start_ (n := 18) (S := fun w' => True) (ds := []) #[false,false,false,false,false,false,false,false,false,false,false,false,false,false,false,false,false,false] (by kernel_rfl) rfl rfl trivial (fun hHeld => ?_); refine with_tabW engrosslaw11_NodeTwins.tab7 engrosslaw11_NodeTwins.bits7 (fun HT_ HW_ => ?_)
  generalize w120.drew = w121 at HO951 HO954 HO957 HO961 HO964 HO967 HO971 HO974 HO977 HO980 HO985 HO988 HO991 HO994 BK945 BK946 HB hHeld ⊢
  refine pA 0 29 HT_ ?_
  refine pA 1 30 HT_ ?_
  refine pA 2 31 HT_ ?_
  refine pU 3 32 HT_ ?_
  refine pU 4 33 HT_ ?_
  refine pA 5 34 HT_ ?_
  refine pA 6 35 HT_ ?_
  refine pU 7 36 HT_ ?_
  refine pU 8 37 HT_ ?_
  refine pU 9 38 HT_ ?_
  refine pU 10 39 HT_ ?_
  refine pU 11 40 HT_ ?_
  refine pU 12 41 HT_ ?_
  refine pU 13 42 HT_ ?_
  refine pU 14 43 HT_ ?_
  refine pU 15 44 HT_ ?_
  refine pA 16 45 HT_ ?_
  refine pA 17 4 HT_ ?_
  refine done_ (done_of HT_.out (by kernel_rfl)) ?_
  try go_wp2
  go_ret
  exact xB HB
 rw [if_pos c11] at H
 have c11b0 : (t981 == 0) = true := beq_iff_eq.mpr c11
 have c11b1 : (t981 != 0) = false := bne_eq_false_iff_eq.mpr c11
 clear c11
 by_cases c12 : t995 = 0
 rotate_left
 ·rw [if_neg c12] at H
  have c12b0 : (t995 == 0) = false := beq_eq_false_iff_ne.mpr c12
  have c12b1 : (t995 != 0) = true := bne_iff_ne.mpr c12
  obtain rfl := Option.some.inj H
  go_enter Try.func10, Try.ntmps10
  try go_wp2_with (first | ((with_reducible refine gate_dst (N := 2) rfl ?_); refine box_event ?hg (N := 2) ?hd (cs := #[.bool a0_0, .slice A0_1 l0_1.length c0_1, .slice A0_2 l0_2.length c0_2, .slice A0_3 l0_3.length c0_3]) (t := 26) ?hr ?_; (case hd => rfl); (case hg => rfl); (case hr => first | (go_simp; done) | (go_simp; rfl)); intro gb945 hg w52 hbox hb; have BK945 := Aside0.mk (hbox); have GW945 := bZ HB hg; have GE945 := bZ HB hg; replace HB := bW HB hb; clear hb hbox hg) | ((with_reducible refine gate_dst (N := 3) rfl ?_); refine box_event ?hg (N := 3) ?hd (cs := #[.bool a1_0, .slice A1_1 l1_1.length c1_1, .slice A1_2 l1_2.length c1_2, .slice A1_3 l1_3.length c1_3]) (t := 26) ?hr ?_; (case hd => rfl); (case hg => rfl); (case hr => first | (go_simp; done) | (go_simp; rfl)); intro gb946 hg w53 hbox hb; have BK946 := Aside0.mk (hbox); have GW946 := bZ HB hg; have GE946 := bZ HB hg; have NB945_946 := bL BK945 hg; have NB946_945 := bG BK945 hg; replace BK945 := bB BK945 hb; replace HB := bW HB hb; clear hb hbox hg) | ((with_reducible refine gate_callee (f := 11) rfl ?_); refine gL (some 10) Try.func11 #[] ?_; (with_reducible refine (engrosslaw11_begun.calls k  true _ A3.out).mono ?_); rintro e w54 ⟨rfl, hb⟩; refine ⟨_, rfl, ?_⟩; replace BK945 := bB BK945 hb; replace BK946 := bB BK946 hb; replace HB := bW HB hb; (try clear hb); (try clear hb2); (try clear hk); (try clear hi)))
  replace BK945 := Aside0.mk (blk_drew BK945.out)
  replace BK946 := Aside0.mk (blk_drew BK946.out)
  replace HB := Aside0.mk (below_drew1 HB.out)
  refine start_ (n := 6) (S := fun w' => w'.cell? ⟨gb945, 0, none⟩ = some (.bool a0_0) ∧ w'.cell? ⟨gb945, 1, none⟩ = some (.slice A0_1 l0_1.length c0_1) ∧ w'.cell? ⟨gb945, 2, none⟩ = some (.slice A0_2 l0_2.length c0_2) ∧ w'.cell? ⟨gb945, 3, none⟩ = some (.slice A0_3 l0_3.length c0_3) ∧ w'.cell? ⟨gb946, 0, none⟩ = some (.bool a1_0) ∧ w'.cell? ⟨gb946, 1, none⟩ = some (.slice A1_1 l1_1.length c1_1) ∧ w'.cell? ⟨gb946, 2, none⟩ = some (.slice A1_2 l1_2.length c1_2) ∧ w'.cell? ⟨gb946, 3, none⟩ = some (.slice A1_3 l1_3.length c1_3)) (ds := [4, 5]) #[false,false,false,false,false,false] (by kernel_rfl) rfl rfl (bn4 BK945 (be4 BK946)) (fun hHeld => ?_)
  generalize w54.drew = w55 at BK945 BK946 HB hHeld ⊢
  refine take_ (i := 0) (N := some 13) (v := ?_) (a' := ?_) #[true,false,false,false,false,false] rfl rfl (by kernel_rfl) (fun _ _ _ h => h) (Or.inl ⟨by rfl, ?_⟩) hHeld ?_ ?_
  rotate_left
  ·rintro w' ⟨s0, s1, s2, s3, s4, s5, s6, s7⟩
   go_simp
   with_reducible rfl
  rotate_left
  ·simp only [Act.put, List.setIfInBounds_toArray, List.set_cons_zero, List.set_cons_succ, i64_w, i32_w]
   rfl
  refine take_ (i := 2) (N := some 15) (v := ?_) (a' := ?_) #[true,false,true,false,false,false] rfl rfl (by kernel_rfl) (fun _ _ _ h => h) (Or.inl ⟨by rfl, ?_⟩) hHeld ?_ ?_
  rotate_left
  ·rintro w' ⟨s0, s1, s2, s3, s4, s5, s6, s7⟩
   go_simp
   with_reducible rfl
  rotate_left
  ·simp only [Act.put, List.setIfInBounds_toArray, List.set_cons_zero, List.set_cons_succ, i64_w, i32_w]
   rfl
  refine one_ (i := 1) (N := some 14) #[true,true,true,false,false,false] rfl rfl (by kernel_rfl) (by decide) (fun K hK => ?_)
  refine goes_ Try.func12 (by kernel_rfl) rfl #[.agg #[.bool a0_0, .slice A0_1 l0_1.length c0_1, .slice A0_2 l0_2.length c0_2, .slice A0_3 l0_3.length c0_3]] (by rfl) rfl rfl (by (try simp only [List.map_toArray, List.map_cons, List.map_nil]); first | done | rfl | (simp only [List.length_drop, List.length_take]; rfl)) ?_
  with_reducible refine (engrosslaw11_Cut.calls k a0_0 _ _ l0_1 _ _ l0_2 _ _ l0_3 t948 t949 t952 t955 _ ?side1 ?side2 ?side3 ?side4 ?side5 ?side6 A5.out).mono ?_
  (case side1 => repeat (first | exact (Kd.C_below HR0_1.out HB.out) | (with_reducible refine Kd.C_alloc ?_ _) | (with_reducible refine Kd.C_drewN ?_ _) | (with_reducible refine Kd.C_drew ?_)))
  (case side2 => exact HC0_1.out)
  (case side3 => repeat (first | exact (Kd.C_below HR0_2.out HB.out) | (with_reducible refine Kd.C_alloc ?_ _) | (with_reducible refine Kd.C_drewN ?_ _) | (with_reducible refine Kd.C_drew ?_)))
  (case side4 => exact HC0_2.out)
  (case side5 => repeat (first | exact (Kd.C_below HR0_3.out HB.out) | (with_reducible refine Kd.C_alloc ?_ _) | (with_reducible refine Kd.C_drewN ?_ _) | (with_reducible refine Kd.C_drew ?_)))
  (case side6 => exact HC0_3.out)
  rintro e w56 ⟨v950, v953, v956, rfl, ho0, ho1, ho2, hb⟩
  refine ⟨_, rfl, ?_⟩
  have HO951 := Aside0.mk (Kd.R_lower ho0 (below_size (bC HB)))
  have HO954 := Aside0.mk (Kd.R_lower ho1 (below_size (bC HB)))
  have HO957 := Aside0.mk (Kd.R_lower ho2 (below_size (bC HB)))
  replace BK945 := bB BK945 hb
  replace BK946 := bB BK946 hb
  replace HB := bW HB hb
  (try clear hb)
  (try clear hb2)
  (try clear hk)
  (try clear hi)
  (try clear ho0)
  (try clear ho1)
  (try clear ho2)
  refine hK.out _ _ (bn4 BK945 (be4 BK946)) (fun hHeld => ?_)
  clear hK K
  refine norm_ (a' := ?_) ?_ ?_
  rotate_left
  ·show Act.put _ (some 14) _ = _
   simp only [Act.put, List.setIfInBounds_toArray, List.set_cons_zero, List.set_cons_succ, i64_w, i32_w]
   rfl
  refine one_ (i := 3) (N := some 16) #[true,true,true,true,false,false] rfl rfl (by kernel_rfl) (by decide) (fun K hK => ?_)
  refine goes_ Try.func12 (by kernel_rfl) rfl #[.agg #[.bool a1_0, .slice A1_1 l1_1.length c1_1, .slice A1_2 l1_2.length c1_2, .slice A1_3 l1_3.length c1_3]] (by rfl) rfl rfl (by (try simp only [List.map_toArray, List.map_cons, List.map_nil]); first | done | rfl | (simp only [List.length_drop, List.length_take]; rfl)) ?_
  with_reducible refine (engrosslaw11_Cut.calls k a1_0 _ _ l1_1 _ _ l1_2 _ _ l1_3 t958 t959 t962 t965 _ ?side1 ?side2 ?side3 ?side4 ?side5 ?side6 A6.out).mono ?_
  (case side1 => repeat (first | exact (Kd.C_below HR1_1.out HB.out) | (with_reducible refine Kd.C_alloc ?_ _) | (with_reducible refine Kd.C_drewN ?_ _) | (with_reducible refine Kd.C_drew ?_)))
  (case side2 => exact HC1_1.out)
  (case side3 => repeat (first | exact (Kd.C_below HR1_2.out HB.out) | (with_reducible refine Kd.C_alloc ?_ _) | (with_reducible refine Kd.C_drewN ?_ _) | (with_reducible refine Kd.C_drew ?_)))
  (case side4 => exact HC1_2.out)
  (case side5 => repeat (first | exact (Kd.C_below HR1_3.out HB.out) | (with_reducible refine Kd.C_alloc ?_ _) | (with_reducible refine Kd.C_drewN ?_ _) | (with_reducible refine Kd.C_drew ?_)))
  (case side6 => exact HC1_3.out)
  rintro e w57 ⟨v960, v963, v966, rfl, ho0, ho1, ho2, hb⟩
  refine ⟨_, rfl, ?_⟩
  have HO961 := Aside0.mk (Kd.R_lower (Kd.R_new' ho0 (Kd.R_lt (by (with_reducible repeat (first | apply Kd.R_alloc | apply Kd.R_drewN | apply Kd.R_drew)); exact HO951.out))) (below_size (bC HB)))
  have HO964 := Aside0.mk (Kd.R_lower (Kd.R_new' ho1 (Kd.R_lt (by (with_reducible repeat (first | apply Kd.R_alloc | apply Kd.R_drewN | apply Kd.R_drew)); exact HO954.out))) (below_size (bC HB)))
  have HO967 := Aside0.mk (Kd.R_lower (Kd.R_new' ho2 (Kd.R_lt (by (with_reducible repeat (first | apply Kd.R_alloc | apply Kd.R_drewN | apply Kd.R_drew)); exact HO957.out))) (below_size (bC HB)))
  replace HO951 := rE HO951 (Kd.R_base ho0) hb
  replace HO954 := rE HO954 (Kd.R_base ho1) hb
  replace HO957 := rE HO957 (Kd.R_base ho2) hb
  replace BK945 := bB BK945 hb
  replace BK946 := bB BK946 hb
  replace HB := bW HB hb
  (try clear hb)
  (try clear hb2)
  (try clear hk)
  (try clear hi)
  (try clear ho0)
  (try clear ho1)
  (try clear ho2)
  obtain ⟨Ao59, co59, eo59⟩ := Kd.R_slice HO951.out
  (first | subst eo59 | (injection eo59 with f1_ f2_ f3_; have f4_ := f1_.symm; have f5_ := f3_.symm; clear f1_ f2_ f3_; subst f4_; subst f5_))
  obtain ⟨Ao61, co61, eo61⟩ := Kd.R_slice HO954.out
  (first | subst eo61 | (injection eo61 with f1_ f2_ f3_; have f4_ := f1_.symm; have f5_ := f3_.symm; clear f1_ f2_ f3_; subst f4_; subst f5_))
  obtain ⟨Ao63, co63, eo63⟩ := Kd.R_slice HO957.out
  (first | subst eo63 | (injection eo63 with f1_ f2_ f3_; have f4_ := f1_.symm; have f5_ := f3_.symm; clear f1_ f2_ f3_; subst f4_; subst f5_))
  obtain ⟨Ao66, co66, eo66⟩ := Kd.R_slice HO961.out
  (first | subst eo66 | (injection eo66 with f1_ f2_ f3_; have f4_ := f1_.symm; have f5_ := f3_.symm; clear f1_ f2_ f3_; subst f4_; subst f5_))
  obtain ⟨Ao68, co68, eo68⟩ := Kd.R_slice HO964.out
  (first | subst eo68 | (injection eo68 with f1_ f2_ f3_; have f4_ := f1_.symm; have f5_ := f3_.symm; clear f1_ f2_ f3_; subst f4_; subst f5_))
  obtain ⟨Ao70, co70, eo70⟩ := Kd.R_slice HO967.out
  (first | subst eo70 | (injection eo70 with f1_ f2_ f3_; have f4_ := f1_.symm; have f5_ := f3_.symm; clear f1_ f2_ f3_; subst f4_; subst f5_))
  refine hK.out _ _ (bn4 BK945 (be4 BK946)) (fun hHeld => ?_)
  clear hK K
  refine norm_ (a' := ?_) ?_ ?_
  rotate_left
  ·show Act.put _ (some 16) _ = _
   simp only [Act.put, List.setIfInBounds_toArray, List.set_cons_zero, List.set_cons_succ, i64_w, i32_w]
   rfl
  refine last_ (i := 4) (N := none) #[true,true,true,true,true,false] rfl rfl (by kernel_rfl) (by decide) (fun K hK => ?_)
  have hs58 : w57.cell? ⟨gb945, 0, none⟩ = some (.bool a0_0) := (blk_cell BK945.out 0).trans rfl
  have hfs58 := blk_frozen BK945.out 0
  have hns58_1 := NB946_945.out
  have hms58_1 := NB945_946.out
  have hs60 : w57.cell? ⟨gb945, 1, none⟩ = some (.slice A0_1 l0_1.length c0_1) := (blk_cell BK945.out 1).trans rfl
  have hfs60 := blk_frozen BK945.out 1
  have hns60_1 := NB946_945.out
  have hms60_1 := NB945_946.out
  have hs62 : w57.cell? ⟨gb945, 2, none⟩ = some (.slice A0_2 l0_2.length c0_2) := (blk_cell BK945.out 2).trans rfl
  have hfs62 := blk_frozen BK945.out 2
  have hns62_1 := NB946_945.out
  have hms62_1 := NB945_946.out
  have hs64 : w57.cell? ⟨gb945, 3, none⟩ = some (.slice A0_3 l0_3.length c0_3) := (blk_cell BK945.out 3).trans rfl
  have hfs64 := blk_frozen BK945.out 3
  have hns64_1 := NB946_945.out
  have hms64_1 := NB945_946.out
  with_reducible refine skip_ (w1 := ?_) (by with_unfolding_all rfl) (by with_unfolding_all rfl) ?_ ?_
  rotate_left
  ·go_simp
   rfl
  refine hK.out _ _ ?_
  clear hK K
  refine last_ (i := 5) (N := none) #[true,true,true,true,true,true] rfl rfl (by kernel_rfl) (by decide) (fun K hK => ?_)
  have hs65 : w57.cell? ⟨gb946, 0, none⟩ = some (.bool a1_0) := (blk_cell BK946.out 0).trans rfl
  have hfs65 := blk_frozen BK946.out 0
  have hns65_0 := NB945_946.out
  have hms65_0 := NB946_945.out
  have hs67 : w57.cell? ⟨gb946, 1, none⟩ = some (.slice A1_1 l1_1.length c1_1) := (blk_cell BK946.out 1).trans rfl
  have hfs67 := blk_frozen BK946.out 1
  have hns67_0 := NB945_946.out
  have hms67_0 := NB946_945.out
  have hs69 : w57.cell? ⟨gb946, 2, none⟩ = some (.slice A1_2 l1_2.length c1_2) := (blk_cell BK946.out 2).trans rfl
  have hfs69 := blk_frozen BK946.out 2
  have hns69_0 := NB945_946.out
  have hms69_0 := NB946_945.out
  have hs71 : w57.cell? ⟨gb946, 3, none⟩ = some (.slice A1_3 l1_3.length c1_3) := (blk_cell BK946.out 3).trans rfl
  have hfs71 := blk_frozen BK946.out 3
  have hns71_0 := NB945_946.out
  have hms71_0 := NB946_945.out
  with_reducible refine skip_ (w1 := ?_) (by with_unfolding_all rfl) (by with_unfolding_all rfl) ?_ ?_
  rotate_left
  ·go_simp
   rfl
  refine hK.out _ _ ?_
  clear hK K
  refine done_ (by kernel_rfl) ?_
  have n0_ : Aside0 (Kd.R k56 56 ((((((((w57.setCell ⟨gb945, 0, none⟩ (.bool t948)).setCell ⟨gb945, 1, none⟩ (.slice Ao59 t949.length co59)).setCell ⟨gb945, 2, none⟩ (.slice Ao61 t952.length co61)).setCell ⟨gb945, 3, none⟩ (.slice Ao63 t955.length co63)).setCell ⟨gb946, 0, none⟩ (.bool t958)).setCell ⟨gb946, 1, none⟩ (.slice Ao66 t959.length co66)).setCell ⟨gb946, 2, none⟩ (.slice Ao68 t962.length co68)).setCell ⟨gb946, 3, none⟩ (.slice Ao70 t965.length co70)) w.heap.size (fun k_ => some k_ ≠ (.slice Ao66 t959.length co66 : Value).ownBlock) (.slice Ao59 t949.length co59) t949) := ⟨by (with_reducible repeat (first | apply Kd.R_alloc | apply Kd.R_drewN | apply Kd.R_drew)); exact Kd.R_mono (Kd.R_far (p := ⟨gb946, 3, none⟩) (Kd.R_far (p := ⟨gb946, 2, none⟩) (Kd.R_far (p := ⟨gb946, 1, none⟩) (Kd.R_far (p := ⟨gb946, 0, none⟩) (Kd.R_far (p := ⟨gb945, 3, none⟩) (Kd.R_far (p := ⟨gb945, 2, none⟩) (Kd.R_far (p := ⟨gb945, 1, none⟩) (Kd.R_far (p := ⟨gb945, 0, none⟩) (Kd.R_types (Kd.R_types HO951.out BK945.out (by decide)) BK946.out (by decide)) (fun _ hk => hk.1.2) (.bool t948)) (fun _ hk => hk.1.2) (.slice Ao59 t949.length co59)) (fun _ hk => hk.1.2) (.slice Ao61 t952.length co61)) (fun _ hk => hk.1.2) (.slice Ao63 t955.length co63)) (fun _ hk => hk.2) (.bool t958)) (fun _ hk => hk.2) (.slice Ao66 t959.length co66)) (fun _ hk => hk.2) (.slice Ao68 t962.length co68)) (fun _ hk => hk.2) (.slice Ao70 t965.length co70)) (fun _ hk => hk.1.1.2)⟩
  have n1_ : Aside0 (Kd.R Kd.string 9 ((((((((w57.setCell ⟨gb945, 0, none⟩ (.bool t948)).setCell ⟨gb945, 1, none⟩ (.slice Ao59 t949.length co59)).setCell ⟨gb945, 2, none⟩ (.slice Ao61 t952.length co61)).setCell ⟨gb945, 3, none⟩ (.slice Ao63 t955.length co63)).setCell ⟨gb946, 0, none⟩ (.bool t958)).setCell ⟨gb946, 1, none⟩ (.slice Ao66 t959.length co66)).setCell ⟨gb946, 2, none⟩ (.slice Ao68 t962.length co68)).setCell ⟨gb946, 3, none⟩ (.slice Ao70 t965.length co70)) w.heap.size (fun k_ => some k_ ≠ (.slice Ao68 t962.length co68 : Value).ownBlock) (.slice Ao61 t952.length co61) t952) := ⟨by (with_reducible repeat (first | apply Kd.R_alloc | apply Kd.R_drewN | apply Kd.R_drew)); exact Kd.R_mono (Kd.R_far (p := ⟨gb946, 3, none⟩) (Kd.R_far (p := ⟨gb946, 2, none⟩) (Kd.R_far (p := ⟨gb946, 1, none⟩) (Kd.R_far (p := ⟨gb946, 0, none⟩) (Kd.R_far (p := ⟨gb945, 3, none⟩) (Kd.R_far (p := ⟨gb945, 2, none⟩) (Kd.R_far (p := ⟨gb945, 1, none⟩) (Kd.R_far (p := ⟨gb945, 0, none⟩) (Kd.R_types (Kd.R_types HO954.out BK945.out (by decide)) BK946.out (by decide)) (fun _ hk => hk.1.2) (.bool t948)) (fun _ hk => hk.1.2) (.slice Ao59 t949.length co59)) (fun _ hk => hk.1.2) (.slice Ao61 t952.length co61)) (fun _ hk => hk.1.2) (.slice Ao63 t955.length co63)) (fun _ hk => hk.2) (.bool t958)) (fun _ hk => hk.2) (.slice Ao66 t959.length co66)) (fun _ hk => hk.2) (.slice Ao68 t962.length co68)) (fun _ hk => hk.2) (.slice Ao70 t965.length co70)) (fun _ hk => hk.1.1.2)⟩
  have n2_ : Aside0 (Kd.R (Kd.int .i64) 3 ((((((((w57.setCell ⟨gb945, 0, none⟩ (.bool t948)).setCell ⟨gb945, 1, none⟩ (.slice Ao59 t949.length co59)).setCell ⟨gb945, 2, none⟩ (.slice Ao61 t952.length co61)).setCell ⟨gb945, 3, none⟩ (.slice Ao63 t955.length co63)).setCell ⟨gb946, 0, none⟩ (.bool t958)).setCell ⟨gb946, 1, none⟩ (.slice Ao66 t959.length co66)).setCell ⟨gb946, 2, none⟩ (.slice Ao68 t962.length co68)).setCell ⟨gb946, 3, none⟩ (.slice Ao70 t965.length co70)) w.heap.size (fun k_ => some k_ ≠ (.slice Ao70 t965.length co70 : Value).ownBlock) (.slice Ao63 t955.length co63) t955) := ⟨by (with_reducible repeat (first | apply Kd.R_alloc | apply Kd.R_drewN | apply Kd.R_drew)); exact Kd.R_mono (Kd.R_far (p := ⟨gb946, 3, none⟩) (Kd.R_far (p := ⟨gb946, 2, none⟩) (Kd.R_far (p := ⟨gb946, 1, none⟩) (Kd.R_far (p := ⟨gb946, 0, none⟩) (Kd.R_far (p := ⟨gb945, 3, none⟩) (Kd.R_far (p := ⟨gb945, 2, none⟩) (Kd.R_far (p := ⟨gb945, 1, none⟩) (Kd.R_far (p := ⟨gb945, 0, none⟩) (Kd.R_types (Kd.R_types HO957.out BK945.out (by decide)) BK946.out (by decide)) (fun _ hk => hk.1.2) (.bool t948)) (fun _ hk => hk.1.2) (.slice Ao59 t949.length co59)) (fun _ hk => hk.1.2) (.slice Ao61 t952.length co61)) (fun _ hk => hk.1.2) (.slice Ao63 t955.length co63)) (fun _ hk => hk.2) (.bool t958)) (fun _ hk => hk.2) (.slice Ao66 t959.length co66)) (fun _ hk => hk.2) (.slice Ao68 t962.length co68)) (fun _ hk => hk.2) (.slice Ao70 t965.length co70)) (fun _ hk => hk.1.1.2)⟩
  have n3_ : Aside0 (Kd.R k56 56 ((((((((w57.setCell ⟨gb945, 0, none⟩ (.bool t948)).setCell ⟨gb945, 1, none⟩ (.slice Ao59 t949.length co59)).setCell ⟨gb945, 2, none⟩ (.slice Ao61 t952.length co61)).setCell ⟨gb945, 3, none⟩ (.slice Ao63 t955.length co63)).setCell ⟨gb946, 0, none⟩ (.bool t958)).setCell ⟨gb946, 1, none⟩ (.slice Ao66 t959.length co66)).setCell ⟨gb946, 2, none⟩ (.slice Ao68 t962.length co68)).setCell ⟨gb946, 3, none⟩ (.slice Ao70 t965.length co70)) w.heap.size (fun k_ => some k_ ≠ (.slice Ao59 t949.length co59 : Value).ownBlock) (.slice Ao66 t959.length co66) t959) := ⟨by (with_reducible repeat (first | apply Kd.R_alloc | apply Kd.R_drewN | apply Kd.R_drew)); exact Kd.R_mono (Kd.R_far (p := ⟨gb946, 3, none⟩) (Kd.R_far (p := ⟨gb946, 2, none⟩) (Kd.R_far (p := ⟨gb946, 1, none⟩) (Kd.R_far (p := ⟨gb946, 0, none⟩) (Kd.R_far (p := ⟨gb945, 3, none⟩) (Kd.R_far (p := ⟨gb945, 2, none⟩) (Kd.R_far (p := ⟨gb945, 1, none⟩) (Kd.R_far (p := ⟨gb945, 0, none⟩) (Kd.R_types (Kd.R_types HO961.out BK945.out (by decide)) BK946.out (by decide)) (fun _ hk => hk.1.2) (.bool t948)) (fun _ hk => hk.1.2) (.slice Ao59 t949.length co59)) (fun _ hk => hk.1.2) (.slice Ao61 t952.length co61)) (fun _ hk => hk.1.2) (.slice Ao63 t955.length co63)) (fun _ hk => hk.2) (.bool t958)) (fun _ hk => hk.2) (.slice Ao66 t959.length co66)) (fun _ hk => hk.2) (.slice Ao68 t962.length co68)) (fun _ hk => hk.2) (.slice Ao70 t965.length co70)) (fun _ hk => hk.1.1.2)⟩
  have n4_ : Aside0 (Kd.R Kd.string 9 ((((((((w57.setCell ⟨gb945, 0, none⟩ (.bool t948)).setCell ⟨gb945, 1, none⟩ (.slice Ao59 t949.length co59)).setCell ⟨gb945, 2, none⟩ (.slice Ao61 t952.length co61)).setCell ⟨gb945, 3, none⟩ (.slice Ao63 t955.length co63)).setCell ⟨gb946, 0, none⟩ (.bool t958)).setCell ⟨gb946, 1, none⟩ (.slice Ao66 t959.length co66)).setCell ⟨gb946, 2, none⟩ (.slice Ao68 t962.length co68)).setCell ⟨gb946, 3, none⟩ (.slice Ao70 t965.length co70)) w.heap.size (fun k_ => some k_ ≠ (.slice Ao61 t952.length co61 : Value).ownBlock) (.slice Ao68 t962.length co68) t962) := ⟨by (with_reducible repeat (first | apply Kd.R_alloc | apply Kd.R_drewN | apply Kd.R_drew)); exact Kd.R_mono (Kd.R_far (p := ⟨gb946, 3, none⟩) (Kd.R_far (p := ⟨gb946, 2, none⟩) (Kd.R_far (p := ⟨gb946, 1, none⟩) (Kd.R_far (p := ⟨gb946, 0, none⟩) (Kd.R_far (p := ⟨gb945, 3, none⟩) (Kd.R_far (p := ⟨gb945, 2, none⟩) (Kd.R_far (p := ⟨gb945, 1, none⟩) (Kd.R_far (p := ⟨gb945, 0, none⟩) (Kd.R_types (Kd.R_types HO964.out BK945.out (by decide)) BK946.out (by decide)) (fun _ hk => hk.1.2) (.bool t948)) (fun _ hk => hk.1.2) (.slice Ao59 t949.length co59)) (fun _ hk => hk.1.2) (.slice Ao61 t952.length co61)) (fun _ hk => hk.1.2) (.slice Ao63 t955.length co63)) (fun _ hk => hk.2) (.bool t958)) (fun _ hk => hk.2) (.slice Ao66 t959.length co66)) (fun _ hk => hk.2) (.slice Ao68 t962.length co68)) (fun _ hk => hk.2) (.slice Ao70 t965.length co70)) (fun _ hk => hk.1.1.2)⟩
  have n5_ : Aside0 (Kd.R (Kd.int .i64) 3 ((((((((w57.setCell ⟨gb945, 0, none⟩ (.bool t948)).setCell ⟨gb945, 1, none⟩ (.slice Ao59 t949.length co59)).setCell ⟨gb945, 2, none⟩ (.slice Ao61 t952.length co61)).setCell ⟨gb945, 3, none⟩ (.slice Ao63 t955.length co63)).setCell ⟨gb946, 0, none⟩ (.bool t958)).setCell ⟨gb946, 1, none⟩ (.slice Ao66 t959.length co66)).setCell ⟨gb946, 2, none⟩ (.slice Ao68 t962.length co68)).setCell ⟨gb946, 3, none⟩ (.slice Ao70 t965.length co70)) w.heap.size (fun k_ => some k_ ≠ (.slice Ao63 t955.length co63 : Value).ownBlock) (.slice Ao70 t965.length co70) t965) := ⟨by (with_reducible repeat (first | apply Kd.R_alloc | apply Kd.R_drewN | apply Kd.R_drew)); exact Kd.R_mono (Kd.R_far (p := ⟨gb946, 3, none⟩) (Kd.R_far (p := ⟨gb946, 2, none⟩) (Kd.R_far (p := ⟨gb946, 1, none⟩) (Kd.R_far (p := ⟨gb946, 0, none⟩) (Kd.R_far (p := ⟨gb945, 3, none⟩) (Kd.R_far (p := ⟨gb945, 2, none⟩) (Kd.R_far (p := ⟨gb945, 1, none⟩) (Kd.R_far (p := ⟨gb945, 0, none⟩) (Kd.R_types (Kd.R_types HO967.out BK945.out (by decide)) BK946.out (by decide)) (fun _ hk => hk.1.2) (.bool t948)) (fun _ hk => hk.1.2) (.slice Ao59 t949.length co59)) (fun _ hk => hk.1.2) (.slice Ao61 t952.length co61)) (fun _ hk => hk.1.2) (.slice Ao63 t955.length co63)) (fun _ hk => hk.2) (.bool t958)) (fun _ hk => hk.2) (.slice Ao66 t959.length co66)) (fun _ hk => hk.2) (.slice Ao68 t962.length co68)) (fun _ hk => hk.2) (.slice Ao70 t965.length co70)) (fun _ hk => hk.1.1.2)⟩
  have n6_ : Aside0 (((((((((w57.setCell ⟨gb945, 0, none⟩ (.bool t948)).setCell ⟨gb945, 1, none⟩ (.slice Ao59 t949.length co59)).setCell ⟨gb945, 2, none⟩ (.slice Ao61 t952.length co61)).setCell ⟨gb945, 3, none⟩ (.slice Ao63 t955.length co63)).setCell ⟨gb946, 0, none⟩ (.bool t958)).setCell ⟨gb946, 1, none⟩ (.slice Ao66 t959.length co66)).setCell ⟨gb946, 2, none⟩ (.slice Ao68 t962.length co68)).setCell ⟨gb946, 3, none⟩ (.slice Ao70 t965.length co70)).heap[gb945]? = some (.cells #[.bool t948, .slice Ao59 t949.length co59, .slice Ao61 t952.length co61, .slice Ao63 t955.length co63] 26 (0, 0))) := ⟨by (with_reducible repeat (first | refine blk_drewN ?_ _ | refine blk_drew ?_ | refine blk_alloc ?_ _)); refine blk_far ?_ NB945_946.out _; (with_reducible repeat (first | refine blk_drewN ?_ _ | refine blk_drew ?_ | refine blk_alloc ?_ _)); refine blk_far ?_ NB945_946.out _; (with_reducible repeat (first | refine blk_drewN ?_ _ | refine blk_drew ?_ | refine blk_alloc ?_ _)); refine blk_far ?_ NB945_946.out _; (with_reducible repeat (first | refine blk_drewN ?_ _ | refine blk_drew ?_ | refine blk_alloc ?_ _)); refine blk_far ?_ NB945_946.out _; (with_reducible repeat (first | refine blk_drewN ?_ _ | refine blk_drew ?_ | refine blk_alloc ?_ _)); refine blk_put (cs := #[.bool t948, .slice Ao59 t949.length co59, .slice Ao61 t952.length co61, .slice A0_3 l0_3.length c0_3]) ?_ 3 _ rfl; (with_reducible repeat (first | refine blk_drewN ?_ _ | refine blk_drew ?_ | refine blk_alloc ?_ _)); refine blk_put (cs := #[.bool t948, .slice Ao59 t949.length co59, .slice A0_2 l0_2.length c0_2, .slice A0_3 l0_3.length c0_3]) ?_ 2 _ rfl; (with_reducible repeat (first | refine blk_drewN ?_ _ | refine blk_drew ?_ | refine blk_alloc ?_ _)); refine blk_put (cs := #[.bool t948, .slice A0_1 l0_1.length c0_1, .slice A0_2 l0_2.length c0_2, .slice A0_3 l0_3.length c0_3]) ?_ 1 _ rfl; (with_reducible repeat (first | refine blk_drewN ?_ _ | refine blk_drew ?_ | refine blk_alloc ?_ _)); refine blk_put (cs := #[.bool a0_0, .slice A0_1 l0_1.length c0_1, .slice A0_2 l0_2.length c0_2, .slice A0_3 l0_3.length c0_3]) ?_ 0 _ rfl; (with_reducible repeat (first | refine blk_drewN ?_ _ | refine blk_drew ?_ | refine blk_alloc ?_ _)); exact BK945.out⟩
  have n7_ : Aside0 (((((((((w57.setCell ⟨gb945, 0, none⟩ (.bool t948)).setCell ⟨gb945, 1, none⟩ (.slice Ao59 t949.length co59)).setCell ⟨gb945, 2, none⟩ (.slice Ao61 t952.length co61)).setCell ⟨gb945, 3, none⟩ (.slice Ao63 t955.length co63)).setCell ⟨gb946, 0, none⟩ (.bool t958)).setCell ⟨gb946, 1, none⟩ (.slice Ao66 t959.length co66)).setCell ⟨gb946, 2, none⟩ (.slice Ao68 t962.length co68)).setCell ⟨gb946, 3, none⟩ (.slice Ao70 t965.length co70)).heap[gb946]? = some (.cells #[.bool t958, .slice Ao66 t959.length co66, .slice Ao68 t962.length co68, .slice Ao70 t965.length co70] 26 (0, 0))) := ⟨by (with_reducible repeat (first | refine blk_drewN ?_ _ | refine blk_drew ?_ | refine blk_alloc ?_ _)); refine blk_put (cs := #[.bool t958, .slice Ao66 t959.length co66, .slice Ao68 t962.length co68, .slice A1_3 l1_3.length c1_3]) ?_ 3 _ rfl; (with_reducible repeat (first | refine blk_drewN ?_ _ | refine blk_drew ?_ | refine blk_alloc ?_ _)); refine blk_put (cs := #[.bool t958, .slice Ao66 t959.length co66, .slice A1_2 l1_2.length c1_2, .slice A1_3 l1_3.length c1_3]) ?_ 2 _ rfl; (with_reducible repeat (first | refine blk_drewN ?_ _ | refine blk_drew ?_ | refine blk_alloc ?_ _)); refine blk_put (cs := #[.bool t958, .slice A1_1 l1_1.length c1_1, .slice A1_2 l1_2.length c1_2, .slice A1_3 l1_3.length c1_3]) ?_ 1 _ rfl; (with_reducible repeat (first | refine blk_drewN ?_ _ | refine blk_drew ?_ | refine blk_alloc ?_ _)); refine blk_put (cs := #[.bool a1_0, .slice A1_1 l1_1.length c1_1, .slice A1_2 l1_2.length c1_2, .slice A1_3 l1_3.length c1_3]) ?_ 0 _ rfl; (with_reducible repeat (first | refine blk_drewN ?_ _ | refine blk_drew ?_ | refine blk_alloc ?_ _)); refine blk_far ?_ NB946_945.out _; (with_reducible repeat (first | refine blk_drewN ?_ _ | refine blk_drew ?_ | refine blk_alloc ?_ _)); refine blk_far ?_ NB946_945.out _; (with_reducible repeat (first | refine blk_drewN ?_ _ | refine blk_drew ?_ | refine blk_alloc ?_ _)); refine blk_far ?_ NB946_945.out _; (with_reducible repeat (first | refine blk_drewN ?_ _ | refine blk_drew ?_ | refine blk_alloc ?_ _)); refine blk_far ?_ NB946_945.out _; (with_reducible repeat (first | refine blk_drewN ?_ _ | refine blk_drew ?_ | refine blk_alloc ?_ _)); exact BK946.out⟩
  have n8_ : Aside0 (Below w.heap.size w ((((((((w57.setCell ⟨gb945, 0, none⟩ (.bool t948)).setCell ⟨gb945, 1, none⟩ (.slice Ao59 t949.length co59)).setCell ⟨gb945, 2, none⟩ (.slice Ao61 t952.length co61)).setCell ⟨gb945, 3, none⟩ (.slice Ao63 t955.length co63)).setCell ⟨gb946, 0, none⟩ (.bool t958)).setCell ⟨gb946, 1, none⟩ (.slice Ao66 t959.length co66)).setCell ⟨gb946, 2, none⟩ (.slice Ao68 t962.length co68)).setCell ⟨gb946, 3, none⟩ (.slice Ao70 t965.length co70))) := ⟨by repeat (first | (with_reducible first | exact HB.out | apply below_alloc | apply pw_below_drewN | apply below_drew1 | refine below_set ?_ GE945.out | refine below_set ?_ GE946.out) | exact HB.out)⟩
  (try clear HO951)
  (try clear HO954)
  (try clear HO957)
  (try clear HO961)
  (try clear HO964)
  (try clear HO967)
  (try clear BK945)
  (try clear BK946)
  (try clear HB)
  generalize ((((((((w57.setCell ⟨gb945, 0, none⟩ (.bool t948)).setCell ⟨gb945, 1, none⟩ (.slice Ao59 t949.length co59)).setCell ⟨gb945, 2, none⟩ (.slice Ao61 t952.length co61)).setCell ⟨gb945, 3, none⟩ (.slice Ao63 t955.length co63)).setCell ⟨gb946, 0, none⟩ (.bool t958)).setCell ⟨gb946, 1, none⟩ (.slice Ao66 t959.length co66)).setCell ⟨gb946, 2, none⟩ (.slice Ao68 t962.length co68)).setCell ⟨gb946, 3, none⟩ (.slice Ao70 t965.length co70)) = w72 at n0_ n1_ n2_ n3_ n4_ n5_ n6_ n7_ n8_ ⊢
  have HO951 := n0_
  have HO954 := n1_
  have HO957 := n2_
  have HO961 := n3_
  have HO964 := n4_
  have HO967 := n5_
  have BK945 := n6_
  have BK946 := n7_
  have HB := n8_
  clear n0_ n1_ n2_ n3_ n4_ n5_ n6_ n7_ n8_
  have hnb73 := NB945_946.out
  have hnc73 := NB946_945.out
  obtain ⟨hcz74_0, hcz74_1, hcz74_2, hcz74_3, hfz74_0, hfz74_1, hfz74_2, hfz74_3⟩ := bf4 (w := w72) BK945
  try go_wp2_with (first | ((with_reducible refine gate_callee (f := 17) rfl ?_); refine gL (some 19) Try.func17 #[.agg #[.bool t948, .slice Ao59 t949.length co59, .slice Ao61 t952.length co61, .slice Ao63 t955.length co63]] ?_; (with_reducible refine (engrosslaw11_Of.calls k t948 _ _ t949 (fun k_ => some k_ = (.slice Ao61 t952.length co61 : Value).ownBlock) _ _ t952 (fun k_ => some k_ = (.slice Ao63 t955.length co63 : Value).ownBlock) _ _ t955 t968 t969 t972 t975 _ ?side1 ?side2 ?side3 ?side4 A7.out).mono ?_); (case side1 => repeat (first | exact (Kd.R_reads' HO951.out).2.2 | (with_reducible refine Kd.C_alloc ?_ _) | (with_reducible refine Kd.C_drewN ?_ _) | (with_reducible refine Kd.C_drew ?_))); (case side2 => exact (Kd.R_reads' HO951.out).2.1); (case side3 => exact Kd.R_V (Kd.R_tight rfl (Kd.R_types (Kd.R_types (Kd.R_apart' (Kd.R_apart' (Kd.R_apart' (Kd.R_apart' (HO954.out) (Kd.R_typed HO951.out) (by decide)) (Kd.R_typed HO957.out) (by decide)) (Kd.R_typed HO961.out) (by decide)) (Kd.R_typed HO967.out) (by decide)) BK945.out (by decide)) BK946.out (by decide)))); (case side4 => exact Kd.R_V (Kd.R_tight rfl (Kd.R_types (Kd.R_types (Kd.R_apart' (Kd.R_apart' (Kd.R_apart' (Kd.R_apart' (HO957.out) (Kd.R_typed HO951.out) (by decide)) (Kd.R_typed HO954.out) (by decide)) (Kd.R_typed HO961.out) (by decide)) (Kd.R_typed HO964.out) (by decide)) BK945.out (by decide)) BK946.out (by decide)))); rintro e w75 ⟨v970, v973, v976, rfl, ho0, ho1, ho2, hb⟩; refine ⟨_, rfl, ?_⟩; have HO971 := Aside0.mk (Kd.R_lower (Kd.R_mono (ok' := fun k_ => True) ho0 (fun _ hk_ => trivial)) (below_size (bC HB))); have q0_ := (Kd.R_types (Kd.R_types (Kd.R_apart' (Kd.R_apart' (Kd.R_apart' (Kd.R_apart' (HO954.out) (Kd.R_typed HO951.out) (by decide)) (Kd.R_typed HO957.out) (by decide)) (Kd.R_typed HO961.out) (by decide)) (Kd.R_typed HO967.out) (by decide)) BK945.out (by decide)) BK946.out (by decide)); have q1_ := (Kd.R_types (Kd.R_types (Kd.R_apart' (Kd.R_apart' (Kd.R_apart' (Kd.R_apart' (HO957.out) (Kd.R_typed HO951.out) (by decide)) (Kd.R_typed HO954.out) (by decide)) (Kd.R_typed HO961.out) (by decide)) (Kd.R_typed HO964.out) (by decide)) BK945.out (by decide)) BK946.out (by decide)); have HO974 := Aside0.mk (Kd.V_lower (Kd.V_mono (ok' := fun k_ => some k_ ≠ (v970 : Value).ownBlock ∧ some k_ ≠ (.slice Ao59 t949.length co59 : Value).ownBlock ∧ some k_ ≠ (.slice Ao66 t959.length co66 : Value).ownBlock ∧ some k_ ≠ (.slice Ao68 t962.length co68 : Value).ownBlock ∧ some k_ ≠ (.slice Ao70 t965.length co70 : Value).ownBlock ∧ k_ ≠ gb945 ∧ k_ ≠ gb946) ho1 (fun k_ hk_ => ⟨hk_.2, Or.elim hk_.1 (fun hs_ => Or.elim hs_ (fun hs_ => (q0_.1 k_ hs_.symm).1.1.1.1.1.2) (fun hs_ => (q1_.1 k_ hs_.symm).1.1.1.1.1.2)) (fun hn_ => (rF HO951 k_ hn_)), Or.elim hk_.1 (fun hs_ => Or.elim hs_ (fun hs_ => (q0_.1 k_ hs_.symm).1.1.1.2) (fun hs_ => (q1_.1 k_ hs_.symm).1.1.1.2)) (fun hn_ => (rF HO961 k_ hn_)), Or.elim hk_.1 (fun hs_ => Or.elim hs_ (fun hs_ => (q0_.1 k_ hs_.symm).1.1.1.1.1.1) (fun hs_ => (q1_.1 k_ hs_.symm).1.1.2)) (fun hn_ => (rF HO964 k_ hn_)), Or.elim hk_.1 (fun hs_ => Or.elim hs_ (fun hs_ => (q0_.1 k_ hs_.symm).1.1.2) (fun hs_ => (q1_.1 k_ hs_.symm).1.1.1.1.1.1)) (fun hn_ => (rF HO967 k_ hn_)), Or.elim hk_.1 (fun hs_ => Or.elim hs_ (fun hs_ => (q0_.1 k_ hs_.symm).1.2) (fun hs_ => (q1_.1 k_ hs_.symm).1.2)) (fun hn_ => (Kd.freshB (bQ BK945) k_ hn_)), Or.elim hk_.1 (fun hs_ => Or.elim hs_ (fun hs_ => (q0_.1 k_ hs_.symm).2) (fun hs_ => (q1_.1 k_ hs_.symm).2)) (fun hn_ => (Kd.freshB (bQ BK946) k_ hn_))⟩)) (below_size (bC HB))); have HO977 := Aside0.mk (Kd.V_lower (Kd.V_mono (ok' := fun k_ => some k_ ≠ (v970 : Value).ownBlock ∧ some k_ ≠ (.slice Ao59 t949.length co59 : Value).ownBlock ∧ some k_ ≠ (.slice Ao66 t959.length co66 : Value).ownBlock ∧ some k_ ≠ (.slice Ao68 t962.length co68 : Value).ownBlock ∧ some k_ ≠ (.slice Ao70 t965.length co70 : Value).ownBlock ∧ k_ ≠ gb945 ∧ k_ ≠ gb946) ho2 (fun k_ hk_ => ⟨hk_.2, Or.elim hk_.1 (fun hs_ => Or.elim hs_ (fun hs_ => (q0_.1 k_ hs_.symm).1.1.1.1.1.2) (fun hs_ => (q1_.1 k_ hs_.symm).1.1.1.1.1.2)) (fun hn_ => (rF HO951 k_ hn_)), Or.elim hk_.1 (fun hs_ => Or.elim hs_ (fun hs_ => (q0_.1 k_ hs_.symm).1.1.1.2) (fun hs_ => (q1_.1 k_ hs_.symm).1.1.1.2)) (fun hn_ => (rF HO961 k_ hn_)), Or.elim hk_.1 (fun hs_ => Or.elim hs_ (fun hs_ => (q0_.1 k_ hs_.symm).1.1.1.1.1.1) (fun hs_ => (q1_.1 k_ hs_.symm).1.1.2)) (fun hn_ => (rF HO964 k_ hn_)), Or.elim hk_.1 (fun hs_ => Or.elim hs_ (fun hs_ => (q0_.1 k_ hs_.symm).1.1.2) (fun hs_ => (q1_.1 k_ hs_.symm).1.1.1.1.1.1)) (fun hn_ => (rF HO967 k_ hn_)), Or.elim hk_.1 (fun hs_ => Or.elim hs_ (fun hs_ => (q0_.1 k_ hs_.symm).1.2) (fun hs_ => (q1_.1 k_ hs_.symm).1.2)) (fun hn_ => (Kd.freshB (bQ BK945) k_ hn_)), Or.elim hk_.1 (fun hs_ => Or.elim hs_ (fun hs_ => (q0_.1 k_ hs_.symm).2) (fun hs_ => (q1_.1 k_ hs_.symm).2)) (fun hn_ => (Kd.freshB (bQ BK946) k_ hn_))⟩)) (below_size (bC HB))); clear q0_ q1_; replace HO951 := rB HO951 hb; replace HO954 := rB HO954 hb; replace HO957 := rB HO957 hb; replace HO961 := rB HO961 hb; replace HO964 := rB HO964 hb; replace HO967 := rB HO967 hb; replace BK945 := bB BK945 hb; replace BK946 := bB BK946 hb; replace HB := bW HB hb; (try clear hb); (try clear hb2); (try clear hk); (try clear hi); (try clear ho0); (try clear ho1); (try clear ho2); obtain ⟨Ao76, co76, eo76⟩ := Kd.R_slice HO971.out; subst eo76; obtain ⟨Ao77, co77, eo77⟩ := Kd.V_slice HO974.out; subst eo77; obtain ⟨Ao78, co78, eo78⟩ := Kd.V_slice HO977.out; subst eo78) | ((with_reducible refine gate_callee (f := 19) rfl ?_); refine gL (some 20) Try.func19 #[.agg #[.bool t968, .slice Ao76 t969.length co76, .slice Ao77 t972.length co77, .slice Ao78 t975.length co78]] ?_; (with_reducible refine (node_Encode.calls k t968 _ _ t969 _ _ t972 _ _ t975 t978 t981 _ ?side1 ?side2 ?side3 ?side4 ?side5 ?side6 A8.out).mono ?_); (case side1 => repeat (first | exact (Kd.R_reads' HO971.out).2.2 | (with_reducible refine Kd.C_alloc ?_ _) | (with_reducible refine Kd.C_drewN ?_ _) | (with_reducible refine Kd.C_drew ?_))); (case side2 => exact (Kd.R_reads' HO971.out).2.1); (case side3 => repeat (first | exact (Kd.V_reads' HO974.out).2.2 | (with_reducible refine Kd.C_alloc ?_ _) | (with_reducible refine Kd.C_drewN ?_ _) | (with_reducible refine Kd.C_drew ?_))); (case side4 => exact (Kd.V_reads' HO974.out).2.1); (case side5 => repeat (first | exact (Kd.V_reads' HO977.out).2.2 | (with_reducible refine Kd.C_alloc ?_ _) | (with_reducible refine Kd.C_drewN ?_ _) | (with_reducible refine Kd.C_drew ?_))); (case side6 => exact (Kd.V_reads' HO977.out).2.1); rintro e w79 ⟨v979, rfl, ho0, hb⟩; refine ⟨_, rfl, ?_⟩; have HO980 := Aside0.mk (Kd.R_lower ho0 (below_size (bC HB))); replace HO951 := rB HO951 hb; replace HO954 := rB HO954 hb; replace HO957 := rB HO957 hb; replace HO961 := rB HO961 hb; replace HO964 := rB HO964 hb; replace HO967 := rB HO967 hb; replace HO971 := rB HO971 hb; replace HO974 := vE HO974 (Kd.R_base ho0) hb; replace HO977 := vE HO977 (Kd.R_base ho0) hb; replace BK945 := bB BK945 hb; replace BK946 := bB BK946 hb; replace HB := bW HB hb; (try clear hb); (try clear hb2); (try clear hk); (try clear hi); (try clear ho0); obtain ⟨hcz80_0, hcz80_1, hcz80_2, hcz80_3, hfz80_0, hfz80_1, hfz80_2, hfz80_3⟩ := bf4 (w := w79) BK946) | ((with_reducible refine gate_callee (f := 17) rfl ?_); refine gL (some 25) Try.func17 #[.agg #[.bool t958, .slice Ao66 t959.length co66, .slice Ao68 t962.length co68, .slice Ao70 t965.length co70]] ?_; (with_reducible refine (engrosslaw11_Of.calls k t958 _ _ t959 (fun k_ => some k_ = (.slice Ao68 t962.length co68 : Value).ownBlock) _ _ t962 (fun k_ => some k_ = (.slice Ao70 t965.length co70 : Value).ownBlock) _ _ t965 t982 t983 t986 t989 _ ?side1 ?side2 ?side3 ?side4 A9.out).mono ?_); (case side1 => repeat (first | exact (Kd.R_reads' HO961.out).2.2 | (with_reducible refine Kd.C_alloc ?_ _) | (with_reducible refine Kd.C_drewN ?_ _) | (with_reducible refine Kd.C_drew ?_))); (case side2 => exact (Kd.R_reads' HO961.out).2.1); (case side3 => exact Kd.R_V (Kd.R_tight rfl (Kd.R_types (Kd.R_types (Kd.R_apart' (Kd.R_apart' (Kd.R_apart' (Kd.R_apart' (Kd.R_apart' (Kd.R_apart' (HO964.out) (Kd.R_typed HO951.out) (by decide)) (Kd.R_typed HO957.out) (by decide)) (Kd.R_typed HO961.out) (by decide)) (Kd.R_typed HO967.out) (by decide)) (Kd.R_typed HO971.out) (by decide)) (Kd.R_typed HO980.out) (by decide)) BK945.out (by decide)) BK946.out (by decide)))); (case side4 => exact Kd.R_V (Kd.R_tight rfl (Kd.R_types (Kd.R_types (Kd.R_apart' (Kd.R_apart' (Kd.R_apart' (Kd.R_apart' (Kd.R_apart' (Kd.R_apart' (HO967.out) (Kd.R_typed HO951.out) (by decide)) (Kd.R_typed HO954.out) (by decide)) (Kd.R_typed HO961.out) (by decide)) (Kd.R_typed HO964.out) (by decide)) (Kd.R_typed HO971.out) (by decide)) (Kd.R_typed HO980.out) (by decide)) BK945.out (by decide)) BK946.out (by decide)))); rintro e w81 ⟨v984, v987, v990, rfl, ho0, ho1, ho2, hb⟩; refine ⟨_, rfl, ?_⟩; have HO985 := Aside0.mk (Kd.R_lower (Kd.R_new' (Kd.R_mono (ok' := fun k_ => True) ho0 (fun _ hk_ => trivial)) (Kd.R_lt (by (with_reducible repeat (first | apply Kd.R_alloc | apply Kd.R_drewN | apply Kd.R_drew)); exact HO971.out))) (below_size (bC HB))); have q0_ := (Kd.R_types (Kd.R_types (Kd.R_apart' (Kd.R_apart' (Kd.R_apart' (Kd.R_apart' (Kd.R_apart' (Kd.R_apart' (HO964.out) (Kd.R_typed HO951.out) (by decide)) (Kd.R_typed HO957.out) (by decide)) (Kd.R_typed HO961.out) (by decide)) (Kd.R_typed HO967.out) (by decide)) (Kd.R_typed HO971.out) (by decide)) (Kd.R_typed HO980.out) (by decide)) BK945.out (by decide)) BK946.out (by decide)); have q1_ := (Kd.R_types (Kd.R_types (Kd.R_apart' (Kd.R_apart' (Kd.R_apart' (Kd.R_apart' (Kd.R_apart' (Kd.R_apart' (HO967.out) (Kd.R_typed HO951.out) (by decide)) (Kd.R_typed HO954.out) (by decide)) (Kd.R_typed HO961.out) (by decide)) (Kd.R_typed HO964.out) (by decide)) (Kd.R_typed HO971.out) (by decide)) (Kd.R_typed HO980.out) (by decide)) BK945.out (by decide)) BK946.out (by decide)); have HO988 := Aside0.mk (Kd.V_lower (Kd.V_mono (ok' := fun k_ => some k_ ≠ (v984 : Value).ownBlock ∧ some k_ ≠ (.slice Ao59 t949.length co59 : Value).ownBlock ∧ some k_ ≠ (.slice Ao61 t952.length co61 : Value).ownBlock ∧ some k_ ≠ (.slice Ao63 t955.length co63 : Value).ownBlock ∧ some k_ ≠ (.slice Ao66 t959.length co66 : Value).ownBlock ∧ some k_ ≠ (.slice Ao76 t969.length co76 : Value).ownBlock ∧ some k_ ≠ (v979 : Value).ownBlock ∧ k_ ≠ gb945 ∧ k_ ≠ gb946) ho1 (fun k_ hk_ => ⟨hk_.2, Or.elim hk_.1 (fun hs_ => Or.elim hs_ (fun hs_ => (q0_.1 k_ hs_.symm).1.1.1.1.1.1.1.2) (fun hs_ => (q1_.1 k_ hs_.symm).1.1.1.1.1.1.1.2)) (fun hn_ => (rF HO951 k_ hn_)), Or.elim hk_.1 (fun hs_ => Or.elim hs_ (fun hs_ => (q0_.1 k_ hs_.symm).1.1.1.1.1.1.1.1) (fun hs_ => (q1_.1 k_ hs_.symm).1.1.1.1.1.1.2)) (fun hn_ => (rF HO954 k_ hn_)), Or.elim hk_.1 (fun hs_ => Or.elim hs_ (fun hs_ => (q0_.1 k_ hs_.symm).1.1.1.1.1.1.2) (fun hs_ => (q1_.1 k_ hs_.symm).1.1.1.1.1.1.1.1)) (fun hn_ => (rF HO957 k_ hn_)), Or.elim hk_.1 (fun hs_ => Or.elim hs_ (fun hs_ => (q0_.1 k_ hs_.symm).1.1.1.1.1.2) (fun hs_ => (q1_.1 k_ hs_.symm).1.1.1.1.1.2)) (fun hn_ => (rF HO961 k_ hn_)), Or.elim hk_.1 (fun hs_ => Or.elim hs_ (fun hs_ => (q0_.1 k_ hs_.symm).1.1.1.2) (fun hs_ => (q1_.1 k_ hs_.symm).1.1.1.2)) (fun hn_ => (rF HO971 k_ hn_)), Or.elim hk_.1 (fun hs_ => Or.elim hs_ (fun hs_ => (q0_.1 k_ hs_.symm).1.1.2) (fun hs_ => (q1_.1 k_ hs_.symm).1.1.2)) (fun hn_ => (rF HO980 k_ hn_)), Or.elim hk_.1 (fun hs_ => Or.elim hs_ (fun hs_ => (q0_.1 k_ hs_.symm).1.2) (fun hs_ => (q1_.1 k_ hs_.symm).1.2)) (fun hn_ => (Kd.freshB (bQ BK945) k_ hn_)), Or.elim hk_.1 (fun hs_ => Or.elim hs_ (fun hs_ => (q0_.1 k_ hs_.symm).2) (fun hs_ => (q1_.1 k_ hs_.symm).2)) (fun hn_ => (Kd.freshB (bQ BK946) k_ hn_))⟩)) (below_size (bC HB))); have HO991 := Aside0.mk (Kd.V_lower (Kd.V_mono (ok' := fun k_ => some k_ ≠ (v984 : Value).ownBlock ∧ some k_ ≠ (.slice Ao59 t949.length co59 : Value).ownBlock ∧ some k_ ≠ (.slice Ao61 t952.length co61 : Value).ownBlock ∧ some k_ ≠ (.slice Ao63 t955.length co63 : Value).ownBlock ∧ some k_ ≠ (.slice Ao66 t959.length co66 : Value).ownBlock ∧ some k_ ≠ (.slice Ao76 t969.length co76 : Value).ownBlock ∧ some k_ ≠ (v979 : Value).ownBlock ∧ k_ ≠ gb945 ∧ k_ ≠ gb946) ho2 (fun k_ hk_ => ⟨hk_.2, Or.elim hk_.1 (fun hs_ => Or.elim hs_ (fun hs_ => (q0_.1 k_ hs_.symm).1.1.1.1.1.1.1.2) (fun hs_ => (q1_.1 k_ hs_.symm).1.1.1.1.1.1.1.2)) (fun hn_ => (rF HO951 k_ hn_)), Or.elim hk_.1 (fun hs_ => Or.elim hs_ (fun hs_ => (q0_.1 k_ hs_.symm).1.1.1.1.1.1.1.1) (fun hs_ => (q1_.1 k_ hs_.symm).1.1.1.1.1.1.2)) (fun hn_ => (rF HO954 k_ hn_)), Or.elim hk_.1 (fun hs_ => Or.elim hs_ (fun hs_ => (q0_.1 k_ hs_.symm).1.1.1.1.1.1.2) (fun hs_ => (q1_.1 k_ hs_.symm).1.1.1.1.1.1.1.1)) (fun hn_ => (rF HO957 k_ hn_)), Or.elim hk_.1 (fun hs_ => Or.elim hs_ (fun hs_ => (q0_.1 k_ hs_.symm).1.1.1.1.1.2) (fun hs_ => (q1_.1 k_ hs_.symm).1.1.1.1.1.2)) (fun hn_ => (rF HO961 k_ hn_)), Or.elim hk_.1 (fun hs_ => Or.elim hs_ (fun hs_ => (q0_.1 k_ hs_.symm).1.1.1.2) (fun hs_ => (q1_.1 k_ hs_.symm).1.1.1.2)) (fun hn_ => (rF HO971 k_ hn_)), Or.elim hk_.1 (fun hs_ => Or.elim hs_ (fun hs_ => (q0_.1 k_ hs_.symm).1.1.2) (fun hs_ => (q1_.1 k_ hs_.symm).1.1.2)) (fun hn_ => (rF HO980 k_ hn_)), Or.elim hk_.1 (fun hs_ => Or.elim hs_ (fun hs_ => (q0_.1 k_ hs_.symm).1.2) (fun hs_ => (q1_.1 k_ hs_.symm).1.2)) (fun hn_ => (Kd.freshB (bQ BK945) k_ hn_)), Or.elim hk_.1 (fun hs_ => Or.elim hs_ (fun hs_ => (q0_.1 k_ hs_.symm).2) (fun hs_ => (q1_.1 k_ hs_.symm).2)) (fun hn_ => (Kd.freshB (bQ BK946) k_ hn_))⟩)) (below_size (bC HB))); clear q0_ q1_; replace HO951 := rB HO951 hb; replace HO954 := rB HO954 hb; replace HO957 := rB HO957 hb; replace HO961 := rB HO961 hb; replace HO964 := rB HO964 hb; replace HO967 := rB HO967 hb; replace HO971 := rE HO971 (Kd.R_base ho0) hb; replace HO974 := vE HO974 (Kd.R_base ho0) hb; replace HO977 := vE HO977 (Kd.R_base ho0) hb; replace HO980 := rB HO980 hb; replace BK945 := bB BK945 hb; replace BK946 := bB BK946 hb; replace HB := bW HB hb; (try clear hb); (try clear hb2); (try clear hk); (try clear hi); (try clear ho0); (try clear ho1); (try clear ho2); obtain ⟨Ao82, co82, eo82⟩ := Kd.R_slice HO985.out; subst eo82; obtain ⟨Ao83, co83, eo83⟩ := Kd.V_slice HO988.out; subst eo83; obtain ⟨Ao84, co84, eo84⟩ := Kd.V_slice HO991.out; subst eo84) | ((with_reducible refine gate_callee (f := 19) rfl ?_); refine gL (some 26) Try.func19 #[.agg #[.bool t982, .slice Ao82 t983.length co82, .slice Ao83 t986.length co83, .slice Ao84 t989.length co84]] ?_; (with_reducible refine (node_Encode.calls k t982 _ _ t983 _ _ t986 _ _ t989 t992 t995 _ ?side1 ?side2 ?side3 ?side4 ?side5 ?side6 A10.out).mono ?_); (case side1 => repeat (first | exact (Kd.R_reads' HO985.out).2.2 | (with_reducible refine Kd.C_alloc ?_ _) | (with_reducible refine Kd.C_drewN ?_ _) | (with_reducible refine Kd.C_drew ?_))); (case side2 => exact (Kd.R_reads' HO985.out).2.1); (case side3 => repeat (first | exact (Kd.V_reads' HO988.out).2.2 | (with_reducible refine Kd.C_alloc ?_ _) | (with_reducible refine Kd.C_drewN ?_ _) | (with_reducible refine Kd.C_drew ?_))); (case side4 => exact (Kd.V_reads' HO988.out).2.1); (case side5 => repeat (first | exact (Kd.V_reads' HO991.out).2.2 | (with_reducible refine Kd.C_alloc ?_ _) | (with_reducible refine Kd.C_drewN ?_ _) | (with_reducible refine Kd.C_drew ?_))); (case side6 => exact (Kd.V_reads' HO991.out).2.1); rintro e w85 ⟨v993, rfl, ho0, hb⟩; refine ⟨_, rfl, ?_⟩; have HO994 := Aside0.mk (Kd.R_lower (Kd.R_new' ho0 (Kd.R_lt (by (with_reducible repeat (first | apply Kd.R_alloc | apply Kd.R_drewN | apply Kd.R_drew)); exact HO980.out))) (below_size (bC HB))); replace HO951 := rB HO951 hb; replace HO954 := rB HO954 hb; replace HO957 := rB HO957 hb; replace HO961 := rB HO961 hb; replace HO964 := rB HO964 hb; replace HO967 := rB HO967 hb; replace HO971 := rB HO971 hb; replace HO974 := vE HO974 (Kd.R_base ho0) hb; replace HO977 := vE HO977 (Kd.R_base ho0) hb; replace HO980 := rE HO980 (Kd.R_base ho0) hb; replace HO985 := rB HO985 hb; replace HO988 := vE HO988 (Kd.R_base ho0) hb; replace HO991 := vE HO991 (Kd.R_base ho0) hb; replace BK945 := bB BK945 hb; replace BK946 := bB BK946 hb; replace HB := bW HB hb; (try clear hb); (try clear hb2); (try clear hk); (try clear hi); (try clear ho0)))
  replace HO951 := Aside0.mk (Kd.R_drew HO951.out)
  replace HO954 := Aside0.mk (Kd.R_drew HO954.out)
  replace HO957 := Aside0.mk (Kd.R_drew HO957.out)
  replace HO961 := Aside0.mk (Kd.R_drew HO961.out)
  replace HO964 := Aside0.mk (Kd.R_drew HO964.out)
  replace HO967 := Aside0.mk (Kd.R_drew HO967.out)
  replace HO971 := Aside0.mk (Kd.R_drew HO971.out)
  replace HO974 := Aside0.mk (Kd.V_drew HO974.out)
  replace HO977 := Aside0.mk (Kd.V_drew HO977.out)
  replace HO980 := Aside0.mk (Kd.R_drew HO980.out)
  replace HO985 := Aside0.mk (Kd.R_drew HO985.out)
  replace HO988 := Aside0.mk (Kd.V_drew HO988.out)
  replace HO991 := Aside0.mk (Kd.V_drew HO991.out)
  replace HO994 := Aside0.mk (Kd.R_drew HO994.out)
  replace BK945 := Aside0.mk (blk_drew BK945.out)
  replace BK946 := Aside0.mk (blk_drew BK946.out)
  replace HB := Aside0.mk (below_drew1 HB.out)
  refine start_ (n := 18) (S := fun w' => True) (ds := []) #[false,false,false,false,false,false,false,false,false,false,false,false,false,false,false,false,false,false] (by kernel_rfl) rfl rfl trivial (fun hHeld => ?_); refine with_tabW engrosslaw11_NodeTwins.tab7 engrosslaw11_NodeTwins.bits7 (fun HT_ HW_ => ?_)
  generalize w85.drew = w86 at HO951 HO954 HO957 HO961 HO964 HO967 HO971 HO974 HO977 HO980 HO985 HO988 HO991 HO994 BK945 BK946 HB hHeld ⊢
  refine pA 0 29 HT_ ?_
  refine pA 1 30 HT_ ?_
  refine pA 2 31 HT_ ?_
  refine pA 3 32 HT_ ?_
  refine pA 4 33 HT_ ?_
  refine pA 5 34 HT_ ?_
  refine pA 6 35 HT_ ?_
  refine pU 7 36 HT_ ?_
  refine pU 8 37 HT_ ?_
  refine pU 9 38 HT_ ?_
  refine pU 10 39 HT_ ?_
  refine pU 11 40 HT_ ?_
  refine pU 12 41 HT_ ?_
  refine pU 13 42 HT_ ?_
  refine pU 14 43 HT_ ?_
  refine pU 15 44 HT_ ?_
  refine pA 16 45 HT_ ?_
  refine pA 17 4 HT_ ?_
  refine done_ (done_of HT_.out (by kernel_rfl)) ?_
  try go_wp2
  go_ret
  exact xB HB
 rw [if_pos c12] at H
 have c12b0 : (t995 == 0) = true := beq_iff_eq.mpr c12
 have c12b1 : (t995 != 0) = false := bne_eq_false_iff_eq.mpr c12
 clear c12
 replace H := Option.bind_eq_some_iff.mp H
 obtain ⟨t996, A130, H⟩ := H
 replace H : (some (((strOfNums t978).toList == (strOfNums t992).toList) == t996)) = some r := H
 have A13 := Aside0.mk A130
 clear A130
 obtain rfl := Option.some.inj H
 go_enter Try.func10, Try.ntmps10
 try go_wp2_with (first | ((with_reducible refine gate_dst (N := 2) rfl ?_); refine box_event ?hg (N := 2) ?hd (cs := #[.bool a0_0, .slice A0_1 l0_1.length c0_1, .slice A0_2 l0_2.length c0_2, .slice A0_3 l0_3.length c0_3]) (t := 26) ?hr ?_; (case hd => rfl); (case hg => rfl); (case hr => first | (go_simp; done) | (go_simp; rfl)); intro gb945 hg w14 hbox hb; have BK945 := Aside0.mk (hbox); have GW945 := bZ HB hg; have GE945 := bZ HB hg; replace HB := bW HB hb; clear hb hbox hg) | ((with_reducible refine gate_dst (N := 3) rfl ?_); refine box_event ?hg (N := 3) ?hd (cs := #[.bool a1_0, .slice A1_1 l1_1.length c1_1, .slice A1_2 l1_2.length c1_2, .slice A1_3 l1_3.length c1_3]) (t := 26) ?hr ?_; (case hd => rfl); (case hg => rfl); (case hr => first | (go_simp; done) | (go_simp; rfl)); intro gb946 hg w15 hbox hb; have BK946 := Aside0.mk (hbox); have GW946 := bZ HB hg; have GE946 := bZ HB hg; have NB945_946 := bL BK945 hg; have NB946_945 := bG BK945 hg; replace BK945 := bB BK945 hb; replace HB := bW HB hb; clear hb hbox hg) | ((with_reducible refine gate_callee (f := 11) rfl ?_); refine gL (some 10) Try.func11 #[] ?_; (with_reducible refine (engrosslaw11_begun.calls k  true _ A3.out).mono ?_); rintro e w16 ⟨rfl, hb⟩; refine ⟨_, rfl, ?_⟩; replace BK945 := bB BK945 hb; replace BK946 := bB BK946 hb; replace HB := bW HB hb; (try clear hb); (try clear hb2); (try clear hk); (try clear hi)))
 replace BK945 := Aside0.mk (blk_drew BK945.out)
 replace BK946 := Aside0.mk (blk_drew BK946.out)
 replace HB := Aside0.mk (below_drew1 HB.out)
 refine start_ (n := 6) (S := fun w' => w'.cell? ⟨gb945, 0, none⟩ = some (.bool a0_0) ∧ w'.cell? ⟨gb945, 1, none⟩ = some (.slice A0_1 l0_1.length c0_1) ∧ w'.cell? ⟨gb945, 2, none⟩ = some (.slice A0_2 l0_2.length c0_2) ∧ w'.cell? ⟨gb945, 3, none⟩ = some (.slice A0_3 l0_3.length c0_3) ∧ w'.cell? ⟨gb946, 0, none⟩ = some (.bool a1_0) ∧ w'.cell? ⟨gb946, 1, none⟩ = some (.slice A1_1 l1_1.length c1_1) ∧ w'.cell? ⟨gb946, 2, none⟩ = some (.slice A1_2 l1_2.length c1_2) ∧ w'.cell? ⟨gb946, 3, none⟩ = some (.slice A1_3 l1_3.length c1_3)) (ds := [4, 5]) #[false,false,false,false,false,false] (by kernel_rfl) rfl rfl (bn4 BK945 (be4 BK946)) (fun hHeld => ?_)
 generalize w16.drew = w17 at BK945 BK946 HB hHeld ⊢
 refine take_ (i := 0) (N := some 13) (v := ?_) (a' := ?_) #[true,false,false,false,false,false] rfl rfl (by kernel_rfl) (fun _ _ _ h => h) (Or.inl ⟨by rfl, ?_⟩) hHeld ?_ ?_
 rotate_left
 ·rintro w' ⟨s0, s1, s2, s3, s4, s5, s6, s7⟩
  go_simp
  with_reducible rfl
 rotate_left
 ·simp only [Act.put, List.setIfInBounds_toArray, List.set_cons_zero, List.set_cons_succ, i64_w, i32_w]
  rfl
 refine take_ (i := 2) (N := some 15) (v := ?_) (a' := ?_) #[true,false,true,false,false,false] rfl rfl (by kernel_rfl) (fun _ _ _ h => h) (Or.inl ⟨by rfl, ?_⟩) hHeld ?_ ?_
 rotate_left
 ·rintro w' ⟨s0, s1, s2, s3, s4, s5, s6, s7⟩
  go_simp
  with_reducible rfl
 rotate_left
 ·simp only [Act.put, List.setIfInBounds_toArray, List.set_cons_zero, List.set_cons_succ, i64_w, i32_w]
  rfl
 refine one_ (i := 1) (N := some 14) #[true,true,true,false,false,false] rfl rfl (by kernel_rfl) (by decide) (fun K hK => ?_)
 refine goes_ Try.func12 (by kernel_rfl) rfl #[.agg #[.bool a0_0, .slice A0_1 l0_1.length c0_1, .slice A0_2 l0_2.length c0_2, .slice A0_3 l0_3.length c0_3]] (by rfl) rfl rfl (by (try simp only [List.map_toArray, List.map_cons, List.map_nil]); first | done | rfl | (simp only [List.length_drop, List.length_take]; rfl)) ?_
 with_reducible refine (engrosslaw11_Cut.calls k a0_0 _ _ l0_1 _ _ l0_2 _ _ l0_3 t948 t949 t952 t955 _ ?side1 ?side2 ?side3 ?side4 ?side5 ?side6 A5.out).mono ?_
 (case side1 => repeat (first | exact (Kd.C_below HR0_1.out HB.out) | (with_reducible refine Kd.C_alloc ?_ _) | (with_reducible refine Kd.C_drewN ?_ _) | (with_reducible refine Kd.C_drew ?_)))
 (case side2 => exact HC0_1.out)
 (case side3 => repeat (first | exact (Kd.C_below HR0_2.out HB.out) | (with_reducible refine Kd.C_alloc ?_ _) | (with_reducible refine Kd.C_drewN ?_ _) | (with_reducible refine Kd.C_drew ?_)))
 (case side4 => exact HC0_2.out)
 (case side5 => repeat (first | exact (Kd.C_below HR0_3.out HB.out) | (with_reducible refine Kd.C_alloc ?_ _) | (with_reducible refine Kd.C_drewN ?_ _) | (with_reducible refine Kd.C_drew ?_)))
 (case side6 => exact HC0_3.out)
 rintro e w18 ⟨v950, v953, v956, rfl, ho0, ho1, ho2, hb⟩
 refine ⟨_, rfl, ?_⟩
 have HO951 := Aside0.mk (Kd.R_lower ho0 (below_size (bC HB)))
 have HO954 := Aside0.mk (Kd.R_lower ho1 (below_size (bC HB)))
 have HO957 := Aside0.mk (Kd.R_lower ho2 (below_size (bC HB)))
 replace BK945 := bB BK945 hb
 replace BK946 := bB BK946 hb
 replace HB := bW HB hb
 (try clear hb)
 (try clear hb2)
 (try clear hk)
 (try clear hi)
 (try clear ho0)
 (try clear ho1)
 (try clear ho2)
 refine hK.out _ _ (bn4 BK945 (be4 BK946)) (fun hHeld => ?_)
 clear hK K
 refine norm_ (a' := ?_) ?_ ?_
 rotate_left
 ·show Act.put _ (some 14) _ = _
  simp only [Act.put, List.setIfInBounds_toArray, List.set_cons_zero, List.set_cons_succ, i64_w, i32_w]
  rfl
 refine one_ (i := 3) (N := some 16) #[true,true,true,true,false,false] rfl rfl (by kernel_rfl) (by decide) (fun K hK => ?_)
 refine goes_ Try.func12 (by kernel_rfl) rfl #[.agg #[.bool a1_0, .slice A1_1 l1_1.length c1_1, .slice A1_2 l1_2.length c1_2, .slice A1_3 l1_3.length c1_3]] (by rfl) rfl rfl (by (try simp only [List.map_toArray, List.map_cons, List.map_nil]); first | done | rfl | (simp only [List.length_drop, List.length_take]; rfl)) ?_
 with_reducible refine (engrosslaw11_Cut.calls k a1_0 _ _ l1_1 _ _ l1_2 _ _ l1_3 t958 t959 t962 t965 _ ?side1 ?side2 ?side3 ?side4 ?side5 ?side6 A6.out).mono ?_
 (case side1 => repeat (first | exact (Kd.C_below HR1_1.out HB.out) | (with_reducible refine Kd.C_alloc ?_ _) | (with_reducible refine Kd.C_drewN ?_ _) | (with_reducible refine Kd.C_drew ?_)))
 (case side2 => exact HC1_1.out)
 (case side3 => repeat (first | exact (Kd.C_below HR1_2.out HB.out) | (with_reducible refine Kd.C_alloc ?_ _) | (with_reducible refine Kd.C_drewN ?_ _) | (with_reducible refine Kd.C_drew ?_)))
 (case side4 => exact HC1_2.out)
 (case side5 => repeat (first | exact (Kd.C_below HR1_3.out HB.out) | (with_reducible refine Kd.C_alloc ?_ _) | (with_reducible refine Kd.C_drewN ?_ _) | (with_reducible refine Kd.C_drew ?_)))
 (case side6 => exact HC1_3.out)
 rintro e w19 ⟨v960, v963, v966, rfl, ho0, ho1, ho2, hb⟩
 refine ⟨_, rfl, ?_⟩
 have HO961 := Aside0.mk (Kd.R_lower (Kd.R_new' ho0 (Kd.R_lt (by (with_reducible repeat (first | apply Kd.R_alloc | apply Kd.R_drewN | apply Kd.R_drew)); exact HO951.out))) (below_size (bC HB)))
 have HO964 := Aside0.mk (Kd.R_lower (Kd.R_new' ho1 (Kd.R_lt (by (with_reducible repeat (first | apply Kd.R_alloc | apply Kd.R_drewN | apply Kd.R_drew)); exact HO954.out))) (below_size (bC HB)))
 have HO967 := Aside0.mk (Kd.R_lower (Kd.R_new' ho2 (Kd.R_lt (by (with_reducible repeat (first | apply Kd.R_alloc | apply Kd.R_drewN | apply Kd.R_drew)); exact HO957.out))) (below_size (bC HB)))
 replace HO951 := rE HO951 (Kd.R_base ho0) hb
 replace HO954 := rE HO954 (Kd.R_base ho1) hb
 replace HO957 := rE HO957 (Kd.R_base ho2) hb
 replace BK945 := bB BK945 hb
 replace BK946 := bB BK946 hb
 replace HB := bW HB hb
 (try clear hb)
 (try clear hb2)
 (try clear hk)
 (try clear hi)
 (try clear ho0)
 (try clear ho1)
 (try clear ho2)
 obtain ⟨Ao21, co21, eo21⟩ := Kd.R_slice HO951.out
 (first | subst eo21 | (injection eo21 with f1_ f2_ f3_; have f4_ := f1_.symm; have f5_ := f3_.symm; clear f1_ f2_ f3_; subst f4_; subst f5_))
 obtain ⟨Ao23, co23, eo23⟩ := Kd.R_slice HO954.out
 (first | subst eo23 | (injection eo23 with f1_ f2_ f3_; have f4_ := f1_.symm; have f5_ := f3_.symm; clear f1_ f2_ f3_; subst f4_; subst f5_))
 obtain ⟨Ao25, co25, eo25⟩ := Kd.R_slice HO957.out
 (first | subst eo25 | (injection eo25 with f1_ f2_ f3_; have f4_ := f1_.symm; have f5_ := f3_.symm; clear f1_ f2_ f3_; subst f4_; subst f5_))
 obtain ⟨Ao28, co28, eo28⟩ := Kd.R_slice HO961.out
 (first | subst eo28 | (injection eo28 with f1_ f2_ f3_; have f4_ := f1_.symm; have f5_ := f3_.symm; clear f1_ f2_ f3_; subst f4_; subst f5_))
 obtain ⟨Ao30, co30, eo30⟩ := Kd.R_slice HO964.out
 (first | subst eo30 | (injection eo30 with f1_ f2_ f3_; have f4_ := f1_.symm; have f5_ := f3_.symm; clear f1_ f2_ f3_; subst f4_; subst f5_))
 obtain ⟨Ao32, co32, eo32⟩ := Kd.R_slice HO967.out
 (first | subst eo32 | (injection eo32 with f1_ f2_ f3_; have f4_ := f1_.symm; have f5_ := f3_.symm; clear f1_ f2_ f3_; subst f4_; subst f5_))
 refine hK.out _ _ (bn4 BK945 (be4 BK946)) (fun hHeld => ?_)
 clear hK K
 refine norm_ (a' := ?_) ?_ ?_
 rotate_left
 ·show Act.put _ (some 16) _ = _
  simp only [Act.put, List.setIfInBounds_toArray, List.set_cons_zero, List.set_cons_succ, i64_w, i32_w]
  rfl
 refine last_ (i := 4) (N := none) #[true,true,true,true,true,false] rfl rfl (by kernel_rfl) (by decide) (fun K hK => ?_)
 have hs20 : w19.cell? ⟨gb945, 0, none⟩ = some (.bool a0_0) := (blk_cell BK945.out 0).trans rfl
 have hfs20 := blk_frozen BK945.out 0
 have hns20_1 := NB946_945.out
 have hms20_1 := NB945_946.out
 have hs22 : w19.cell? ⟨gb945, 1, none⟩ = some (.slice A0_1 l0_1.length c0_1) := (blk_cell BK945.out 1).trans rfl
 have hfs22 := blk_frozen BK945.out 1
 have hns22_1 := NB946_945.out
 have hms22_1 := NB945_946.out
 have hs24 : w19.cell? ⟨gb945, 2, none⟩ = some (.slice A0_2 l0_2.length c0_2) := (blk_cell BK945.out 2).trans rfl
 have hfs24 := blk_frozen BK945.out 2
 have hns24_1 := NB946_945.out
 have hms24_1 := NB945_946.out
 have hs26 : w19.cell? ⟨gb945, 3, none⟩ = some (.slice A0_3 l0_3.length c0_3) := (blk_cell BK945.out 3).trans rfl
 have hfs26 := blk_frozen BK945.out 3
 have hns26_1 := NB946_945.out
 have hms26_1 := NB945_946.out
 with_reducible refine skip_ (w1 := ?_) (by with_unfolding_all rfl) (by with_unfolding_all rfl) ?_ ?_
 rotate_left
 ·go_simp
  rfl
 refine hK.out _ _ ?_
 clear hK K
 refine last_ (i := 5) (N := none) #[true,true,true,true,true,true] rfl rfl (by kernel_rfl) (by decide) (fun K hK => ?_)
 have hs27 : w19.cell? ⟨gb946, 0, none⟩ = some (.bool a1_0) := (blk_cell BK946.out 0).trans rfl
 have hfs27 := blk_frozen BK946.out 0
 have hns27_0 := NB945_946.out
 have hms27_0 := NB946_945.out
 have hs29 : w19.cell? ⟨gb946, 1, none⟩ = some (.slice A1_1 l1_1.length c1_1) := (blk_cell BK946.out 1).trans rfl
 have hfs29 := blk_frozen BK946.out 1
 have hns29_0 := NB945_946.out
 have hms29_0 := NB946_945.out
 have hs31 : w19.cell? ⟨gb946, 2, none⟩ = some (.slice A1_2 l1_2.length c1_2) := (blk_cell BK946.out 2).trans rfl
 have hfs31 := blk_frozen BK946.out 2
 have hns31_0 := NB945_946.out
 have hms31_0 := NB946_945.out
 have hs33 : w19.cell? ⟨gb946, 3, none⟩ = some (.slice A1_3 l1_3.length c1_3) := (blk_cell BK946.out 3).trans rfl
 have hfs33 := blk_frozen BK946.out 3
 have hns33_0 := NB945_946.out
 have hms33_0 := NB946_945.out
 with_reducible refine skip_ (w1 := ?_) (by with_unfolding_all rfl) (by with_unfolding_all rfl) ?_ ?_
 rotate_left
 ·go_simp
  rfl
 refine hK.out _ _ ?_
 clear hK K
 refine done_ (by kernel_rfl) ?_
 have n0_ : Aside0 (Kd.R k56 56 ((((((((w19.setCell ⟨gb945, 0, none⟩ (.bool t948)).setCell ⟨gb945, 1, none⟩ (.slice Ao21 t949.length co21)).setCell ⟨gb945, 2, none⟩ (.slice Ao23 t952.length co23)).setCell ⟨gb945, 3, none⟩ (.slice Ao25 t955.length co25)).setCell ⟨gb946, 0, none⟩ (.bool t958)).setCell ⟨gb946, 1, none⟩ (.slice Ao28 t959.length co28)).setCell ⟨gb946, 2, none⟩ (.slice Ao30 t962.length co30)).setCell ⟨gb946, 3, none⟩ (.slice Ao32 t965.length co32)) w.heap.size (fun k_ => some k_ ≠ (.slice Ao28 t959.length co28 : Value).ownBlock) (.slice Ao21 t949.length co21) t949) := ⟨by (with_reducible repeat (first | apply Kd.R_alloc | apply Kd.R_drewN | apply Kd.R_drew)); exact Kd.R_mono (Kd.R_far (p := ⟨gb946, 3, none⟩) (Kd.R_far (p := ⟨gb946, 2, none⟩) (Kd.R_far (p := ⟨gb946, 1, none⟩) (Kd.R_far (p := ⟨gb946, 0, none⟩) (Kd.R_far (p := ⟨gb945, 3, none⟩) (Kd.R_far (p := ⟨gb945, 2, none⟩) (Kd.R_far (p := ⟨gb945, 1, none⟩) (Kd.R_far (p := ⟨gb945, 0, none⟩) (Kd.R_types (Kd.R_types HO951.out BK945.out (by decide)) BK946.out (by decide)) (fun _ hk => hk.1.2) (.bool t948)) (fun _ hk => hk.1.2) (.slice Ao21 t949.length co21)) (fun _ hk => hk.1.2) (.slice Ao23 t952.length co23)) (fun _ hk => hk.1.2) (.slice Ao25 t955.length co25)) (fun _ hk => hk.2) (.bool t958)) (fun _ hk => hk.2) (.slice Ao28 t959.length co28)) (fun _ hk => hk.2) (.slice Ao30 t962.length co30)) (fun _ hk => hk.2) (.slice Ao32 t965.length co32)) (fun _ hk => hk.1.1.2)⟩
 have n1_ : Aside0 (Kd.R Kd.string 9 ((((((((w19.setCell ⟨gb945, 0, none⟩ (.bool t948)).setCell ⟨gb945, 1, none⟩ (.slice Ao21 t949.length co21)).setCell ⟨gb945, 2, none⟩ (.slice Ao23 t952.length co23)).setCell ⟨gb945, 3, none⟩ (.slice Ao25 t955.length co25)).setCell ⟨gb946, 0, none⟩ (.bool t958)).setCell ⟨gb946, 1, none⟩ (.slice Ao28 t959.length co28)).setCell ⟨gb946, 2, none⟩ (.slice Ao30 t962.length co30)).setCell ⟨gb946, 3, none⟩ (.slice Ao32 t965.length co32)) w.heap.size (fun k_ => some k_ ≠ (.slice Ao30 t962.length co30 : Value).ownBlock) (.slice Ao23 t952.length co23) t952) := ⟨by (with_reducible repeat (first | apply Kd.R_alloc | apply Kd.R_drewN | apply Kd.R_drew)); exact Kd.R_mono (Kd.R_far (p := ⟨gb946, 3, none⟩) (Kd.R_far (p := ⟨gb946, 2, none⟩) (Kd.R_far (p := ⟨gb946, 1, none⟩) (Kd.R_far (p := ⟨gb946, 0, none⟩) (Kd.R_far (p := ⟨gb945, 3, none⟩) (Kd.R_far (p := ⟨gb945, 2, none⟩) (Kd.R_far (p := ⟨gb945, 1, none⟩) (Kd.R_far (p := ⟨gb945, 0, none⟩) (Kd.R_types (Kd.R_types HO954.out BK945.out (by decide)) BK946.out (by decide)) (fun _ hk => hk.1.2) (.bool t948)) (fun _ hk => hk.1.2) (.slice Ao21 t949.length co21)) (fun _ hk => hk.1.2) (.slice Ao23 t952.length co23)) (fun _ hk => hk.1.2) (.slice Ao25 t955.length co25)) (fun _ hk => hk.2) (.bool t958)) (fun _ hk => hk.2) (.slice Ao28 t959.length co28)) (fun _ hk => hk.2) (.slice Ao30 t962.length co30)) (fun _ hk => hk.2) (.slice Ao32 t965.length co32)) (fun _ hk => hk.1.1.2)⟩
 have n2_ : Aside0 (Kd.R (Kd.int .i64) 3 ((((((((w19.setCell ⟨gb945, 0, none⟩ (.bool t948)).setCell ⟨gb945, 1, none⟩ (.slice Ao21 t949.length co21)).setCell ⟨gb945, 2, none⟩ (.slice Ao23 t952.length co23)).setCell ⟨gb945, 3, none⟩ (.slice Ao25 t955.length co25)).setCell ⟨gb946, 0, none⟩ (.bool t958)).setCell ⟨gb946, 1, none⟩ (.slice Ao28 t959.length co28)).setCell ⟨gb946, 2, none⟩ (.slice Ao30 t962.length co30)).setCell ⟨gb946, 3, none⟩ (.slice Ao32 t965.length co32)) w.heap.size (fun k_ => some k_ ≠ (.slice Ao32 t965.length co32 : Value).ownBlock) (.slice Ao25 t955.length co25) t955) := ⟨by (with_reducible repeat (first | apply Kd.R_alloc | apply Kd.R_drewN | apply Kd.R_drew)); exact Kd.R_mono (Kd.R_far (p := ⟨gb946, 3, none⟩) (Kd.R_far (p := ⟨gb946, 2, none⟩) (Kd.R_far (p := ⟨gb946, 1, none⟩) (Kd.R_far (p := ⟨gb946, 0, none⟩) (Kd.R_far (p := ⟨gb945, 3, none⟩) (Kd.R_far (p := ⟨gb945, 2, none⟩) (Kd.R_far (p := ⟨gb945, 1, none⟩) (Kd.R_far (p := ⟨gb945, 0, none⟩) (Kd.R_types (Kd.R_types HO957.out BK945.out (by decide)) BK946.out (by decide)) (fun _ hk => hk.1.2) (.bool t948)) (fun _ hk => hk.1.2) (.slice Ao21 t949.length co21)) (fun _ hk => hk.1.2) (.slice Ao23 t952.length co23)) (fun _ hk => hk.1.2) (.slice Ao25 t955.length co25)) (fun _ hk => hk.2) (.bool t958)) (fun _ hk => hk.2) (.slice Ao28 t959.length co28)) (fun _ hk => hk.2) (.slice Ao30 t962.length co30)) (fun _ hk => hk.2) (.slice Ao32 t965.length co32)) (fun _ hk => hk.1.1.2)⟩
 have n3_ : Aside0 (Kd.R k56 56 ((((((((w19.setCell ⟨gb945, 0, none⟩ (.bool t948)).setCell ⟨gb945, 1, none⟩ (.slice Ao21 t949.length co21)).setCell ⟨gb945, 2, none⟩ (.slice Ao23 t952.length co23)).setCell ⟨gb945, 3, none⟩ (.slice Ao25 t955.length co25)).setCell ⟨gb946, 0, none⟩ (.bool t958)).setCell ⟨gb946, 1, none⟩ (.slice Ao28 t959.length co28)).setCell ⟨gb946, 2, none⟩ (.slice Ao30 t962.length co30)).setCell ⟨gb946, 3, none⟩ (.slice Ao32 t965.length co32)) w.heap.size (fun k_ => some k_ ≠ (.slice Ao21 t949.length co21 : Value).ownBlock) (.slice Ao28 t959.length co28) t959) := ⟨by (with_reducible repeat (first | apply Kd.R_alloc | apply Kd.R_drewN | apply Kd.R_drew)); exact Kd.R_mono (Kd.R_far (p := ⟨gb946, 3, none⟩) (Kd.R_far (p := ⟨gb946, 2, none⟩) (Kd.R_far (p := ⟨gb946, 1, none⟩) (Kd.R_far (p := ⟨gb946, 0, none⟩) (Kd.R_far (p := ⟨gb945, 3, none⟩) (Kd.R_far (p := ⟨gb945, 2, none⟩) (Kd.R_far (p := ⟨gb945, 1, none⟩) (Kd.R_far (p := ⟨gb945, 0, none⟩) (Kd.R_types (Kd.R_types HO961.out BK945.out (by decide)) BK946.out (by decide)) (fun _ hk => hk.1.2) (.bool t948)) (fun _ hk => hk.1.2) (.slice Ao21 t949.length co21)) (fun _ hk => hk.1.2) (.slice Ao23 t952.length co23)) (fun _ hk => hk.1.2) (.slice Ao25 t955.length co25)) (fun _ hk => hk.2) (.bool t958)) (fun _ hk => hk.2) (.slice Ao28 t959.length co28)) (fun _ hk => hk.2) (.slice Ao30 t962.length co30)) (fun _ hk => hk.2) (.slice Ao32 t965.length co32)) (fun _ hk => hk.1.1.2)⟩
 have n4_ : Aside0 (Kd.R Kd.string 9 ((((((((w19.setCell ⟨gb945, 0, none⟩ (.bool t948)).setCell ⟨gb945, 1, none⟩ (.slice Ao21 t949.length co21)).setCell ⟨gb945, 2, none⟩ (.slice Ao23 t952.length co23)).setCell ⟨gb945, 3, none⟩ (.slice Ao25 t955.length co25)).setCell ⟨gb946, 0, none⟩ (.bool t958)).setCell ⟨gb946, 1, none⟩ (.slice Ao28 t959.length co28)).setCell ⟨gb946, 2, none⟩ (.slice Ao30 t962.length co30)).setCell ⟨gb946, 3, none⟩ (.slice Ao32 t965.length co32)) w.heap.size (fun k_ => some k_ ≠ (.slice Ao23 t952.length co23 : Value).ownBlock) (.slice Ao30 t962.length co30) t962) := ⟨by (with_reducible repeat (first | apply Kd.R_alloc | apply Kd.R_drewN | apply Kd.R_drew)); exact Kd.R_mono (Kd.R_far (p := ⟨gb946, 3, none⟩) (Kd.R_far (p := ⟨gb946, 2, none⟩) (Kd.R_far (p := ⟨gb946, 1, none⟩) (Kd.R_far (p := ⟨gb946, 0, none⟩) (Kd.R_far (p := ⟨gb945, 3, none⟩) (Kd.R_far (p := ⟨gb945, 2, none⟩) (Kd.R_far (p := ⟨gb945, 1, none⟩) (Kd.R_far (p := ⟨gb945, 0, none⟩) (Kd.R_types (Kd.R_types HO964.out BK945.out (by decide)) BK946.out (by decide)) (fun _ hk => hk.1.2) (.bool t948)) (fun _ hk => hk.1.2) (.slice Ao21 t949.length co21)) (fun _ hk => hk.1.2) (.slice Ao23 t952.length co23)) (fun _ hk => hk.1.2) (.slice Ao25 t955.length co25)) (fun _ hk => hk.2) (.bool t958)) (fun _ hk => hk.2) (.slice Ao28 t959.length co28)) (fun _ hk => hk.2) (.slice Ao30 t962.length co30)) (fun _ hk => hk.2) (.slice Ao32 t965.length co32)) (fun _ hk => hk.1.1.2)⟩
 have n5_ : Aside0 (Kd.R (Kd.int .i64) 3 ((((((((w19.setCell ⟨gb945, 0, none⟩ (.bool t948)).setCell ⟨gb945, 1, none⟩ (.slice Ao21 t949.length co21)).setCell ⟨gb945, 2, none⟩ (.slice Ao23 t952.length co23)).setCell ⟨gb945, 3, none⟩ (.slice Ao25 t955.length co25)).setCell ⟨gb946, 0, none⟩ (.bool t958)).setCell ⟨gb946, 1, none⟩ (.slice Ao28 t959.length co28)).setCell ⟨gb946, 2, none⟩ (.slice Ao30 t962.length co30)).setCell ⟨gb946, 3, none⟩ (.slice Ao32 t965.length co32)) w.heap.size (fun k_ => some k_ ≠ (.slice Ao25 t955.length co25 : Value).ownBlock) (.slice Ao32 t965.length co32) t965) := ⟨by (with_reducible repeat (first | apply Kd.R_alloc | apply Kd.R_drewN | apply Kd.R_drew)); exact Kd.R_mono (Kd.R_far (p := ⟨gb946, 3, none⟩) (Kd.R_far (p := ⟨gb946, 2, none⟩) (Kd.R_far (p := ⟨gb946, 1, none⟩) (Kd.R_far (p := ⟨gb946, 0, none⟩) (Kd.R_far (p := ⟨gb945, 3, none⟩) (Kd.R_far (p := ⟨gb945, 2, none⟩) (Kd.R_far (p := ⟨gb945, 1, none⟩) (Kd.R_far (p := ⟨gb945, 0, none⟩) (Kd.R_types (Kd.R_types HO967.out BK945.out (by decide)) BK946.out (by decide)) (fun _ hk => hk.1.2) (.bool t948)) (fun _ hk => hk.1.2) (.slice Ao21 t949.length co21)) (fun _ hk => hk.1.2) (.slice Ao23 t952.length co23)) (fun _ hk => hk.1.2) (.slice Ao25 t955.length co25)) (fun _ hk => hk.2) (.bool t958)) (fun _ hk => hk.2) (.slice Ao28 t959.length co28)) (fun _ hk => hk.2) (.slice Ao30 t962.length co30)) (fun _ hk => hk.2) (.slice Ao32 t965.length co32)) (fun _ hk => hk.1.1.2)⟩
 have n6_ : Aside0 (((((((((w19.setCell ⟨gb945, 0, none⟩ (.bool t948)).setCell ⟨gb945, 1, none⟩ (.slice Ao21 t949.length co21)).setCell ⟨gb945, 2, none⟩ (.slice Ao23 t952.length co23)).setCell ⟨gb945, 3, none⟩ (.slice Ao25 t955.length co25)).setCell ⟨gb946, 0, none⟩ (.bool t958)).setCell ⟨gb946, 1, none⟩ (.slice Ao28 t959.length co28)).setCell ⟨gb946, 2, none⟩ (.slice Ao30 t962.length co30)).setCell ⟨gb946, 3, none⟩ (.slice Ao32 t965.length co32)).heap[gb945]? = some (.cells #[.bool t948, .slice Ao21 t949.length co21, .slice Ao23 t952.length co23, .slice Ao25 t955.length co25] 26 (0, 0))) := ⟨by (with_reducible repeat (first | refine blk_drewN ?_ _ | refine blk_drew ?_ | refine blk_alloc ?_ _)); refine blk_far ?_ NB945_946.out _; (with_reducible repeat (first | refine blk_drewN ?_ _ | refine blk_drew ?_ | refine blk_alloc ?_ _)); refine blk_far ?_ NB945_946.out _; (with_reducible repeat (first | refine blk_drewN ?_ _ | refine blk_drew ?_ | refine blk_alloc ?_ _)); refine blk_far ?_ NB945_946.out _; (with_reducible repeat (first | refine blk_drewN ?_ _ | refine blk_drew ?_ | refine blk_alloc ?_ _)); refine blk_far ?_ NB945_946.out _; (with_reducible repeat (first | refine blk_drewN ?_ _ | refine blk_drew ?_ | refine blk_alloc ?_ _)); refine blk_put (cs := #[.bool t948, .slice Ao21 t949.length co21, .slice Ao23 t952.length co23, .slice A0_3 l0_3.length c0_3]) ?_ 3 _ rfl; (with_reducible repeat (first | refine blk_drewN ?_ _ | refine blk_drew ?_ | refine blk_alloc ?_ _)); refine blk_put (cs := #[.bool t948, .slice Ao21 t949.length co21, .slice A0_2 l0_2.length c0_2, .slice A0_3 l0_3.length c0_3]) ?_ 2 _ rfl; (with_reducible repeat (first | refine blk_drewN ?_ _ | refine blk_drew ?_ | refine blk_alloc ?_ _)); refine blk_put (cs := #[.bool t948, .slice A0_1 l0_1.length c0_1, .slice A0_2 l0_2.length c0_2, .slice A0_3 l0_3.length c0_3]) ?_ 1 _ rfl; (with_reducible repeat (first | refine blk_drewN ?_ _ | refine blk_drew ?_ | refine blk_alloc ?_ _)); refine blk_put (cs := #[.bool a0_0, .slice A0_1 l0_1.length c0_1, .slice A0_2 l0_2.length c0_2, .slice A0_3 l0_3.length c0_3]) ?_ 0 _ rfl; (with_reducible repeat (first | refine blk_drewN ?_ _ | refine blk_drew ?_ | refine blk_alloc ?_ _)); exact BK945.out⟩
 have n7_ : Aside0 (((((((((w19.setCell ⟨gb945, 0, none⟩ (.bool t948)).setCell ⟨gb945, 1, none⟩ (.slice Ao21 t949.length co21)).setCell ⟨gb945, 2, none⟩ (.slice Ao23 t952.length co23)).setCell ⟨gb945, 3, none⟩ (.slice Ao25 t955.length co25)).setCell ⟨gb946, 0, none⟩ (.bool t958)).setCell ⟨gb946, 1, none⟩ (.slice Ao28 t959.length co28)).setCell ⟨gb946, 2, none⟩ (.slice Ao30 t962.length co30)).setCell ⟨gb946, 3, none⟩ (.slice Ao32 t965.length co32)).heap[gb946]? = some (.cells #[.bool t958, .slice Ao28 t959.length co28, .slice Ao30 t962.length co30, .slice Ao32 t965.length co32] 26 (0, 0))) := ⟨by (with_reducible repeat (first | refine blk_drewN ?_ _ | refine blk_drew ?_ | refine blk_alloc ?_ _)); refine blk_put (cs := #[.bool t958, .slice Ao28 t959.length co28, .slice Ao30 t962.length co30, .slice A1_3 l1_3.length c1_3]) ?_ 3 _ rfl; (with_reducible repeat (first | refine blk_drewN ?_ _ | refine blk_drew ?_ | refine blk_alloc ?_ _)); refine blk_put (cs := #[.bool t958, .slice Ao28 t959.length co28, .slice A1_2 l1_2.length c1_2, .slice A1_3 l1_3.length c1_3]) ?_ 2 _ rfl; (with_reducible repeat (first | refine blk_drewN ?_ _ | refine blk_drew ?_ | refine blk_alloc ?_ _)); refine blk_put (cs := #[.bool t958, .slice A1_1 l1_1.length c1_1, .slice A1_2 l1_2.length c1_2, .slice A1_3 l1_3.length c1_3]) ?_ 1 _ rfl; (with_reducible repeat (first | refine blk_drewN ?_ _ | refine blk_drew ?_ | refine blk_alloc ?_ _)); refine blk_put (cs := #[.bool a1_0, .slice A1_1 l1_1.length c1_1, .slice A1_2 l1_2.length c1_2, .slice A1_3 l1_3.length c1_3]) ?_ 0 _ rfl; (with_reducible repeat (first | refine blk_drewN ?_ _ | refine blk_drew ?_ | refine blk_alloc ?_ _)); refine blk_far ?_ NB946_945.out _; (with_reducible repeat (first | refine blk_drewN ?_ _ | refine blk_drew ?_ | refine blk_alloc ?_ _)); refine blk_far ?_ NB946_945.out _; (with_reducible repeat (first | refine blk_drewN ?_ _ | refine blk_drew ?_ | refine blk_alloc ?_ _)); refine blk_far ?_ NB946_945.out _; (with_reducible repeat (first | refine blk_drewN ?_ _ | refine blk_drew ?_ | refine blk_alloc ?_ _)); refine blk_far ?_ NB946_945.out _; (with_reducible repeat (first | refine blk_drewN ?_ _ | refine blk_drew ?_ | refine blk_alloc ?_ _)); exact BK946.out⟩
 have n8_ : Aside0 (Below w.heap.size w ((((((((w19.setCell ⟨gb945, 0, none⟩ (.bool t948)).setCell ⟨gb945, 1, none⟩ (.slice Ao21 t949.length co21)).setCell ⟨gb945, 2, none⟩ (.slice Ao23 t952.length co23)).setCell ⟨gb945, 3, none⟩ (.slice Ao25 t955.length co25)).setCell ⟨gb946, 0, none⟩ (.bool t958)).setCell ⟨gb946, 1, none⟩ (.slice Ao28 t959.length co28)).setCell ⟨gb946, 2, none⟩ (.slice Ao30 t962.length co30)).setCell ⟨gb946, 3, none⟩ (.slice Ao32 t965.length co32))) := ⟨by repeat (first | (with_reducible first | exact HB.out | apply below_alloc | apply pw_below_drewN | apply below_drew1 | refine below_set ?_ GE945.out | refine below_set ?_ GE946.out) | exact HB.out)⟩
 (try clear HO951)
 (try clear HO954)
 (try clear HO957)
 (try clear HO961)
 (try clear HO964)
 (try clear HO967)
 (try clear BK945)
 (try clear BK946)
 (try clear HB)
 generalize ((((((((w19.setCell ⟨gb945, 0, none⟩ (.bool t948)).setCell ⟨gb945, 1, none⟩ (.slice Ao21 t949.length co21)).setCell ⟨gb945, 2, none⟩ (.slice Ao23 t952.length co23)).setCell ⟨gb945, 3, none⟩ (.slice Ao25 t955.length co25)).setCell ⟨gb946, 0, none⟩ (.bool t958)).setCell ⟨gb946, 1, none⟩ (.slice Ao28 t959.length co28)).setCell ⟨gb946, 2, none⟩ (.slice Ao30 t962.length co30)).setCell ⟨gb946, 3, none⟩ (.slice Ao32 t965.length co32)) = w34 at n0_ n1_ n2_ n3_ n4_ n5_ n6_ n7_ n8_ ⊢
 have HO951 := n0_
 have HO954 := n1_
 have HO957 := n2_
 have HO961 := n3_
 have HO964 := n4_
 have HO967 := n5_
 have BK945 := n6_
 have BK946 := n7_
 have HB := n8_
 clear n0_ n1_ n2_ n3_ n4_ n5_ n6_ n7_ n8_
 have hnb35 := NB945_946.out
 have hnc35 := NB946_945.out
 obtain ⟨hcz36_0, hcz36_1, hcz36_2, hcz36_3, hfz36_0, hfz36_1, hfz36_2, hfz36_3⟩ := bf4 (w := w34) BK945
 try go_wp2_with (first | ((with_reducible refine gate_callee (f := 17) rfl ?_); refine gL (some 19) Try.func17 #[.agg #[.bool t948, .slice Ao21 t949.length co21, .slice Ao23 t952.length co23, .slice Ao25 t955.length co25]] ?_; (with_reducible refine (engrosslaw11_Of.calls k t948 _ _ t949 (fun k_ => some k_ = (.slice Ao23 t952.length co23 : Value).ownBlock) _ _ t952 (fun k_ => some k_ = (.slice Ao25 t955.length co25 : Value).ownBlock) _ _ t955 t968 t969 t972 t975 _ ?side1 ?side2 ?side3 ?side4 A7.out).mono ?_); (case side1 => repeat (first | exact (Kd.R_reads' HO951.out).2.2 | (with_reducible refine Kd.C_alloc ?_ _) | (with_reducible refine Kd.C_drewN ?_ _) | (with_reducible refine Kd.C_drew ?_))); (case side2 => exact (Kd.R_reads' HO951.out).2.1); (case side3 => exact Kd.R_V (Kd.R_tight rfl (Kd.R_types (Kd.R_types (Kd.R_apart' (Kd.R_apart' (Kd.R_apart' (Kd.R_apart' (HO954.out) (Kd.R_typed HO951.out) (by decide)) (Kd.R_typed HO957.out) (by decide)) (Kd.R_typed HO961.out) (by decide)) (Kd.R_typed HO967.out) (by decide)) BK945.out (by decide)) BK946.out (by decide)))); (case side4 => exact Kd.R_V (Kd.R_tight rfl (Kd.R_types (Kd.R_types (Kd.R_apart' (Kd.R_apart' (Kd.R_apart' (Kd.R_apart' (HO957.out) (Kd.R_typed HO951.out) (by decide)) (Kd.R_typed HO954.out) (by decide)) (Kd.R_typed HO961.out) (by decide)) (Kd.R_typed HO964.out) (by decide)) BK945.out (by decide)) BK946.out (by decide)))); rintro e w37 ⟨v970, v973, v976, rfl, ho0, ho1, ho2, hb⟩; refine ⟨_, rfl, ?_⟩; have HO971 := Aside0.mk (Kd.R_lower (Kd.R_mono (ok' := fun k_ => True) ho0 (fun _ hk_ => trivial)) (below_size (bC HB))); have q0_ := (Kd.R_types (Kd.R_types (Kd.R_apart' (Kd.R_apart' (Kd.R_apart' (Kd.R_apart' (HO954.out) (Kd.R_typed HO951.out) (by decide)) (Kd.R_typed HO957.out) (by decide)) (Kd.R_typed HO961.out) (by decide)) (Kd.R_typed HO967.out) (by decide)) BK945.out (by decide)) BK946.out (by decide)); have q1_ := (Kd.R_types (Kd.R_types (Kd.R_apart' (Kd.R_apart' (Kd.R_apart' (Kd.R_apart' (HO957.out) (Kd.R_typed HO951.out) (by decide)) (Kd.R_typed HO954.out) (by decide)) (Kd.R_typed HO961.out) (by decide)) (Kd.R_typed HO964.out) (by decide)) BK945.out (by decide)) BK946.out (by decide)); have HO974 := Aside0.mk (Kd.V_lower (Kd.V_mono (ok' := fun k_ => some k_ ≠ (v970 : Value).ownBlock ∧ some k_ ≠ (.slice Ao21 t949.length co21 : Value).ownBlock ∧ some k_ ≠ (.slice Ao28 t959.length co28 : Value).ownBlock ∧ some k_ ≠ (.slice Ao30 t962.length co30 : Value).ownBlock ∧ some k_ ≠ (.slice Ao32 t965.length co32 : Value).ownBlock ∧ k_ ≠ gb945 ∧ k_ ≠ gb946) ho1 (fun k_ hk_ => ⟨hk_.2, Or.elim hk_.1 (fun hs_ => Or.elim hs_ (fun hs_ => (q0_.1 k_ hs_.symm).1.1.1.1.1.2) (fun hs_ => (q1_.1 k_ hs_.symm).1.1.1.1.1.2)) (fun hn_ => (rF HO951 k_ hn_)), Or.elim hk_.1 (fun hs_ => Or.elim hs_ (fun hs_ => (q0_.1 k_ hs_.symm).1.1.1.2) (fun hs_ => (q1_.1 k_ hs_.symm).1.1.1.2)) (fun hn_ => (rF HO961 k_ hn_)), Or.elim hk_.1 (fun hs_ => Or.elim hs_ (fun hs_ => (q0_.1 k_ hs_.symm).1.1.1.1.1.1) (fun hs_ => (q1_.1 k_ hs_.symm).1.1.2)) (fun hn_ => (rF HO964 k_ hn_)), Or.elim hk_.1 (fun hs_ => Or.elim hs_ (fun hs_ => (q0_.1 k_ hs_.symm).1.1.2) (fun hs_ => (q1_.1 k_ hs_.symm).1.1.1.1.1.1)) (fun hn_ => (rF HO967 k_ hn_)), Or.elim hk_.1 (fun hs_ => Or.elim hs_ (fun hs_ => (q0_.1 k_ hs_.symm).1.2) (fun hs_ => (q1_.1 k_ hs_.symm).1.2)) (fun hn_ => (Kd.freshB (bQ BK945) k_ hn_)), Or.elim hk_.1 (fun hs_ => Or.elim hs_ (fun hs_ => (q0_.1 k_ hs_.symm).2) (fun hs_ => (q1_.1 k_ hs_.symm).2)) (fun hn_ => (Kd.freshB (bQ BK946) k_ hn_))⟩)) (below_size (bC HB))); have HO977 := Aside0.mk (Kd.V_lower (Kd.V_mono (ok' := fun k_ => some k_ ≠ (v970 : Value).ownBlock ∧ some k_ ≠ (.slice Ao21 t949.length co21 : Value).ownBlock ∧ some k_ ≠ (.slice Ao28 t959.length co28 : Value).ownBlock ∧ some k_ ≠ (.slice Ao30 t962.length co30 : Value).ownBlock ∧ some k_ ≠ (.slice Ao32 t965.length co32 : Value).ownBlock ∧ k_ ≠ gb945 ∧ k_ ≠ gb946) ho2 (fun k_ hk_ => ⟨hk_.2, Or.elim hk_.1 (fun hs_ => Or.elim hs_ (fun hs_ => (q0_.1 k_ hs_.symm).1.1.1.1.1.2) (fun hs_ => (q1_.1 k_ hs_.symm).1.1.1.1.1.2)) (fun hn_ => (rF HO951 k_ hn_)), Or.elim hk_.1 (fun hs_ => Or.elim hs_ (fun hs_ => (q0_.1 k_ hs_.symm).1.1.1.2) (fun hs_ => (q1_.1 k_ hs_.symm).1.1.1.2)) (fun hn_ => (rF HO961 k_ hn_)), Or.elim hk_.1 (fun hs_ => Or.elim hs_ (fun hs_ => (q0_.1 k_ hs_.symm).1.1.1.1.1.1) (fun hs_ => (q1_.1 k_ hs_.symm).1.1.2)) (fun hn_ => (rF HO964 k_ hn_)), Or.elim hk_.1 (fun hs_ => Or.elim hs_ (fun hs_ => (q0_.1 k_ hs_.symm).1.1.2) (fun hs_ => (q1_.1 k_ hs_.symm).1.1.1.1.1.1)) (fun hn_ => (rF HO967 k_ hn_)), Or.elim hk_.1 (fun hs_ => Or.elim hs_ (fun hs_ => (q0_.1 k_ hs_.symm).1.2) (fun hs_ => (q1_.1 k_ hs_.symm).1.2)) (fun hn_ => (Kd.freshB (bQ BK945) k_ hn_)), Or.elim hk_.1 (fun hs_ => Or.elim hs_ (fun hs_ => (q0_.1 k_ hs_.symm).2) (fun hs_ => (q1_.1 k_ hs_.symm).2)) (fun hn_ => (Kd.freshB (bQ BK946) k_ hn_))⟩)) (below_size (bC HB))); clear q0_ q1_; replace HO951 := rB HO951 hb; replace HO954 := rB HO954 hb; replace HO957 := rB HO957 hb; replace HO961 := rB HO961 hb; replace HO964 := rB HO964 hb; replace HO967 := rB HO967 hb; replace BK945 := bB BK945 hb; replace BK946 := bB BK946 hb; replace HB := bW HB hb; (try clear hb); (try clear hb2); (try clear hk); (try clear hi); (try clear ho0); (try clear ho1); (try clear ho2); obtain ⟨Ao38, co38, eo38⟩ := Kd.R_slice HO971.out; subst eo38; obtain ⟨Ao39, co39, eo39⟩ := Kd.V_slice HO974.out; subst eo39; obtain ⟨Ao40, co40, eo40⟩ := Kd.V_slice HO977.out; subst eo40) | ((with_reducible refine gate_callee (f := 19) rfl ?_); refine gL (some 20) Try.func19 #[.agg #[.bool t968, .slice Ao38 t969.length co38, .slice Ao39 t972.length co39, .slice Ao40 t975.length co40]] ?_; (with_reducible refine (node_Encode.calls k t968 _ _ t969 _ _ t972 _ _ t975 t978 t981 _ ?side1 ?side2 ?side3 ?side4 ?side5 ?side6 A8.out).mono ?_); (case side1 => repeat (first | exact (Kd.R_reads' HO971.out).2.2 | (with_reducible refine Kd.C_alloc ?_ _) | (with_reducible refine Kd.C_drewN ?_ _) | (with_reducible refine Kd.C_drew ?_))); (case side2 => exact (Kd.R_reads' HO971.out).2.1); (case side3 => repeat (first | exact (Kd.V_reads' HO974.out).2.2 | (with_reducible refine Kd.C_alloc ?_ _) | (with_reducible refine Kd.C_drewN ?_ _) | (with_reducible refine Kd.C_drew ?_))); (case side4 => exact (Kd.V_reads' HO974.out).2.1); (case side5 => repeat (first | exact (Kd.V_reads' HO977.out).2.2 | (with_reducible refine Kd.C_alloc ?_ _) | (with_reducible refine Kd.C_drewN ?_ _) | (with_reducible refine Kd.C_drew ?_))); (case side6 => exact (Kd.V_reads' HO977.out).2.1); rintro e w41 ⟨v979, rfl, ho0, hb⟩; refine ⟨_, rfl, ?_⟩; have HO980 := Aside0.mk (Kd.R_lower ho0 (below_size (bC HB))); replace HO951 := rB HO951 hb; replace HO954 := rB HO954 hb; replace HO957 := rB HO957 hb; replace HO961 := rB HO961 hb; replace HO964 := rB HO964 hb; replace HO967 := rB HO967 hb; replace HO971 := rB HO971 hb; replace HO974 := vE HO974 (Kd.R_base ho0) hb; replace HO977 := vE HO977 (Kd.R_base ho0) hb; replace BK945 := bB BK945 hb; replace BK946 := bB BK946 hb; replace HB := bW HB hb; (try clear hb); (try clear hb2); (try clear hk); (try clear hi); (try clear ho0); obtain ⟨hcz42_0, hcz42_1, hcz42_2, hcz42_3, hfz42_0, hfz42_1, hfz42_2, hfz42_3⟩ := bf4 (w := w41) BK946) | ((with_reducible refine gate_callee (f := 17) rfl ?_); refine gL (some 25) Try.func17 #[.agg #[.bool t958, .slice Ao28 t959.length co28, .slice Ao30 t962.length co30, .slice Ao32 t965.length co32]] ?_; (with_reducible refine (engrosslaw11_Of.calls k t958 _ _ t959 (fun k_ => some k_ = (.slice Ao30 t962.length co30 : Value).ownBlock) _ _ t962 (fun k_ => some k_ = (.slice Ao32 t965.length co32 : Value).ownBlock) _ _ t965 t982 t983 t986 t989 _ ?side1 ?side2 ?side3 ?side4 A9.out).mono ?_); (case side1 => repeat (first | exact (Kd.R_reads' HO961.out).2.2 | (with_reducible refine Kd.C_alloc ?_ _) | (with_reducible refine Kd.C_drewN ?_ _) | (with_reducible refine Kd.C_drew ?_))); (case side2 => exact (Kd.R_reads' HO961.out).2.1); (case side3 => exact Kd.R_V (Kd.R_tight rfl (Kd.R_types (Kd.R_types (Kd.R_apart' (Kd.R_apart' (Kd.R_apart' (Kd.R_apart' (Kd.R_apart' (Kd.R_apart' (HO964.out) (Kd.R_typed HO951.out) (by decide)) (Kd.R_typed HO957.out) (by decide)) (Kd.R_typed HO961.out) (by decide)) (Kd.R_typed HO967.out) (by decide)) (Kd.R_typed HO971.out) (by decide)) (Kd.R_typed HO980.out) (by decide)) BK945.out (by decide)) BK946.out (by decide)))); (case side4 => exact Kd.R_V (Kd.R_tight rfl (Kd.R_types (Kd.R_types (Kd.R_apart' (Kd.R_apart' (Kd.R_apart' (Kd.R_apart' (Kd.R_apart' (Kd.R_apart' (HO967.out) (Kd.R_typed HO951.out) (by decide)) (Kd.R_typed HO954.out) (by decide)) (Kd.R_typed HO961.out) (by decide)) (Kd.R_typed HO964.out) (by decide)) (Kd.R_typed HO971.out) (by decide)) (Kd.R_typed HO980.out) (by decide)) BK945.out (by decide)) BK946.out (by decide)))); rintro e w43 ⟨v984, v987, v990, rfl, ho0, ho1, ho2, hb⟩; refine ⟨_, rfl, ?_⟩; have HO985 := Aside0.mk (Kd.R_lower (Kd.R_new' (Kd.R_mono (ok' := fun k_ => True) ho0 (fun _ hk_ => trivial)) (Kd.R_lt (by (with_reducible repeat (first | apply Kd.R_alloc | apply Kd.R_drewN | apply Kd.R_drew)); exact HO971.out))) (below_size (bC HB))); have q0_ := (Kd.R_types (Kd.R_types (Kd.R_apart' (Kd.R_apart' (Kd.R_apart' (Kd.R_apart' (Kd.R_apart' (Kd.R_apart' (HO964.out) (Kd.R_typed HO951.out) (by decide)) (Kd.R_typed HO957.out) (by decide)) (Kd.R_typed HO961.out) (by decide)) (Kd.R_typed HO967.out) (by decide)) (Kd.R_typed HO971.out) (by decide)) (Kd.R_typed HO980.out) (by decide)) BK945.out (by decide)) BK946.out (by decide)); have q1_ := (Kd.R_types (Kd.R_types (Kd.R_apart' (Kd.R_apart' (Kd.R_apart' (Kd.R_apart' (Kd.R_apart' (Kd.R_apart' (HO967.out) (Kd.R_typed HO951.out) (by decide)) (Kd.R_typed HO954.out) (by decide)) (Kd.R_typed HO961.out) (by decide)) (Kd.R_typed HO964.out) (by decide)) (Kd.R_typed HO971.out) (by decide)) (Kd.R_typed HO980.out) (by decide)) BK945.out (by decide)) BK946.out (by decide)); have HO988 := Aside0.mk (Kd.V_lower (Kd.V_mono (ok' := fun k_ => some k_ ≠ (v984 : Value).ownBlock ∧ some k_ ≠ (.slice Ao21 t949.length co21 : Value).ownBlock ∧ some k_ ≠ (.slice Ao23 t952.length co23 : Value).ownBlock ∧ some k_ ≠ (.slice Ao25 t955.length co25 : Value).ownBlock ∧ some k_ ≠ (.slice Ao28 t959.length co28 : Value).ownBlock ∧ some k_ ≠ (.slice Ao38 t969.length co38 : Value).ownBlock ∧ some k_ ≠ (v979 : Value).ownBlock ∧ k_ ≠ gb945 ∧ k_ ≠ gb946) ho1 (fun k_ hk_ => ⟨hk_.2, Or.elim hk_.1 (fun hs_ => Or.elim hs_ (fun hs_ => (q0_.1 k_ hs_.symm).1.1.1.1.1.1.1.2) (fun hs_ => (q1_.1 k_ hs_.symm).1.1.1.1.1.1.1.2)) (fun hn_ => (rF HO951 k_ hn_)), Or.elim hk_.1 (fun hs_ => Or.elim hs_ (fun hs_ => (q0_.1 k_ hs_.symm).1.1.1.1.1.1.1.1) (fun hs_ => (q1_.1 k_ hs_.symm).1.1.1.1.1.1.2)) (fun hn_ => (rF HO954 k_ hn_)), Or.elim hk_.1 (fun hs_ => Or.elim hs_ (fun hs_ => (q0_.1 k_ hs_.symm).1.1.1.1.1.1.2) (fun hs_ => (q1_.1 k_ hs_.symm).1.1.1.1.1.1.1.1)) (fun hn_ => (rF HO957 k_ hn_)), Or.elim hk_.1 (fun hs_ => Or.elim hs_ (fun hs_ => (q0_.1 k_ hs_.symm).1.1.1.1.1.2) (fun hs_ => (q1_.1 k_ hs_.symm).1.1.1.1.1.2)) (fun hn_ => (rF HO961 k_ hn_)), Or.elim hk_.1 (fun hs_ => Or.elim hs_ (fun hs_ => (q0_.1 k_ hs_.symm).1.1.1.2) (fun hs_ => (q1_.1 k_ hs_.symm).1.1.1.2)) (fun hn_ => (rF HO971 k_ hn_)), Or.elim hk_.1 (fun hs_ => Or.elim hs_ (fun hs_ => (q0_.1 k_ hs_.symm).1.1.2) (fun hs_ => (q1_.1 k_ hs_.symm).1.1.2)) (fun hn_ => (rF HO980 k_ hn_)), Or.elim hk_.1 (fun hs_ => Or.elim hs_ (fun hs_ => (q0_.1 k_ hs_.symm).1.2) (fun hs_ => (q1_.1 k_ hs_.symm).1.2)) (fun hn_ => (Kd.freshB (bQ BK945) k_ hn_)), Or.elim hk_.1 (fun hs_ => Or.elim hs_ (fun hs_ => (q0_.1 k_ hs_.symm).2) (fun hs_ => (q1_.1 k_ hs_.symm).2)) (fun hn_ => (Kd.freshB (bQ BK946) k_ hn_))⟩)) (below_size (bC HB))); have HO991 := Aside0.mk (Kd.V_lower (Kd.V_mono (ok' := fun k_ => some k_ ≠ (v984 : Value).ownBlock ∧ some k_ ≠ (.slice Ao21 t949.length co21 : Value).ownBlock ∧ some k_ ≠ (.slice Ao23 t952.length co23 : Value).ownBlock ∧ some k_ ≠ (.slice Ao25 t955.length co25 : Value).ownBlock ∧ some k_ ≠ (.slice Ao28 t959.length co28 : Value).ownBlock ∧ some k_ ≠ (.slice Ao38 t969.length co38 : Value).ownBlock ∧ some k_ ≠ (v979 : Value).ownBlock ∧ k_ ≠ gb945 ∧ k_ ≠ gb946) ho2 (fun k_ hk_ => ⟨hk_.2, Or.elim hk_.1 (fun hs_ => Or.elim hs_ (fun hs_ => (q0_.1 k_ hs_.symm).1.1.1.1.1.1.1.2) (fun hs_ => (q1_.1 k_ hs_.symm).1.1.1.1.1.1.1.2)) (fun hn_ => (rF HO951 k_ hn_)), Or.elim hk_.1 (fun hs_ => Or.elim hs_ (fun hs_ => (q0_.1 k_ hs_.symm).1.1.1.1.1.1.1.1) (fun hs_ => (q1_.1 k_ hs_.symm).1.1.1.1.1.1.2)) (fun hn_ => (rF HO954 k_ hn_)), Or.elim hk_.1 (fun hs_ => Or.elim hs_ (fun hs_ => (q0_.1 k_ hs_.symm).1.1.1.1.1.1.2) (fun hs_ => (q1_.1 k_ hs_.symm).1.1.1.1.1.1.1.1)) (fun hn_ => (rF HO957 k_ hn_)), Or.elim hk_.1 (fun hs_ => Or.elim hs_ (fun hs_ => (q0_.1 k_ hs_.symm).1.1.1.1.1.2) (fun hs_ => (q1_.1 k_ hs_.symm).1.1.1.1.1.2)) (fun hn_ => (rF HO961 k_ hn_)), Or.elim hk_.1 (fun hs_ => Or.elim hs_ (fun hs_ => (q0_.1 k_ hs_.symm).1.1.1.2) (fun hs_ => (q1_.1 k_ hs_.symm).1.1.1.2)) (fun hn_ => (rF HO971 k_ hn_)), Or.elim hk_.1 (fun hs_ => Or.elim hs_ (fun hs_ => (q0_.1 k_ hs_.symm).1.1.2) (fun hs_ => (q1_.1 k_ hs_.symm).1.1.2)) (fun hn_ => (rF HO980 k_ hn_)), Or.elim hk_.1 (fun hs_ => Or.elim hs_ (fun hs_ => (q0_.1 k_ hs_.symm).1.2) (fun hs_ => (q1_.1 k_ hs_.symm).1.2)) (fun hn_ => (Kd.freshB (bQ BK945) k_ hn_)), Or.elim hk_.1 (fun hs_ => Or.elim hs_ (fun hs_ => (q0_.1 k_ hs_.symm).2) (fun hs_ => (q1_.1 k_ hs_.symm).2)) (fun hn_ => (Kd.freshB (bQ BK946) k_ hn_))⟩)) (below_size (bC HB))); clear q0_ q1_; replace HO951 := rB HO951 hb; replace HO954 := rB HO954 hb; replace HO957 := rB HO957 hb; replace HO961 := rB HO961 hb; replace HO964 := rB HO964 hb; replace HO967 := rB HO967 hb; replace HO971 := rE HO971 (Kd.R_base ho0) hb; replace HO974 := vE HO974 (Kd.R_base ho0) hb; replace HO977 := vE HO977 (Kd.R_base ho0) hb; replace HO980 := rB HO980 hb; replace BK945 := bB BK945 hb; replace BK946 := bB BK946 hb; replace HB := bW HB hb; (try clear hb); (try clear hb2); (try clear hk); (try clear hi); (try clear ho0); (try clear ho1); (try clear ho2); obtain ⟨Ao44, co44, eo44⟩ := Kd.R_slice HO985.out; subst eo44; obtain ⟨Ao45, co45, eo45⟩ := Kd.V_slice HO988.out; subst eo45; obtain ⟨Ao46, co46, eo46⟩ := Kd.V_slice HO991.out; subst eo46) | ((with_reducible refine gate_callee (f := 19) rfl ?_); refine gL (some 26) Try.func19 #[.agg #[.bool t982, .slice Ao44 t983.length co44, .slice Ao45 t986.length co45, .slice Ao46 t989.length co46]] ?_; (with_reducible refine (node_Encode.calls k t982 _ _ t983 _ _ t986 _ _ t989 t992 t995 _ ?side1 ?side2 ?side3 ?side4 ?side5 ?side6 A10.out).mono ?_); (case side1 => repeat (first | exact (Kd.R_reads' HO985.out).2.2 | (with_reducible refine Kd.C_alloc ?_ _) | (with_reducible refine Kd.C_drewN ?_ _) | (with_reducible refine Kd.C_drew ?_))); (case side2 => exact (Kd.R_reads' HO985.out).2.1); (case side3 => repeat (first | exact (Kd.V_reads' HO988.out).2.2 | (with_reducible refine Kd.C_alloc ?_ _) | (with_reducible refine Kd.C_drewN ?_ _) | (with_reducible refine Kd.C_drew ?_))); (case side4 => exact (Kd.V_reads' HO988.out).2.1); (case side5 => repeat (first | exact (Kd.V_reads' HO991.out).2.2 | (with_reducible refine Kd.C_alloc ?_ _) | (with_reducible refine Kd.C_drewN ?_ _) | (with_reducible refine Kd.C_drew ?_))); (case side6 => exact (Kd.V_reads' HO991.out).2.1); rintro e w47 ⟨v993, rfl, ho0, hb⟩; refine ⟨_, rfl, ?_⟩; have HO994 := Aside0.mk (Kd.R_lower (Kd.R_new' ho0 (Kd.R_lt (by (with_reducible repeat (first | apply Kd.R_alloc | apply Kd.R_drewN | apply Kd.R_drew)); exact HO980.out))) (below_size (bC HB))); replace HO951 := rB HO951 hb; replace HO954 := rB HO954 hb; replace HO957 := rB HO957 hb; replace HO961 := rB HO961 hb; replace HO964 := rB HO964 hb; replace HO967 := rB HO967 hb; replace HO971 := rB HO971 hb; replace HO974 := vE HO974 (Kd.R_base ho0) hb; replace HO977 := vE HO977 (Kd.R_base ho0) hb; replace HO980 := rE HO980 (Kd.R_base ho0) hb; replace HO985 := rB HO985 hb; replace HO988 := vE HO988 (Kd.R_base ho0) hb; replace HO991 := vE HO991 (Kd.R_base ho0) hb; replace BK945 := bB BK945 hb; replace BK946 := bB BK946 hb; replace HB := bW HB hb; (try clear hb); (try clear hb2); (try clear hk); (try clear hi); (try clear ho0)))
 replace HO951 := Aside0.mk (Kd.R_drew HO951.out)
 replace HO954 := Aside0.mk (Kd.R_drew HO954.out)
 replace HO957 := Aside0.mk (Kd.R_drew HO957.out)
 replace HO961 := Aside0.mk (Kd.R_drew HO961.out)
 replace HO964 := Aside0.mk (Kd.R_drew HO964.out)
 replace HO967 := Aside0.mk (Kd.R_drew HO967.out)
 replace HO971 := Aside0.mk (Kd.R_drew HO971.out)
 replace HO974 := Aside0.mk (Kd.V_drew HO974.out)
 replace HO977 := Aside0.mk (Kd.V_drew HO977.out)
 replace HO980 := Aside0.mk (Kd.R_drew HO980.out)
 replace HO985 := Aside0.mk (Kd.R_drew HO985.out)
 replace HO988 := Aside0.mk (Kd.V_drew HO988.out)
 replace HO991 := Aside0.mk (Kd.V_drew HO991.out)
 replace HO994 := Aside0.mk (Kd.R_drew HO994.out)
 replace BK945 := Aside0.mk (blk_drew BK945.out)
 replace BK946 := Aside0.mk (blk_drew BK946.out)
 replace HB := Aside0.mk (below_drew1 HB.out)
 refine start_ (n := 18) (S := fun w' => w'.cell? ⟨gb945, 0, none⟩ = some (.bool t948) ∧ w'.cell? ⟨gb945, 1, none⟩ = some (.slice Ao21 t949.length co21) ∧ w'.cell? ⟨gb945, 2, none⟩ = some (.slice Ao23 t952.length co23) ∧ w'.cell? ⟨gb945, 3, none⟩ = some (.slice Ao25 t955.length co25) ∧ w'.cell? ⟨gb946, 0, none⟩ = some (.bool t958) ∧ w'.cell? ⟨gb946, 1, none⟩ = some (.slice Ao28 t959.length co28) ∧ w'.cell? ⟨gb946, 2, none⟩ = some (.slice Ao30 t962.length co30) ∧ w'.cell? ⟨gb946, 3, none⟩ = some (.slice Ao32 t965.length co32) ∧ (convert 30 9 (v979)).run Try.prog w' = .ok (.string (strOfNums t978)) w' ∧ (convert 30 9 (v993)).run Try.prog w' = .ok (.string (strOfNums t992)) w') (ds := []) #[false,false,false,false,false,false,false,false,false,false,false,false,false,false,false,false,false,false] (by kernel_rfl) rfl rfl (bn4 BK945 (bn4 BK946 ⟨(by have T_ := Kd.x_R_string (P := Try.prog) Try.underlying30 Try.underlying5 Try.underlying9 (HO980.out); first | exact T_.1 | exact T_.2 _ | (simp only [World.drewN_drewN]; exact T_.2 _)), (by have T_ := Kd.x_R_string (P := Try.prog) Try.underlying30 Try.underlying5 Try.underlying9 (HO994.out); first | exact T_.1 | exact T_.2 _ | (simp only [World.drewN_drewN]; exact T_.2 _))⟩)) (fun hHeld => ?_); refine with_tabW engrosslaw11_NodeTwins.tab7 engrosslaw11_NodeTwins.bits7 (fun HT_ HW_ => ?_)
 generalize w47.drew = w48 at HO951 HO954 HO957 HO961 HO964 HO967 HO971 HO974 HO977 HO980 HO985 HO988 HO991 HO994 BK945 BK946 HB hHeld ⊢
 refine pA 0 29 HT_ ?_
 refine pA 1 30 HT_ ?_
 refine pA 2 31 HT_ ?_
 refine pA 3 32 HT_ ?_
 refine pA 4 33 HT_ ?_
 refine pA 5 34 HT_ ?_
 refine pA 6 35 HT_ ?_
 refine pA 7 36 HT_ ?_
 refine pA 9 38 HT_ ?_
 refine tA 8 37 HT_ HW_ hHeld ?_ (hy := by rintro w' ⟨s0, s1, s2, s3, s4, s5, s6, s7, s8, s9⟩; go_simp; with_reducible rfl)
 refine tA 10 39 HT_ HW_ hHeld ?_ (hy := by rintro w' ⟨s0, s1, s2, s3, s4, s5, s6, s7, s8, s9⟩; go_simp; with_reducible rfl)
 refine pA 11 40 HT_ ?_
 refine tA 12 41 HT_ HW_ hHeld ?_ (hy := by rintro w' ⟨s0, s1, s2, s3, s4, s5, s6, s7, s8, s9⟩; go_simp; with_reducible rfl)
 refine tA 13 42 HT_ HW_ hHeld ?_ (hy := by rintro w' ⟨s0, s1, s2, s3, s4, s5, s6, s7, s8, s9⟩; go_simp; with_reducible rfl)
 refine oA 14 (some 43) HT_ (fun K hK => ?_)
 refine goes_ Try.func23 (by kernel_rfl) rfl #[.agg #[.bool t948, .slice Ao21 t949.length co21, .slice Ao23 t952.length co23, .slice Ao25 t955.length co25], .agg #[.bool t958, .slice Ao28 t959.length co28, .slice Ao30 t962.length co30, .slice Ao32 t965.length co32]] (by rfl) rfl rfl (by (try simp only [List.map_toArray, List.map_cons, List.map_nil]); first | done | rfl | (simp only [List.length_drop, List.length_take]; rfl)) ?_
 with_reducible refine (engrossref10_EqNode.calls k t948 _ _ t949 _ _ t952 _ _ t955 t958 _ _ t959 _ _ t962 _ _ t965 t996 _ ?side1 ?side2 ?side3 ?side4 ?side5 ?side6 ?side7 ?side8 ?side9 ?side10 ?side11 ?side12 A13.out).mono ?_
 (case side1 => repeat (first | exact (Kd.R_reads' HO951.out).2.2 | (with_reducible refine Kd.C_alloc ?_ _) | (with_reducible refine Kd.C_drewN ?_ _) | (with_reducible refine Kd.C_drew ?_)))
 (case side2 => exact (Kd.R_reads' HO951.out).2.1)
 (case side3 => repeat (first | exact (Kd.R_reads' HO954.out).2.2 | (with_reducible refine Kd.C_alloc ?_ _) | (with_reducible refine Kd.C_drewN ?_ _) | (with_reducible refine Kd.C_drew ?_)))
 (case side4 => exact (Kd.R_reads' HO954.out).2.1)
 (case side5 => repeat (first | exact (Kd.R_reads' HO957.out).2.2 | (with_reducible refine Kd.C_alloc ?_ _) | (with_reducible refine Kd.C_drewN ?_ _) | (with_reducible refine Kd.C_drew ?_)))
 (case side6 => exact (Kd.R_reads' HO957.out).2.1)
 (case side7 => repeat (first | exact (Kd.R_reads' HO961.out).2.2 | (with_reducible refine Kd.C_alloc ?_ _) | (with_reducible refine Kd.C_drewN ?_ _) | (with_reducible refine Kd.C_drew ?_)))
 (case side8 => exact (Kd.R_reads' HO961.out).2.1)
 (case side9 => repeat (first | exact (Kd.R_reads' HO964.out).2.2 | (with_reducible refine Kd.C_alloc ?_ _) | (with_reducible refine Kd.C_drewN ?_ _) | (with_reducible refine Kd.C_drew ?_)))
 (case side10 => exact (Kd.R_reads' HO964.out).2.1)
 (case side11 => repeat (first | exact (Kd.R_reads' HO967.out).2.2 | (with_reducible refine Kd.C_alloc ?_ _) | (with_reducible refine Kd.C_drewN ?_ _) | (with_reducible refine Kd.C_drew ?_)))
 (case side12 => exact (Kd.R_reads' HO967.out).2.1)
 rintro e w51 ⟨rfl, hb⟩
 refine ⟨_, rfl, ?_⟩
 replace HO951 := rB HO951 hb
 replace HO954 := rB HO954 hb
 replace HO957 := rB HO957 hb
 replace HO961 := rB HO961 hb
 replace HO964 := rB HO964 hb
 replace HO967 := rB HO967 hb
 replace HO971 := rB HO971 hb
 replace HO974 := vB HO974 hb
 replace HO977 := vB HO977 hb
 replace HO980 := rB HO980 hb
 replace HO985 := rB HO985 hb
 replace HO988 := vB HO988 hb
 replace HO991 := vB HO991 hb
 replace HO994 := rB HO994 hb
 replace BK945 := bB BK945 hb
 replace BK946 := bB BK946 hb
 replace HB := bW HB hb
 (try clear hb)
 (try clear hb2)
 (try clear hk)
 (try clear hi)
 refine hK.out _ _ (bn4 BK945 (bn4 BK946 ⟨(by have T_ := Kd.x_R_string (P := Try.prog) Try.underlying30 Try.underlying5 Try.underlying9 (HO980.out); first | exact T_.1 | exact T_.2 _ | (simp only [World.drewN_drewN]; exact T_.2 _)), (by have T_ := Kd.x_R_string (P := Try.prog) Try.underlying30 Try.underlying5 Try.underlying9 (HO994.out); first | exact T_.1 | exact T_.2 _ | (simp only [World.drewN_drewN]; exact T_.2 _))⟩)) (fun hHeld => ?_)
 clear hK K
 refine norm_ (a' := ?_) ?_ ?_
 rotate_left
 ·show Act.put _ (some 43) _ = _
  simp only [Act.put, List.setIfInBounds_toArray, List.set_cons_zero, List.set_cons_succ, i64_w, i32_w]
  rfl
 refine pA 15 44 HT_ ?_
 refine pA 16 45 HT_ ?_
 refine pA 17 4 HT_ ?_
 refine done_ (done_of HT_.out (by kernel_rfl)) ?_
 try go_wp2
 go_ret
 exact xB HB
/-- THE ONE PURE STATEMENT of engrosslaw11_NodeTwins. -/
def engrosslaw11_NodeTwins.Pure : Prop := ∀ (x0 : S26) (x1 : S26), wf26 x0 → wf26 x1 → ∃ k, engrosslaw11_NodeTwins.f k x0.f0 x0.f1 x0.f2 x0.f3 x1.f0 x1.f1 x1.f2 x1.f3 = some true
end Go.Proofs.Ytmmjpieafbjggaa.P
end
section
set_option linter.unusedVariables false
set_option linter.unusedSimpArgs false
namespace Go.Proofs.Ytmmjpieafbjggaa.Pure
open Go.RowKit Go.Proofs.Ytmmjpieafbjggaa.P Go.Proofs.YtmmjpieafbjggaaW.PrintWords Go.Proofs.YtmmjpieafbjggaaW.PrintLast Go.Proofs.YtmmjpieafbjggaaW.PrintMore
theorem begun11 {k : Nat} (hk : 100 ≤ k) : engrosslaw11_begun.f k = some true :=
  at_rounds (g := fun k => engrosslaw11_begun.f k) (fun k => engrosslaw11_begun.mono k) hk (show engrosslaw11_begun.f 100 = some true by decide +kernel)
end Go.Proofs.Ytmmjpieafbjggaa.Pure
end
