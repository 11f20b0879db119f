/- The law NodeThree returns true for every input: the words, the walks and the plain statement that its row needs. No condition. (Merged by a program of this session out of its own texts.) -/
import Derived.ArgAppend
import Derived.Below
import Derived.BigQuiet
import Derived.Deep.AppendLies
import Derived.Deep.CutBlock
import Derived.Deep.DeepCutAuto
import Derived.Deep.Draws
import Derived.Deep.LoopGhost
import Derived.Deep.OwnRows
import Derived.Deep.QuietTactic
import Derived.Deep.RegionHeld3
import Derived.KernelRfl
import Derived.Laws.BitsLemmas
import Derived.Laws.BytesArg
import Derived.Laws.Cover2
import Derived.Laws.Externs
import Derived.Laws.FloatArith
import Derived.Laws.IdiomCopy
import Derived.Laws.MakeOwn
import Derived.Laws.OwnMore
import Derived.Laws.Rows
import Derived.Laws.Slices
import Derived.Laws.StructEq
import Derived.Lib.AppendStr
import Derived.Lib.ConvBytes
import Derived.Maps.AppendAt
import Derived.OrdersHeld
import Derived.OwnWalk
import Derived.RowKit
import Derived.RowKit3
import Derived.Tactics
import Derived.Test.YtmmjpieafbjggaaProg
import Derived.WalkKit
import Derived.WideLaws
import Derived.Test.YtmmjpieafbjggaaQNodeThree4
import Derived.Test.YtmmjpieafbjggaaQNodeThree5
import Derived.Test.YtmmjpieafbjggaaQNodeThree6
import Derived.Test.YtmmjpieafbjggaaQNodeThree7
section
namespace Go.Proofs.Ytmmjpieafbjggaa.P
open Go.RowKit Go.Proofs.YtmmjpieafbjggaaW.PrintWords Go.Proofs.YtmmjpieafbjggaaW.PrintLast Go.Proofs.YtmmjpieafbjggaaW.PrintMore
attribute [local go_sem] max2_int min2_int max_two min_two max_three min_three max_four min_four   -- for this text's walks alone
attribute [local go_sem] x_str_gtr x_str_leq x_str_geq ext_bits ext_frombits ext_neg x_store_float Instr.field asAgg
set_option linter.unusedVariables false
set_option linter.unusedSimpArgs false
def engrosslaw11_Of.l0 : Nat → Int → Bool → List (S56) → List ByteArray → List Int → Bool → List (S62) → List ByteArray → List Int → Option (Bool × (List (S62)) × List ByteArray × List Int)
 | 0, _, _, _, _, _, _, _, _, _ => none
 | k + 1, x4, x498000, x498001, x498002, x498003, x500000, x500001, x500002, x500003 => if x4 < (x498001.length : Int) then (if 0 ≤ x4 then ((engrosslaw10_Of.f ((rd_T56 x498001 x4).f0) ((rd_T56 x498001 x4).f1.f0) ((rd_T56 x498001 x4).f1.f1) ((rd_T56 x498001 x4).f1.f2) ((rd_T56 x498001 x4).f2) ((rd_T56 x498001 x4).f3.f0) ((rd_T56 x498001 x4).f3.f1) ((rd_T56 x498001 x4).f3.f2)).bind fun bt501 => (if x500001.length < 1599289640401 then (engrosslaw11_Of.l0 k (wrap64 (x4 + 1)) x498000 x498001 x498002 x498003 x500000 (x500001 ++ [(⟨bt501.1, (⟨bt501.2.1, bt501.2.2.1, bt501.2.2.2.1⟩ : S54), bt501.2.2.2.2.1, (⟨bt501.2.2.2.2.2.1, bt501.2.2.2.2.2.2.1, bt501.2.2.2.2.2.2.2⟩ : S54)⟩ : S62)]) x500002 x500003) else (none))) else (none)) else (some (x500000, x500001, x500002, x500003))
def engrosslaw11_Of.f (k : Nat) (a0_0 : Bool) (l0_1 : List (S56)) (l0_2 : List ByteArray) (l0_3 : List Int) : Option (Bool × (List (S62)) × List ByteArray × List Int) := engrosslaw11_Of.l0 k 0 a0_0 l0_1 l0_2 l0_3 a0_0 ([] : List (S62)) l0_2 l0_3
def engrosslaw11_Of.T5 : Bool × List (List Nat × List Nat) := (true, [([], []), ([0], [0]), ([], []), ([2], [2]), ([], []), ([3, 4], [3, 4]), ([5], [5]), ([6], [6]), ([7], [7]), ([1, 8, 7], [1, 8]), ([0, 1, 2, 3, 4, 5, 6, 7, 8, 9], []), ([10, 9, 9, 0, 1, 2, 3, 4, 5, 6, 7, 8, 9], [9, 10])])
def engrosslaw11_Of.B5 : List Nat := [0, 1, 0, 4, 0, 28, 60, 124, 252, 511, 1023, 2047]
theorem engrosslaw11_Of.tab5 : rtab .any (opsOf Try.f17 5) = engrosslaw11_Of.T5 := by kernel_rfl
theorem engrosslaw11_Of.bits5 : waitsOk engrosslaw11_Of.T5.2 engrosslaw11_Of.B5 = true := by kernel_rfl
set_option maxHeartbeats 8000000 in
set_option maxRecDepth 100000 in
theorem engrosslaw11_Of.calls (k : Nat) (a0_0 : Bool) (A0_1 : Option Addr) (c0_1 : Nat) (l0_1 : List (S56)) (P0_2_ : Nat → Prop) (A0_2 : Option Addr) (c0_2 : Nat) (l0_2 : List ByteArray) (P0_3_ : Nat → Prop) (A0_3 : Option Addr) (c0_3 : Nat) (l0_3 : List Int) (r1 : Bool) (r2 : List (S62)) (r3 : List ByteArray) (r4 : List Int) (w : World) (hr0_1 : Kd.C k56 w A0_1 l0_1.length l0_1) (hc0_1 : l0_1.length ≤ c0_1) (hs0_2 : Kd.V Kd.string 9 w w.heap.size (fun k_ => P0_2_ k_) (.slice A0_2 l0_2.length c0_2) l0_2) (hs0_3 : Kd.V (Kd.int .i64) 3 w w.heap.size (fun k_ => P0_3_ k_) (.slice A0_3 l0_3.length c0_3) l0_3) (h : engrosslaw11_Of.f k a0_0 l0_1 l0_2 l0_3 = some (r1, r2, r3, r4)) :
  Calls Try.prog 17 #[.agg #[.bool a0_0, .slice A0_1 l0_1.length c0_1, .slice A0_2 l0_2.length c0_2, .slice A0_3 l0_3.length c0_3]] w fun e w' => ∃ v1_ v2_ v3_ : Value, e = .returned (.agg #[.bool r1, v1_, v2_, v3_]) ∧ Kd.R k62 62 w' w.heap.size (fun k_ => (w.heap.size ≤ k_)) v1_ r2 ∧ Kd.V Kd.string 9 w' w.heap.size (fun k_ => ((P0_2_ k_ ∨ P0_3_ k_) ∨ w.heap.size ≤ k_) ∧ some k_ ≠ (v1_ : Value).ownBlock) v2_ r3 ∧ Kd.V (Kd.int .i64) 3 w' w.heap.size (fun k_ => ((P0_2_ k_ ∨ P0_3_ k_) ∨ w.heap.size ≤ k_) ∧ some k_ ≠ (v1_ : Value).ownBlock) v3_ r4 ∧ Below w.heap.size w w' := by
 have hu26 := Try.underlying26
 have hu36 := Try.underlying36
 have hu56 := Try.underlying56
 have HR0_1 := Aside0.mk hr0_1
 have HC0_1 := Aside0.mk hc0_1
 clear hr0_1 hc0_1
 have HO0_2 := Aside0.mk (show Kd.V Kd.string 9 w w.heap.size (fun k_ => ((P0_2_ k_ ∨ P0_3_ k_) ∨ w.heap.size ≤ k_)) (.slice A0_2 l0_2.length c0_2) l0_2 from Kd.V_mono hs0_2 (fun k_ hk => .inl (.inl hk)))
 have HO0_3 := Aside0.mk (show Kd.V (Kd.int .i64) 3 w w.heap.size (fun k_ => ((P0_2_ k_ ∨ P0_3_ k_) ∨ w.heap.size ≤ k_)) (.slice A0_3 l0_3.length c0_3) l0_3 from Kd.V_mono hs0_3 (fun k_ hk => .inl (.inr hk)))
 have HB := Aside0.mk (Below.refl w.heap.size w)
 have H : (engrosslaw11_Of.l0 k 0 a0_0 l0_1 l0_2 l0_3 a0_0 ([] : List (S62)) l0_2 l0_3) = some (r1, r2, r3, r4) := h
 clear h
 have H' := Aside0.mk H
 clear H
 go_enter Try.func17, Try.ntmps17
 go_wp2_with (first | ((with_reducible refine gate_dst (N := 1) rfl ?_); refine box_event ?hg (N := 1) ?hd (cs := #[.bool a0_0, .slice A0_1 l0_1.length c0_1, .slice A0_2 l0_2.length c0_2, .slice A0_3 l0_3.length c0_3]) (t := 26) ?hr ?_; (case hd => rfl); (case hg => rfl); (case hr => first | (go_simp; done) | (go_simp; rfl)); intro gb497 hg w2 hbox hb; have BK497 := Aside0.mk (hbox); have GW497 := bZ HB hg; have GE497 := bZ HB hg; replace HO0_2 := Aside0.mk (Kd.V_below (Kd.V_elderB (by (with_reducible repeat (first | apply Kd.V_alloc | apply Kd.V_drewN | apply Kd.V_drew)); exact HO0_2.out) gb497 (Nat.le_of_eq hg.symm)) hb); replace HO0_3 := Aside0.mk (Kd.V_below (Kd.V_elderB (by (with_reducible repeat (first | apply Kd.V_alloc | apply Kd.V_drewN | apply Kd.V_drew)); exact HO0_3.out) gb497 (Nat.le_of_eq hg.symm)) hb); replace HB := bW HB hb; clear hb hbox hg) | ((with_reducible refine gate_dst (N := 2) rfl ?_); refine box_event ?hg (N := 2) ?hd (cs := #[.bool false, .slice none 0 0, .slice none 0 0, .slice none 0 0]) (t := 36) ?hr ?_; (case hd => rfl); (case hg => rfl); (case hr => first | (go_simp; done) | (go_simp; rfl)); intro gb498 hg w3 hbox hb; have BK498 := Aside0.mk (hbox); have GW498 := bZ HB hg; have GE498 := bZ HB hg; have NB497_498 := bL BK497 hg; have NB498_497 := bG BK497 hg; replace HO0_2 := Aside0.mk (Kd.V_below (Kd.V_elderB (by (with_reducible repeat (first | apply Kd.V_alloc | apply Kd.V_drewN | apply Kd.V_drew)); exact HO0_2.out) gb498 (Nat.le_of_eq hg.symm)) hb); replace HO0_3 := Aside0.mk (Kd.V_below (Kd.V_elderB (by (with_reducible repeat (first | apply Kd.V_alloc | apply Kd.V_drewN | apply Kd.V_drew)); exact HO0_3.out) gb498 (Nat.le_of_eq hg.symm)) hb); replace BK497 := bB BK497 hb; replace HB := bW HB hb; clear hb hbox hg; have hnb4 := NB497_498.out; have hnc4 := NB498_497.out; obtain ⟨hcz5_0, hcz5_1, hcz5_2, hcz5_3, hfz5_0, hfz5_1, hfz5_2, hfz5_3⟩ := bf4 (w := w3) BK497) | ((with_reducible refine gate_dst (N := 3) rfl ?_); refine box_event ?hg (N := 3) ?hd (cs := #[.bool false, .slice none 0 0, .slice none 0 0, .slice none 0 0]) (t := 36) ?hr ?_; (case hd => rfl); (case hg => rfl); (case hr => first | (go_simp; done) | (go_simp; rfl)); intro gb499 hg w6 hbox hb; have BK499 := Aside0.mk (hbox); have GW499 := bZ HB hg; have GE499 := bZ HB hg; have NB497_499 := bL BK497 hg; have NB499_497 := bG BK497 hg; have NB498_499 := bL BK498 hg; have NB499_498 := bG BK498 hg; replace HO0_2 := Aside0.mk (Kd.V_below (Kd.V_elderB (by (with_reducible repeat (first | apply Kd.V_alloc | apply Kd.V_drewN | apply Kd.V_drew)); exact HO0_2.out) gb499 (Nat.le_of_eq hg.symm)) hb); replace HO0_3 := Aside0.mk (Kd.V_below (Kd.V_elderB (by (with_reducible repeat (first | apply Kd.V_alloc | apply Kd.V_drewN | apply Kd.V_drew)); exact HO0_3.out) gb499 (Nat.le_of_eq hg.symm)) hb); replace BK497 := bB BK497 hb; replace BK498 := bB BK498 hb; replace HB := bW HB hb; clear hb hbox hg; have hnb7 := NB499_497.out; have hnc7 := NB497_499.out; have hnb8 := NB499_498.out; have hnc8 := NB498_499.out; obtain ⟨hcz9_0, hcz9_1, hcz9_2, hcz9_3, hfz9_0, hfz9_1, hfz9_2, hfz9_3⟩ := bf4 (w := w6) BK499))
 go_loopg [4] k (fun kq v4 w' => ∃ (x4_1 : Int) (x500001_1 : List (S62)) (u500001 : Value), v4 = .int .i64 x4_1 ∧ Aside0 (engrosslaw11_Of.l0 kq x4_1 a0_0 l0_1 l0_2 l0_3 a0_0 x500001_1 l0_2 l0_3 = some (r1, r2, r3, r4)) ∧ Aside0 (kq ≤ k) ∧ Aside0 (Kd.V Kd.string 9 w' w.heap.size (fun k_ => ((P0_2_ k_ ∨ P0_3_ k_) ∨ w.heap.size ≤ k_) ∧ some k_ ≠ (u500001 : Value).ownBlock ∧ k_ ≠ gb497 ∧ k_ ≠ gb498 ∧ k_ ≠ gb499) (.slice A0_2 l0_2.length c0_2) l0_2) ∧ Aside0 (Kd.V (Kd.int .i64) 3 w' w.heap.size (fun k_ => ((P0_2_ k_ ∨ P0_3_ k_) ∨ w.heap.size ≤ k_) ∧ some k_ ≠ (u500001 : Value).ownBlock ∧ k_ ≠ gb497 ∧ k_ ≠ gb498 ∧ k_ ≠ gb499) (.slice A0_3 l0_3.length c0_3) l0_3) ∧ Aside0 (Kd.R k62 62 w' w.heap.size (fun k_ => (w.heap.size ≤ k_)) u500001 x500001_1) ∧ Aside0 (Kd.V Kd.string 9 w' w.heap.size (fun k_ => ((P0_2_ k_ ∨ P0_3_ k_) ∨ w.heap.size ≤ k_) ∧ some k_ ≠ (u500001 : Value).ownBlock ∧ k_ ≠ gb497 ∧ k_ ≠ gb498 ∧ k_ ≠ gb499) (.slice A0_2 l0_2.length c0_2) l0_2) ∧ Aside0 (Kd.V (Kd.int .i64) 3 w' w.heap.size (fun k_ => ((P0_2_ k_ ∨ P0_3_ k_) ∨ w.heap.size ≤ k_) ∧ some k_ ≠ (u500001 : Value).ownBlock ∧ k_ ≠ gb497 ∧ k_ ≠ gb498 ∧ k_ ≠ gb499) (.slice A0_3 l0_3.length c0_3) l0_3) ∧ Aside0 (w'.heap[gb497]? = some (.cells #[.bool a0_0, (.slice A0_1 l0_1.length c0_1), (.slice A0_2 l0_2.length c0_2), (.slice A0_3 l0_3.length c0_3)] 26 (0, 0))) ∧ Aside0 (w'.heap[gb498]? = some (.cells #[.bool false, (.slice none 0 0), (.slice none 0 0), (.slice none 0 0)] 36 (0, 0))) ∧ Aside0 (w'.heap[gb499]? = some (.cells #[.bool a0_0, u500001, (.slice A0_2 l0_2.length c0_2), (.slice A0_3 l0_3.length c0_3)] 36 (0, 0))) ∧ Aside0 (Below w.heap.size w w'))
 case atStart => exact ⟨(0), (([] : List (S62))), (.slice none 0 0), (by first | rfl | (simp; done) | (simp [*]; done)), H', ⟨Nat.le_refl _⟩, ⟨by (with_reducible repeat (first | apply Kd.V_alloc | apply Kd.V_drewN | apply Kd.V_drew)); exact Kd.V_mono (Kd.V_far (p := ⟨gb499, 3, none⟩) (Kd.V_far (p := ⟨gb499, 2, none⟩) (Kd.V_far (p := ⟨gb499, 1, none⟩) (Kd.V_far (p := ⟨gb499, 0, none⟩) (Kd.V_mono HO0_2.out (fun k_ hk => (⟨hk, hk.2⟩ : _ ∧ k_ ≠ gb499))) (fun _ hk => hk.2) (.bool a0_0)) (fun _ hk => hk.2) (.slice none 0 0)) (fun _ hk => hk.2) (.slice A0_2 l0_2.length c0_2)) (fun _ hk => hk.2) (.slice A0_3 l0_3.length c0_3)) (fun _ hk => ⟨hk.1.1.1.1, ⟨(by simp [Value.ownBlock]), ⟨hk.1.1.1.2, ⟨hk.1.1.2, hk.1.2⟩⟩⟩⟩)⟩, ⟨by (with_reducible repeat (first | apply Kd.V_alloc | apply Kd.V_drewN | apply Kd.V_drew)); exact Kd.V_mono (Kd.V_far (p := ⟨gb499, 3, none⟩) (Kd.V_far (p := ⟨gb499, 2, none⟩) (Kd.V_far (p := ⟨gb499, 1, none⟩) (Kd.V_far (p := ⟨gb499, 0, none⟩) (Kd.V_mono HO0_3.out (fun k_ hk => (⟨hk, hk.2⟩ : _ ∧ k_ ≠ gb499))) (fun _ hk => hk.2) (.bool a0_0)) (fun _ hk => hk.2) (.slice none 0 0)) (fun _ hk => hk.2) (.slice A0_2 l0_2.length c0_2)) (fun _ hk => hk.2) (.slice A0_3 l0_3.length c0_3)) (fun _ hk => ⟨hk.1.1.1.1, ⟨(by simp [Value.ownBlock]), ⟨hk.1.1.1.2, ⟨hk.1.1.2, hk.1.2⟩⟩⟩⟩)⟩, ⟨by first | exact Kd.R_nil _ _ _ _ _ | exact Kd.N_nil _ _ _ _ _ | exact Kd.V_nil _ _ _ _ _ | exact Kd.Q_nil _ _ _ _ _ | exact Kd.S_nil _ _ _ _ _⟩, ⟨by (with_reducible repeat (first | apply Kd.V_alloc | apply Kd.V_drewN | apply Kd.V_drew)); exact Kd.V_mono (Kd.V_far (p := ⟨gb499, 3, none⟩) (Kd.V_far (p := ⟨gb499, 2, none⟩) (Kd.V_far (p := ⟨gb499, 1, none⟩) (Kd.V_far (p := ⟨gb499, 0, none⟩) (Kd.V_mono HO0_2.out (fun k_ hk => (⟨hk, hk.2⟩ : _ ∧ k_ ≠ gb499))) (fun _ hk => hk.2) (.bool a0_0)) (fun _ hk => hk.2) (.slice none 0 0)) (fun _ hk => hk.2) (.slice A0_2 l0_2.length c0_2)) (fun _ hk => hk.2) (.slice A0_3 l0_3.length c0_3)) (fun _ hk => ⟨hk.1.1.1.1, ⟨(by simp [Value.ownBlock]), ⟨hk.1.1.1.2, ⟨hk.1.1.2, hk.1.2⟩⟩⟩⟩)⟩, ⟨by (with_reducible repeat (first | apply Kd.V_alloc | apply Kd.V_drewN | apply Kd.V_drew)); exact Kd.V_mono (Kd.V_far (p := ⟨gb499, 3, none⟩) (Kd.V_far (p := ⟨gb499, 2, none⟩) (Kd.V_far (p := ⟨gb499, 1, none⟩) (Kd.V_far (p := ⟨gb499, 0, none⟩) (Kd.V_mono HO0_3.out (fun k_ hk => (⟨hk, hk.2⟩ : _ ∧ k_ ≠ gb499))) (fun _ hk => hk.2) (.bool a0_0)) (fun _ hk => hk.2) (.slice none 0 0)) (fun _ hk => hk.2) (.slice A0_2 l0_2.length c0_2)) (fun _ hk => hk.2) (.slice A0_3 l0_3.length c0_3)) (fun _ hk => ⟨hk.1.1.1.1, ⟨(by simp [Value.ownBlock]), ⟨hk.1.1.1.2, ⟨hk.1.1.2, hk.1.2⟩⟩⟩⟩)⟩, ⟨by (with_reducible repeat (first | refine blk_drewN ?_ _ | refine blk_drew ?_ | refine blk_alloc ?_ _)); refine blk_far ?_ NB497_499.out _; (with_reducible repeat (first | refine blk_drewN ?_ _ | refine blk_drew ?_ | refine blk_alloc ?_ _)); refine blk_far ?_ NB497_499.out _; (with_reducible repeat (first | refine blk_drewN ?_ _ | refine blk_drew ?_ | refine blk_alloc ?_ _)); refine blk_far ?_ NB497_499.out _; (with_reducible repeat (first | refine blk_drewN ?_ _ | refine blk_drew ?_ | refine blk_alloc ?_ _)); refine blk_far ?_ NB497_499.out _; (with_reducible repeat (first | refine blk_drewN ?_ _ | refine blk_drew ?_ | refine blk_alloc ?_ _)); exact BK497.out⟩, ⟨by (with_reducible repeat (first | refine blk_drewN ?_ _ | refine blk_drew ?_ | refine blk_alloc ?_ _)); refine blk_far ?_ NB498_499.out _; (with_reducible repeat (first | refine blk_drewN ?_ _ | refine blk_drew ?_ | refine blk_alloc ?_ _)); refine blk_far ?_ NB498_499.out _; (with_reducible repeat (first | refine blk_drewN ?_ _ | refine blk_drew ?_ | refine blk_alloc ?_ _)); refine blk_far ?_ NB498_499.out _; (with_reducible repeat (first | refine blk_drewN ?_ _ | refine blk_drew ?_ | refine blk_alloc ?_ _)); refine blk_far ?_ NB498_499.out _; (with_reducible repeat (first | refine blk_drewN ?_ _ | refine blk_drew ?_ | refine blk_alloc ?_ _)); exact BK498.out⟩, ⟨by (with_reducible repeat (first | refine blk_drewN ?_ _ | refine blk_drew ?_ | refine blk_alloc ?_ _)); refine blk_put (cs := #[.bool a0_0, .slice none 0 0, .slice A0_2 l0_2.length c0_2, .slice none 0 0]) ?_ 3 _ rfl; (with_reducible repeat (first | refine blk_drewN ?_ _ | refine blk_drew ?_ | refine blk_alloc ?_ _)); refine blk_put (cs := #[.bool a0_0, .slice none 0 0, .slice none 0 0, .slice none 0 0]) ?_ 2 _ rfl; (with_reducible repeat (first | refine blk_drewN ?_ _ | refine blk_drew ?_ | refine blk_alloc ?_ _)); refine blk_put (cs := #[.bool a0_0, .slice none 0 0, .slice none 0 0, .slice none 0 0]) ?_ 1 _ rfl; (with_reducible repeat (first | refine blk_drewN ?_ _ | refine blk_drew ?_ | refine blk_alloc ?_ _)); refine blk_put (cs := #[.bool false, .slice none 0 0, .slice none 0 0, .slice none 0 0]) ?_ 0 _ rfl; (with_reducible repeat (first | refine blk_drewN ?_ _ | refine blk_drew ?_ | refine blk_alloc ?_ _)); exact BK499.out⟩, ⟨by repeat (first | (with_reducible first | exact HB.out | apply below_alloc | apply pw_below_drewN | apply below_drew1 | refine below_set ?_ GE497.out | refine below_set ?_ GE498.out | refine below_set ?_ GE499.out) | exact HB.out)⟩⟩
 case round =>
  clear H'
  try clear c1
  try clear p2
  try clear c4
  try clear c7
  try clear c8
  try clear hcz5_0
  try clear hcz5_1
  try clear hcz5_2
  try clear hcz5_3
  try clear hcz9_0
  try clear hcz9_1
  try clear hcz9_2
  try clear hcz9_3
  try clear hfz5_0
  try clear hfz5_1
  try clear hfz5_2
  try clear hfz5_3
  try clear hfz9_0
  try clear hfz9_1
  try clear hfz9_2
  try clear hfz9_3
  obtain ⟨x4_1, x500001_1, u500001, rfl, HA, HK1, HO_498002, HO_498003, HO_500001, HO_500002, HO_500003, BK497, BK498, BK499, HB⟩ := hrel
  cases gk with
  | zero => exact absurd HA.out (by simp [engrosslaw11_Of.l0])
  | succ k1 =>
   have H := HA.out
   clear HA
   simp only [engrosslaw11_Of.l0] at H
   by_cases c10 : x4_1 < (l0_1.length : Int)
   rotate_left
   ·rw [if_neg c10] at H
    have c10b0 : decide (x4_1 < (l0_1.length : Int)) = false := decide_eq_false c10
    clear c10
    simp only [Option.some.injEq, Prod.mk.injEq] at H
    obtain ⟨rfl, rfl, rfl, rfl⟩ := H
    have hnb22 := NB497_498.out
    have hnc22 := NB498_497.out
    have hnb23 := NB497_499.out
    have hnc23 := NB499_497.out
    obtain ⟨hcz24_0, hcz24_1, hcz24_2, hcz24_3, hfz24_0, hfz24_1, hfz24_2, hfz24_3⟩ := bf4 (w := wr) BK497
    have hnb25 := NB499_498.out
    have hnc25 := NB498_499.out
    obtain ⟨hcz26_0, hcz26_1, hcz26_2, hcz26_3, hfz26_0, hfz26_1, hfz26_2, hfz26_3⟩ := bf4 (w := wr) BK499
    obtain ⟨hcz27_0, hcz27_1, hcz27_2, hcz27_3, hfz27_0, hfz27_1, hfz27_2, hfz27_3⟩ := bf4 (w := wr) BK498
    obtain ⟨Ao28, co28, eo28⟩ := Kd.R_slice HO_500001.out
    subst eo28
    go_wp2
    refine bodyPost_ret (results_cell_row rfl _ _ gb498 36 #[.bool a0_0, .slice Ao28 x500001_1.length co28, .slice A0_2 l0_2.length c0_2, .slice A0_3 l0_3.length c0_3] (0, 0) _ rfl (bR BK498) Try.underlying36 rfl (by kernel_rfl)) rfl ?_
    exact ⟨_, _, _, by first | rfl | (simp [errW_none, errW_some] <;> rfl) | (simp [*, errW_none, errW_some] <;> rfl), by (with_reducible repeat (first | apply Kd.R_alloc | apply Kd.R_drewN | apply Kd.R_drew)); exact Kd.R_mono (Kd.R_far (p := ⟨gb498, 3, none⟩) (Kd.R_far (p := ⟨gb498, 2, none⟩) (Kd.R_far (p := ⟨gb498, 1, none⟩) (Kd.R_far (p := ⟨gb498, 0, none⟩) (Kd.R_types HO_500001.out BK498.out (by decide)) (fun _ hk => hk.2) (.bool a0_0)) (fun _ hk => hk.2) (.slice Ao28 x500001_1.length co28)) (fun _ hk => hk.2) (.slice A0_2 l0_2.length c0_2)) (fun _ hk => hk.2) (.slice A0_3 l0_3.length c0_3)) (fun _ hk => hk.1), by (with_reducible repeat (first | apply Kd.V_alloc | apply Kd.V_drewN | apply Kd.V_drew)); exact Kd.V_mono (Kd.V_far (p := ⟨gb498, 3, none⟩) (Kd.V_far (p := ⟨gb498, 2, none⟩) (Kd.V_far (p := ⟨gb498, 1, none⟩) (Kd.V_far (p := ⟨gb498, 0, none⟩) (Kd.V_mono HO_500002.out (fun k_ hk => (⟨hk, hk.2.2.2.1⟩ : _ ∧ k_ ≠ gb498))) (fun _ hk => hk.2) (.bool a0_0)) (fun _ hk => hk.2) (.slice Ao28 x500001_1.length co28)) (fun _ hk => hk.2) (.slice A0_2 l0_2.length c0_2)) (fun _ hk => hk.2) (.slice A0_3 l0_3.length c0_3)) (fun _ hk => ⟨hk.1.1, hk.1.2.1⟩), by (with_reducible repeat (first | apply Kd.V_alloc | apply Kd.V_drewN | apply Kd.V_drew)); exact Kd.V_mono (Kd.V_far (p := ⟨gb498, 3, none⟩) (Kd.V_far (p := ⟨gb498, 2, none⟩) (Kd.V_far (p := ⟨gb498, 1, none⟩) (Kd.V_far (p := ⟨gb498, 0, none⟩) (Kd.V_mono HO_500003.out (fun k_ hk => (⟨hk, hk.2.2.2.1⟩ : _ ∧ k_ ≠ gb498))) (fun _ hk => hk.2) (.bool a0_0)) (fun _ hk => hk.2) (.slice Ao28 x500001_1.length co28)) (fun _ hk => hk.2) (.slice A0_2 l0_2.length c0_2)) (fun _ hk => hk.2) (.slice A0_3 l0_3.length c0_3)) (fun _ hk => ⟨hk.1.1, hk.1.2.1⟩), by repeat (first | (with_reducible first | exact HB.out | apply below_alloc | apply pw_below_drewN | apply below_drew1 | refine below_set ?_ GE497.out | refine below_set ?_ GE498.out | refine below_set ?_ GE499.out) | exact HB.out)⟩
   rw [if_pos c10] at H
   have c10b0 : decide (x4_1 < (l0_1.length : Int)) = true := decide_eq_true c10
   clear c10
   by_cases c11 : 0 ≤ x4_1
   rotate_left
   ·rw [if_neg c11] at H
    exact absurd H (by simp)
   rw [if_pos c11] at H
   have c11b0 : decide (0 ≤ x4_1) = true := decide_eq_true c11
   clear c11
   replace H := Option.bind_eq_some_iff.mp H
   obtain ⟨⟨t501, t502, t503, t504, t505, t506, t507, t508⟩, A120, H⟩ := H
   replace H : (if x500001_1.length < 1599289640401 then (engrosslaw11_Of.l0 k1 (wrap64 (x4_1 + 1)) a0_0 l0_1 l0_2 l0_3 a0_0 (x500001_1 ++ [(⟨t501, (⟨t502, t503, t504⟩ : S54), t505, (⟨t506, t507, t508⟩ : S54)⟩ : S62)]) l0_2 l0_3) else (none)) = some (r1, r2, r3, r4) := H
   have A12 := Aside0.mk A120
   clear A120
   by_cases c13 : x500001_1.length < 1599289640401
   rotate_left
   ·rw [if_neg c13] at H
    exact absurd H (by simp)
   rw [if_pos c13] at H
   have LMc13 := Aside0.mk c13
   clear c13
   obtain ⟨y509, hy509⟩ : ∃ y_ : List (S62), y_ = (x500001_1 ++ [(⟨t501, (⟨t502, t503, t504⟩ : S54), t505, (⟨t506, t507, t508⟩ : S54)⟩ : S62)]) := ⟨_, rfl⟩
   replace H : (engrosslaw11_Of.l0 k1 (wrap64 (x4_1 + 1)) a0_0 l0_1 l0_2 l0_3 a0_0 y509 l0_2 l0_3) = some (r1, r2, r3, r4) := by first | (rw [hy509]; with_reducible exact H) | (have H2_ := (Option.bind_some _ _).symm.trans H; rw [hy509]; with_reducible exact H2_) | (have H2_ := (Option.bind_some _ _).symm.trans H; with_reducible exact H2_) | with_reducible exact H | (rw [hy509]; exact H) | exact H
   have Ny509 := Aside0.mk hy509
   clear hy509
   have H' := Aside0.mk H
   clear H
   have hnb14 := NB497_498.out
   have hnc14 := NB498_497.out
   have hnb15 := NB497_499.out
   have hnc15 := NB499_497.out
   obtain ⟨hcz16_0, hcz16_1, hcz16_2, hcz16_3, hfz16_0, hfz16_1, hfz16_2, hfz16_3⟩ := bf4 (w := wr) BK497
   try go_wp2
   replace HO_498002 := Aside0.mk (Kd.V_drew HO_498002.out)
   replace HO_498003 := Aside0.mk (Kd.V_drew HO_498003.out)
   replace HO_500001 := Aside0.mk (Kd.R_drew HO_500001.out)
   replace HO_500002 := Aside0.mk (Kd.V_drew HO_500002.out)
   replace HO_500003 := Aside0.mk (Kd.V_drew HO_500003.out)
   replace BK497 := Aside0.mk (blk_drew BK497.out)
   replace BK498 := Aside0.mk (blk_drew BK498.out)
   replace BK499 := Aside0.mk (blk_drew BK499.out)
   replace HB := Aside0.mk (below_drew1 HB.out)
   have p500 : 0 ≤ (x4_1 : Int) := of_decide_eq_true (by first | (with_reducible assumption) | assumption)
   have q500 : x4_1 < (l0_1.length : Int) := of_decide_eq_true (by first | (with_reducible assumption) | assumption)
   obtain ⟨ad500, e500, hx500_0, hx500_1, hx500_2, hx500_3, hx500_4, hx500_5, hx500_6, hx500_7⟩ := at_T56 HR0_1.out x4_1 p500 q500
   have hw500_7 := hx500_7
   have hw500_6 := hx500_6
   have hw500_5 := hx500_5
   have hw500_4 := hx500_4
   have hw500_3 := hx500_3
   have hw500_2 := hx500_2
   have hw500_1 := hx500_1
   have hw500_0 := hx500_0
   cases e500
   replace hx500_0 := (HB.out.cell (World.block_lt_of_cell? w _ hx500_0)).trans hx500_0
   replace hx500_1 := (HB.out.cell (World.block_lt_of_cell? w _ hx500_1)).trans hx500_1
   replace hx500_2 := (HB.out.cell (World.block_lt_of_cell? w _ hx500_2)).trans hx500_2
   replace hx500_3 := (HB.out.cell (World.block_lt_of_cell? w _ hx500_3)).trans hx500_3
   replace hx500_4 := (HB.out.cell (World.block_lt_of_cell? w _ hx500_4)).trans hx500_4
   replace hx500_5 := (HB.out.cell (World.block_lt_of_cell? w _ hx500_5)).trans hx500_5
   replace hx500_6 := (HB.out.cell (World.block_lt_of_cell? w _ hx500_6)).trans hx500_6
   replace hx500_7 := (HB.out.cell (World.block_lt_of_cell? w _ hx500_7)).trans hx500_7
   replace p500 := eq_true p500
   replace q500 := eq_true q500
   refine start_ (n := 12) (S := fun w' => w'.cell? ⟨gb499, 0, none⟩ = some (.bool a0_0) ∧ w'.cell? ⟨gb499, 1, none⟩ = some (u500001) ∧ w'.cell? ⟨gb499, 2, none⟩ = some (.slice A0_2 l0_2.length c0_2) ∧ w'.cell? ⟨gb499, 3, none⟩ = some (.slice A0_3 l0_3.length c0_3) ∧ w'.cell? ⟨gb497, 0, none⟩ = some (.bool a0_0) ∧ w'.cell? ⟨gb497, 1, none⟩ = some (.slice (some ad500) l0_1.length c0_1) ∧ w'.cell? ⟨gb497, 2, none⟩ = some (.slice A0_2 l0_2.length c0_2) ∧ w'.cell? ⟨gb497, 3, none⟩ = some (.slice A0_3 l0_3.length c0_3) ∧ w'.cell? (ad500.add ((x4_1).toNat * 8)) = some (.string ((rd_T56 l0_1 x4_1).f0)) ∧ w'.cell? ⟨(ad500.add ((x4_1).toNat * 8)).block, (ad500.add ((x4_1).toNat * 8)).off + 1, none⟩ = some (.int .i64 ((rd_T56 l0_1 x4_1).f1.f0)) ∧ w'.cell? ⟨(ad500.add ((x4_1).toNat * 8)).block, (ad500.add ((x4_1).toNat * 8)).off + 2, none⟩ = some (.float .f64 ((rd_T56 l0_1 x4_1).f1.f1)) ∧ w'.cell? ⟨(ad500.add ((x4_1).toNat * 8)).block, (ad500.add ((x4_1).toNat * 8)).off + 3, none⟩ = some (.string ((rd_T56 l0_1 x4_1).f1.f2)) ∧ w'.cell? ⟨(ad500.add ((x4_1).toNat * 8)).block, (ad500.add ((x4_1).toNat * 8)).off + 4, none⟩ = some (.int .i64 ((rd_T56 l0_1 x4_1).f2)) ∧ w'.cell? ⟨(ad500.add ((x4_1).toNat * 8)).block, (ad500.add ((x4_1).toNat * 8)).off + 5, none⟩ = some (.int .i64 ((rd_T56 l0_1 x4_1).f3.f0)) ∧ w'.cell? ⟨(ad500.add ((x4_1).toNat * 8)).block, (ad500.add ((x4_1).toNat * 8)).off + 6, none⟩ = some (.float .f64 ((rd_T56 l0_1 x4_1).f3.f1)) ∧ w'.cell? ⟨(ad500.add ((x4_1).toNat * 8)).block, (ad500.add ((x4_1).toNat * 8)).off + 7, none⟩ = some (.string ((rd_T56 l0_1 x4_1).f3.f2))) (ds := [11]) #[false,false,false,false,false,false,false,false,false,false,false,false] (by kernel_rfl) rfl rfl (bn4 BK499 (bn4 BK497 ⟨((HB.out.cell (World.block_lt_of_cell? w _ hw500_0)).trans hw500_0), ((HB.out.cell (World.block_lt_of_cell? w _ hw500_1)).trans hw500_1), ((HB.out.cell (World.block_lt_of_cell? w _ hw500_2)).trans hw500_2), ((HB.out.cell (World.block_lt_of_cell? w _ hw500_3)).trans hw500_3), ((HB.out.cell (World.block_lt_of_cell? w _ hw500_4)).trans hw500_4), ((HB.out.cell (World.block_lt_of_cell? w _ hw500_5)).trans hw500_5), ((HB.out.cell (World.block_lt_of_cell? w _ hw500_6)).trans hw500_6), ((HB.out.cell (World.block_lt_of_cell? w _ hw500_7)).trans hw500_7)⟩)) (fun hHeld => ?_); refine with_tabW engrosslaw11_Of.tab5 engrosslaw11_Of.bits5 (fun HT_ HW_ => ?_)
   generalize wr.drew = w17 at HO_498002 HO_498003 HO_500001 HO_500002 HO_500003 BK497 BK498 BK499 HB hx500_0 hx500_1 hx500_2 hx500_3 hx500_4 hx500_5 hx500_6 hx500_7 hHeld ⊢
   refine pA 0 19 HT_ ?_
   refine pA 2 21 HT_ ?_
   refine pA 4 23 HT_ ?_
   refine tA 1 20 HT_ HW_ hHeld ?_ (hy := by rintro w' ⟨s0, s1, s2, s3, s4, s5, s6, s7, s8, s9, s10, s11, s12, s13, s14, s15⟩; go_simp; with_reducible rfl)
   refine tA 3 22 HT_ HW_ hHeld ?_ (hy := by rintro w' ⟨s0, s1, s2, s3, s4, s5, s6, s7, s8, s9, s10, s11, s12, s13, s14, s15⟩; go_simp; with_reducible rfl)
   refine pA 5 24 HT_ ?_
   refine tA 6 25 HT_ HW_ hHeld ?_ (hy := by rintro w' ⟨s0, s1, s2, s3, s4, s5, s6, s7, s8, s9, s10, s11, s12, s13, s14, s15⟩; go_simp; with_reducible rfl)
   refine oA 7 (some 26) HT_ (fun K hK => ?_)
   refine goes_ Try.func35 (by kernel_rfl) rfl #[.agg #[.string ((rd_T56 l0_1 x4_1).f0), .int .i64 ((rd_T56 l0_1 x4_1).f1.f0), .float .f64 ((rd_T56 l0_1 x4_1).f1.f1), .string ((rd_T56 l0_1 x4_1).f1.f2), .int .i64 ((rd_T56 l0_1 x4_1).f2), .int .i64 ((rd_T56 l0_1 x4_1).f3.f0), .float .f64 ((rd_T56 l0_1 x4_1).f3.f1), .string ((rd_T56 l0_1 x4_1).f3.f2)]] (by rfl) rfl rfl (by (try simp only [List.map_toArray, List.map_cons, List.map_nil]); first | done | rfl | (simp only [List.length_drop, List.length_take]; rfl)) ?_
   with_reducible refine (engrosslaw10_Of.calls ((rd_T56 l0_1 x4_1).f0) ((rd_T56 l0_1 x4_1).f1.f0) ((rd_T56 l0_1 x4_1).f1.f1) ((rd_T56 l0_1 x4_1).f1.f2) ((rd_T56 l0_1 x4_1).f2) ((rd_T56 l0_1 x4_1).f3.f0) ((rd_T56 l0_1 x4_1).f3.f1) ((rd_T56 l0_1 x4_1).f3.f2) t501 t502 t503 t504 t505 t506 t507 t508 _ A12.out).mono ?_
   rintro e w18 ⟨rfl, hb⟩
   refine ⟨_, rfl, ?_⟩
   replace HO_498002 := vB HO_498002 hb
   replace HO_498003 := vB HO_498003 hb
   replace HO_500001 := rB HO_500001 hb
   replace HO_500002 := vB HO_500002 hb
   replace HO_500003 := vB HO_500003 hb
   replace BK497 := bB BK497 hb
   replace BK498 := bB BK498 hb
   replace BK499 := bB BK499 hb
   replace HB := bW HB hb
   (try clear hb)
   (try clear hb2)
   (try clear hk)
   (try clear hi)
   refine hK.out _ _ (bn4 BK499 (bn4 BK497 ⟨((HB.out.cell (World.block_lt_of_cell? w _ hw500_0)).trans hw500_0), ((HB.out.cell (World.block_lt_of_cell? w _ hw500_1)).trans hw500_1), ((HB.out.cell (World.block_lt_of_cell? w _ hw500_2)).trans hw500_2), ((HB.out.cell (World.block_lt_of_cell? w _ hw500_3)).trans hw500_3), ((HB.out.cell (World.block_lt_of_cell? w _ hw500_4)).trans hw500_4), ((HB.out.cell (World.block_lt_of_cell? w _ hw500_5)).trans hw500_5), ((HB.out.cell (World.block_lt_of_cell? w _ hw500_6)).trans hw500_6), ((HB.out.cell (World.block_lt_of_cell? w _ hw500_7)).trans hw500_7)⟩)) (fun hHeld => ?_)
   clear hK K
   refine norm_ (a' := ?_) ?_ ?_
   rotate_left
   ·show Act.put _ (some 26) _ = _
    simp only [Act.put, List.setIfInBounds_toArray, List.set_cons_zero, List.set_cons_succ, i64_w, i32_w]
    rfl
   refine oA 8 (some 27) HT_ (fun K hK => ?_)
   refine value_ (w1 := ?_) (v := ?_) (by rfl) rfl ?_ ?_
   rotate_left 2
   ·go_simp
    constructor
    ·rfl
    ·rfl
   refine hK.out _ _ ⟨(blk_cell (blk_alloc BK499.out _) 0).trans rfl, (blk_cell (blk_alloc BK499.out _) 1).trans rfl, (blk_cell (blk_alloc BK499.out _) 2).trans rfl, (blk_cell (blk_alloc BK499.out _) 3).trans rfl, (blk_cell (blk_alloc BK497.out _) 0).trans rfl, (blk_cell (blk_alloc BK497.out _) 1).trans rfl, (blk_cell (blk_alloc BK497.out _) 2).trans rfl, (blk_cell (blk_alloc BK497.out _) 3).trans rfl, (World.cell?_alloc_lt _ _ _ (World.block_lt_of_cell? _ _ (((HB.out.cell (World.block_lt_of_cell? w _ hw500_0)).trans hw500_0)))).trans (((HB.out.cell (World.block_lt_of_cell? w _ hw500_0)).trans hw500_0)), (World.cell?_alloc_lt _ _ _ (World.block_lt_of_cell? _ _ (((HB.out.cell (World.block_lt_of_cell? w _ hw500_1)).trans hw500_1)))).trans (((HB.out.cell (World.block_lt_of_cell? w _ hw500_1)).trans hw500_1)), (World.cell?_alloc_lt _ _ _ (World.block_lt_of_cell? _ _ (((HB.out.cell (World.block_lt_of_cell? w _ hw500_2)).trans hw500_2)))).trans (((HB.out.cell (World.block_lt_of_cell? w _ hw500_2)).trans hw500_2)), (World.cell?_alloc_lt _ _ _ (World.block_lt_of_cell? _ _ (((HB.out.cell (World.block_lt_of_cell? w _ hw500_3)).trans hw500_3)))).trans (((HB.out.cell (World.block_lt_of_cell? w _ hw500_3)).trans hw500_3)), (World.cell?_alloc_lt _ _ _ (World.block_lt_of_cell? _ _ (((HB.out.cell (World.block_lt_of_cell? w _ hw500_4)).trans hw500_4)))).trans (((HB.out.cell (World.block_lt_of_cell? w _ hw500_4)).trans hw500_4)), (World.cell?_alloc_lt _ _ _ (World.block_lt_of_cell? _ _ (((HB.out.cell (World.block_lt_of_cell? w _ hw500_5)).trans hw500_5)))).trans (((HB.out.cell (World.block_lt_of_cell? w _ hw500_5)).trans hw500_5)), (World.cell?_alloc_lt _ _ _ (World.block_lt_of_cell? _ _ (((HB.out.cell (World.block_lt_of_cell? w _ hw500_6)).trans hw500_6)))).trans (((HB.out.cell (World.block_lt_of_cell? w _ hw500_6)).trans hw500_6)), (World.cell?_alloc_lt _ _ _ (World.block_lt_of_cell? _ _ (((HB.out.cell (World.block_lt_of_cell? w _ hw500_7)).trans hw500_7)))).trans (((HB.out.cell (World.block_lt_of_cell? w _ hw500_7)).trans hw500_7))⟩ (fun hHeld => ?_)
   clear hK K
   refine norm_ (a' := ?_) ?_ ?_
   rotate_left
   ·show Act.put _ (some 27) _ = _
    simp only [Act.put, List.setIfInBounds_toArray, List.set_cons_zero, List.set_cons_succ, i64_w, i32_w]
    rfl
   refine oA 9 (some 28) HT_ (fun K hK => ?_)
   refine Kd.R_append_step k62 (w0 := w) w.heap.size (by rfl) (.tmp 20) (.tmp 27) 34 62 (.agg #[(.string ⟨#[]⟩), (.int .i64 0), (.float .f64 0), (.string ⟨#[]⟩), (.int .i64 0), (.int .i64 0), (.float .f64 0), (.string ⟨#[]⟩)]) 88 rfl Try.underlying34 info62 rfl (by decide) (by omega) u500001 x500001_1 (⟨t501, (⟨t502, t503, t504⟩ : S54), t505, (⟨t506, t507, t508⟩ : S54)⟩ : S62) [.string t501, .int .i64 t502, .float .f64 t503, .string t504, .int .i64 t505, .int .i64 t506, .float .f64 t507, .string t508] (fun k_ => (w.heap.size ≤ k_)) (fun _ => False) rfl rfl ?aP (fun _ hk => hk.elim) ?aF ?aO ?aB ?aS ?aL ?_
   (case aP => exact k62_mkM _ _ _ (⟨t501, (⟨t502, t503, t504⟩ : S54), t505, (⟨t506, t507, t508⟩ : S54)⟩ : S62))
   (case aB => exact (bC HB))
   (case aF => exact (fun k_ hk => (Nat.le_trans (below_size (bC HB)) hk)))
   (case aO => exact (by (with_reducible repeat (first | apply Kd.R_alloc | apply Kd.R_drewN | apply Kd.R_drew)); exact HO_500001.out))
   (case aS => exact (below_size (bC HB)))
   (case aL => have := LMc13.out; omega)
   intro v510 w19 ho hb hg hat
   rw [← Ny509.out] at ho
   have HO511 := Aside0.mk (ho)
   replace HO_498002 := Aside0.mk (Kd.V_afterv (ok := (fun k_ => ((P0_2_ k_ ∨ P0_3_ k_) ∨ w.heap.size ≤ k_) ∧ k_ ≠ gb497 ∧ k_ ≠ gb498 ∧ k_ ≠ gb499)) (by (with_reducible repeat (first | apply Kd.V_alloc | apply Kd.V_drewN | apply Kd.V_drew)); exact Kd.V_mono HO_498002.out (fun _ hk => ⟨⟨hk.1, ⟨hk.2.2.1, ⟨hk.2.2.2.1, hk.2.2.2.2⟩⟩⟩, hk.2.1⟩)) hg hat)
   replace HO_498003 := Aside0.mk (Kd.V_afterv (ok := (fun k_ => ((P0_2_ k_ ∨ P0_3_ k_) ∨ w.heap.size ≤ k_) ∧ k_ ≠ gb497 ∧ k_ ≠ gb498 ∧ k_ ≠ gb499)) (by (with_reducible repeat (first | apply Kd.V_alloc | apply Kd.V_drewN | apply Kd.V_drew)); exact Kd.V_mono HO_498003.out (fun _ hk => ⟨⟨hk.1, ⟨hk.2.2.1, ⟨hk.2.2.2.1, hk.2.2.2.2⟩⟩⟩, hk.2.1⟩)) hg hat)
   replace HO_500002 := Aside0.mk (Kd.V_afterv (ok := (fun k_ => ((P0_2_ k_ ∨ P0_3_ k_) ∨ w.heap.size ≤ k_) ∧ k_ ≠ gb497 ∧ k_ ≠ gb498 ∧ k_ ≠ gb499)) (by (with_reducible repeat (first | apply Kd.V_alloc | apply Kd.V_drewN | apply Kd.V_drew)); exact Kd.V_mono HO_500002.out (fun _ hk => ⟨⟨hk.1, ⟨hk.2.2.1, ⟨hk.2.2.2.1, hk.2.2.2.2⟩⟩⟩, hk.2.1⟩)) hg hat)
   replace HO_500003 := Aside0.mk (Kd.V_afterv (ok := (fun k_ => ((P0_2_ k_ ∨ P0_3_ k_) ∨ w.heap.size ≤ k_) ∧ k_ ≠ gb497 ∧ k_ ≠ gb498 ∧ k_ ≠ gb499)) (by (with_reducible repeat (first | apply Kd.V_alloc | apply Kd.V_drewN | apply Kd.V_drew)); exact Kd.V_mono HO_500003.out (fun _ hk => ⟨⟨hk.1, ⟨hk.2.2.1, ⟨hk.2.2.2.1, hk.2.2.2.2⟩⟩⟩, hk.2.1⟩)) hg hat)
   replace BK497 := Aside0.mk (blk_grown (bQ BK497) hg (Kd.R_ne HO_500001.out BK497.out (by decide)))
   replace BK498 := Aside0.mk (blk_grown (bQ BK498) hg (Kd.R_ne HO_500001.out BK498.out (by decide)))
   replace BK499 := Aside0.mk (blk_grown (bQ BK499) hg (Kd.R_ne HO_500001.out BK499.out (by decide)))
   replace HB := Aside0.mk (hb)
   clear HO_500001
   clear ho hb hg hat
   obtain ⟨Ao20, co20, eo20⟩ := Kd.R_slice HO511.out
   (first | subst eo20 | (injection eo20 with f1_ f2_ f3_; have f4_ := f1_.symm; have f5_ := f3_.symm; clear f1_ f2_ f3_; subst f4_; subst f5_))
   refine hK.out _ _ (bn4 BK499 (bn4 BK497 ⟨((HB.out.cell (World.block_lt_of_cell? w _ hw500_0)).trans hw500_0), ((HB.out.cell (World.block_lt_of_cell? w _ hw500_1)).trans hw500_1), ((HB.out.cell (World.block_lt_of_cell? w _ hw500_2)).trans hw500_2), ((HB.out.cell (World.block_lt_of_cell? w _ hw500_3)).trans hw500_3), ((HB.out.cell (World.block_lt_of_cell? w _ hw500_4)).trans hw500_4), ((HB.out.cell (World.block_lt_of_cell? w _ hw500_5)).trans hw500_5), ((HB.out.cell (World.block_lt_of_cell? w _ hw500_6)).trans hw500_6), ((HB.out.cell (World.block_lt_of_cell? w _ hw500_7)).trans hw500_7)⟩)) (fun hHeld => ?_)
   clear hK K
   refine norm_ (a' := ?_) ?_ ?_
   rotate_left
   ·show Act.put _ (some 28) _ = _
    simp only [Act.put, List.setIfInBounds_toArray, List.set_cons_zero, List.set_cons_succ, i64_w, i32_w]
    rfl
   refine pA 10 29 HT_ ?_
   refine last_ (i := 11) (N := none) #[true,true,true,true,true,true,true,true,true,true,true,true] rfl rfl (one_of HT_.out (by kernel_rfl)) (by decide) (fun K hK => ?_)
   have hs21 : w19.cell? ⟨gb499, 1, none⟩ = some (u500001) := (blk_cell BK499.out 1).trans rfl
   have hfs21 := blk_frozen BK499.out 1
   have hns21_0 := NB497_499.out
   have hns21_1 := NB498_499.out
   have hms21_0 := NB499_497.out
   have hms21_1 := NB499_498.out
   with_reducible refine skip_ (w1 := ?_) (by with_unfolding_all rfl) (by with_unfolding_all rfl) ?_ ?_
   rotate_left
   ·go_simp
    rfl
   refine hK.out _ _ ?_
   clear hK K
   refine done_ (done_of HT_.out (by kernel_rfl)) ?_
   try go_wp2
   go_roundg k1
   case measure => have := HK1.out; omega
   case rel => exact ⟨(wrap64 (x4_1 + 1)), (y509), (.slice Ao20 y509.length co20), (by first | rfl | (simp; done) | (simp [*]; done)), H', ⟨by have := HK1.out; omega⟩, ⟨by (with_reducible repeat (first | apply Kd.V_alloc | apply Kd.V_drewN | apply Kd.V_drew)); exact Kd.V_mono (Kd.V_far (p := ⟨gb499, 1, none⟩) (Kd.V_mono HO_498002.out (fun k_ hk => (⟨hk, hk.1.2.2.2⟩ : _ ∧ k_ ≠ gb499))) (fun _ hk => hk.2) (.slice Ao20 y509.length co20)) (fun _ hk => ⟨hk.1.1.1, ⟨hk.1.2, ⟨hk.1.1.2.1, ⟨hk.1.1.2.2.1, hk.1.1.2.2.2⟩⟩⟩⟩)⟩, ⟨by (with_reducible repeat (first | apply Kd.V_alloc | apply Kd.V_drewN | apply Kd.V_drew)); exact Kd.V_mono (Kd.V_far (p := ⟨gb499, 1, none⟩) (Kd.V_mono HO_498003.out (fun k_ hk => (⟨hk, hk.1.2.2.2⟩ : _ ∧ k_ ≠ gb499))) (fun _ hk => hk.2) (.slice Ao20 y509.length co20)) (fun _ hk => ⟨hk.1.1.1, ⟨hk.1.2, ⟨hk.1.1.2.1, ⟨hk.1.1.2.2.1, hk.1.1.2.2.2⟩⟩⟩⟩)⟩, ⟨by (with_reducible repeat (first | apply Kd.R_alloc | apply Kd.R_drewN | apply Kd.R_drew)); exact Kd.R_mono (Kd.R_far (p := ⟨gb499, 1, none⟩) (Kd.R_types HO511.out BK499.out (by decide)) (fun _ hk => hk.2) (.slice Ao20 y509.length co20)) (fun _ hk => hk.1)⟩, ⟨by (with_reducible repeat (first | apply Kd.V_alloc | apply Kd.V_drewN | apply Kd.V_drew)); exact Kd.V_mono (Kd.V_far (p := ⟨gb499, 1, none⟩) (Kd.V_mono HO_500002.out (fun k_ hk => (⟨hk, hk.1.2.2.2⟩ : _ ∧ k_ ≠ gb499))) (fun _ hk => hk.2) (.slice Ao20 y509.length co20)) (fun _ hk => ⟨hk.1.1.1, ⟨hk.1.2, ⟨hk.1.1.2.1, ⟨hk.1.1.2.2.1, hk.1.1.2.2.2⟩⟩⟩⟩)⟩, ⟨by (with_reducible repeat (first | apply Kd.V_alloc | apply Kd.V_drewN | apply Kd.V_drew)); exact Kd.V_mono (Kd.V_far (p := ⟨gb499, 1, none⟩) (Kd.V_mono HO_500003.out (fun k_ hk => (⟨hk, hk.1.2.2.2⟩ : _ ∧ k_ ≠ gb499))) (fun _ hk => hk.2) (.slice Ao20 y509.length co20)) (fun _ hk => ⟨hk.1.1.1, ⟨hk.1.2, ⟨hk.1.1.2.1, ⟨hk.1.1.2.2.1, hk.1.1.2.2.2⟩⟩⟩⟩)⟩, ⟨by (with_reducible repeat (first | refine blk_drewN ?_ _ | refine blk_drew ?_ | refine blk_alloc ?_ _)); refine blk_far ?_ NB497_499.out _; (with_reducible repeat (first | refine blk_drewN ?_ _ | refine blk_drew ?_ | refine blk_alloc ?_ _)); exact BK497.out⟩, ⟨by (with_reducible repeat (first | refine blk_drewN ?_ _ | refine blk_drew ?_ | refine blk_alloc ?_ _)); refine blk_far ?_ NB498_499.out _; (with_reducible repeat (first | refine blk_drewN ?_ _ | refine blk_drew ?_ | refine blk_alloc ?_ _)); exact BK498.out⟩, ⟨by (with_reducible repeat (first | refine blk_drewN ?_ _ | refine blk_drew ?_ | refine blk_alloc ?_ _)); refine blk_put (cs := #[.bool a0_0, u500001, .slice A0_2 l0_2.length c0_2, .slice A0_3 l0_3.length c0_3]) ?_ 1 _ rfl; (with_reducible repeat (first | refine blk_drewN ?_ _ | refine blk_drew ?_ | refine blk_alloc ?_ _)); exact BK499.out⟩, ⟨by repeat (first | (with_reducible first | exact HB.out | apply below_alloc | apply pw_below_drewN | apply below_drew1 | refine below_set ?_ GE497.out | refine below_set ?_ GE498.out | refine below_set ?_ GE499.out) | exact HB.out)⟩⟩
end Go.Proofs.Ytmmjpieafbjggaa.P
end
section
namespace Go.Proofs.Ytmmjpieafbjggaa.P
open Go.RowKit Go.Proofs.YtmmjpieafbjggaaW.PrintWords Go.Proofs.YtmmjpieafbjggaaW.PrintLast Go.Proofs.YtmmjpieafbjggaaW.PrintMore
attribute [local go_sem] max2_int min2_int max_two min_two max_three min_three max_four min_four   -- for this text's walks alone
attribute [local go_sem] x_str_gtr x_str_leq x_str_geq ext_bits ext_frombits ext_neg x_store_float Instr.field asAgg
set_option linter.unusedVariables false
set_option linter.unusedSimpArgs false
def engrosslaw11_NodeThree.f (k : Nat) (a0_0 : ByteArray) (a0_1 : Int) (a0_2 : Nat) (a0_3 : ByteArray) (a0_4 : Int) (a0_5 : Int) (a0_6 : Nat) (a0_7 : ByteArray) (a1_0 : ByteArray) (a1_1 : Int) (a1_2 : Nat) (a1_3 : ByteArray) (a1_4 : Int) (a1_5 : Int) (a1_6 : Nat) (a1_7 : ByteArray) (a2_0 : ByteArray) (a2_1 : Int) (a2_2 : Nat) (a2_3 : ByteArray) (a2_4 : Int) (a2_5 : Int) (a2_6 : Nat) (a2_7 : ByteArray) : Option (Bool) := (engrosslaw11_begun.f k).bind fun t733 => (if t733 = true then ((engrosslaw10_Cut.f a0_0 a0_1 a0_2 a0_3 a0_4 a0_5 a0_6 a0_7).bind fun bt734 => ((engrosslaw10_Cut.f a1_0 a1_1 a1_2 a1_3 a1_4 a1_5 a1_6 a1_7).bind fun bt742 => ((engrosslaw10_Cut.f a2_0 a2_1 a2_2 a2_3 a2_4 a2_5 a2_6 a2_7).bind fun bt750 => ((some (([(⟨bt734.1, (⟨bt734.2.1, bt734.2.2.1, bt734.2.2.2.1⟩ : S54), bt734.2.2.2.2.1, (⟨bt734.2.2.2.2.2.1, bt734.2.2.2.2.2.2.1, bt734.2.2.2.2.2.2.2⟩ : S54)⟩ : S56), (⟨bt742.1, (⟨bt742.2.1, bt742.2.2.1, bt742.2.2.2.1⟩ : S54), bt742.2.2.2.2.1, (⟨bt742.2.2.2.2.2.1, bt742.2.2.2.2.2.2.1, bt742.2.2.2.2.2.2.2⟩ : S54)⟩ : S56), (⟨bt750.1, (⟨bt750.2.1, bt750.2.2.1, bt750.2.2.2.1⟩ : S54), bt750.2.2.2.2.1, (⟨bt750.2.2.2.2.2.1, bt750.2.2.2.2.2.2.1, bt750.2.2.2.2.2.2.2⟩ : S54)⟩ : S56)] : List (S56)) : List (S56))).bind fun y758 => ((engrossref10_MayNode.f k true y758 ([] : List ByteArray) ([] : List Int)).bind fun t762 => (if t762 = true then ((engrosslaw11_Of.f k true y758 ([] : List ByteArray) ([] : List Int)).bind fun bt763 => ((node_Encode.f k bt763.1 bt763.2.1 bt763.2.2.1 bt763.2.2.2).bind fun bt773 => (some (bt773.2 == 0)))) else (some true))))))) else (none))
def engrosslaw11_NodeThree.T4 : Bool × List (List Nat × List Nat) := (true, [([], []), ([0], [0]), ([], []), ([2, 1], [2]), ([], []), ([4, 3], [4]), ([1, 5, 0, 1], [1]), ([3, 6, 0, 1, 2, 3, 6], [3]), ([5, 7, 0, 1, 2, 3, 4, 5, 6, 7], [5])])
def engrosslaw11_NodeThree.B4 : List Nat := [0, 1, 0, 7, 0, 31, 63, 127, 255]
theorem engrosslaw11_NodeThree.tab4 : rtab .any (opsOf Try.f5 4) = engrosslaw11_NodeThree.T4 := by kernel_rfl
theorem engrosslaw11_NodeThree.bits4 : waitsOk engrosslaw11_NodeThree.T4.2 engrosslaw11_NodeThree.B4 = true := by kernel_rfl
set_option maxHeartbeats 8000000 in
set_option maxRecDepth 100000 in
theorem engrosslaw11_NodeThree.calls (k : Nat) (a0_0 : ByteArray) (a0_1 : Int) (a0_2 : Nat) (a0_3 : ByteArray) (a0_4 : Int) (a0_5 : Int) (a0_6 : Nat) (a0_7 : ByteArray) (a1_0 : ByteArray) (a1_1 : Int) (a1_2 : Nat) (a1_3 : ByteArray) (a1_4 : Int) (a1_5 : Int) (a1_6 : Nat) (a1_7 : ByteArray) (a2_0 : ByteArray) (a2_1 : Int) (a2_2 : Nat) (a2_3 : ByteArray) (a2_4 : Int) (a2_5 : Int) (a2_6 : Nat) (a2_7 : ByteArray) (r : Bool) (w : World) (h : engrosslaw11_NodeThree.f k a0_0 a0_1 a0_2 a0_3 a0_4 a0_5 a0_6 a0_7 a1_0 a1_1 a1_2 a1_3 a1_4 a1_5 a1_6 a1_7 a2_0 a2_1 a2_2 a2_3 a2_4 a2_5 a2_6 a2_7 = some r) :
  Calls Try.prog 5 #[.agg #[.string a0_0, .int .i64 a0_1, .float .f64 a0_2, .string a0_3, .int .i64 a0_4, .int .i64 a0_5, .float .f64 a0_6, .string a0_7], .agg #[.string a1_0, .int .i64 a1_1, .float .f64 a1_2, .string a1_3, .int .i64 a1_4, .int .i64 a1_5, .float .f64 a1_6, .string a1_7], .agg #[.string a2_0, .int .i64 a2_1, .float .f64 a2_2, .string a2_3, .int .i64 a2_4, .int .i64 a2_5, .float .f64 a2_6, .string a2_7]] w fun e w' => e = .returned (.bool r) ∧ Below w.heap.size w w' := by
 have hu56 := Try.underlying56
 have hu26 := Try.underlying26
 have HB := Aside0.mk (Below.refl w.heap.size w)
 have H : ((engrosslaw11_begun.f k).bind fun t733 => (if t733 = true then ((engrosslaw10_Cut.f a0_0 a0_1 a0_2 a0_3 a0_4 a0_5 a0_6 a0_7).bind fun bt734 => ((engrosslaw10_Cut.f a1_0 a1_1 a1_2 a1_3 a1_4 a1_5 a1_6 a1_7).bind fun bt742 => ((engrosslaw10_Cut.f a2_0 a2_1 a2_2 a2_3 a2_4 a2_5 a2_6 a2_7).bind fun bt750 => ((some (([(⟨bt734.1, (⟨bt734.2.1, bt734.2.2.1, bt734.2.2.2.1⟩ : S54), bt734.2.2.2.2.1, (⟨bt734.2.2.2.2.2.1, bt734.2.2.2.2.2.2.1, bt734.2.2.2.2.2.2.2⟩ : S54)⟩ : S56), (⟨bt742.1, (⟨bt742.2.1, bt742.2.2.1, bt742.2.2.2.1⟩ : S54), bt742.2.2.2.2.1, (⟨bt742.2.2.2.2.2.1, bt742.2.2.2.2.2.2.1, bt742.2.2.2.2.2.2.2⟩ : S54)⟩ : S56), (⟨bt750.1, (⟨bt750.2.1, bt750.2.2.1, bt750.2.2.2.1⟩ : S54), bt750.2.2.2.2.1, (⟨bt750.2.2.2.2.2.1, bt750.2.2.2.2.2.2.1, bt750.2.2.2.2.2.2.2⟩ : S54)⟩ : S56)] : List (S56)) : List (S56))).bind fun y758 => ((engrossref10_MayNode.f k true y758 ([] : List ByteArray) ([] : List Int)).bind fun t762 => (if t762 = true then ((engrosslaw11_Of.f k true y758 ([] : List ByteArray) ([] : List Int)).bind fun bt763 => ((node_Encode.f k bt763.1 bt763.2.1 bt763.2.2.1 bt763.2.2.2).bind fun bt773 => (some (bt773.2 == 0)))) else (some true))))))) else (none))) = some r := h
 clear h
 replace H := Option.bind_eq_some_iff.mp H
 obtain ⟨t733, A40, H⟩ := H
 replace H : (if t733 = true then ((engrosslaw10_Cut.f a0_0 a0_1 a0_2 a0_3 a0_4 a0_5 a0_6 a0_7).bind fun bt734 => ((engrosslaw10_Cut.f a1_0 a1_1 a1_2 a1_3 a1_4 a1_5 a1_6 a1_7).bind fun bt742 => ((engrosslaw10_Cut.f a2_0 a2_1 a2_2 a2_3 a2_4 a2_5 a2_6 a2_7).bind fun bt750 => ((some (([(⟨bt734.1, (⟨bt734.2.1, bt734.2.2.1, bt734.2.2.2.1⟩ : S54), bt734.2.2.2.2.1, (⟨bt734.2.2.2.2.2.1, bt734.2.2.2.2.2.2.1, bt734.2.2.2.2.2.2.2⟩ : S54)⟩ : S56), (⟨bt742.1, (⟨bt742.2.1, bt742.2.2.1, bt742.2.2.2.1⟩ : S54), bt742.2.2.2.2.1, (⟨bt742.2.2.2.2.2.1, bt742.2.2.2.2.2.2.1, bt742.2.2.2.2.2.2.2⟩ : S54)⟩ : S56), (⟨bt750.1, (⟨bt750.2.1, bt750.2.2.1, bt750.2.2.2.1⟩ : S54), bt750.2.2.2.2.1, (⟨bt750.2.2.2.2.2.1, bt750.2.2.2.2.2.2.1, bt750.2.2.2.2.2.2.2⟩ : S54)⟩ : S56)] : List (S56)) : List (S56))).bind fun y758 => ((engrossref10_MayNode.f k true y758 ([] : List ByteArray) ([] : List Int)).bind fun t762 => (if t762 = true then ((engrosslaw11_Of.f k true y758 ([] : List ByteArray) ([] : List Int)).bind fun bt763 => ((node_Encode.f k bt763.1 bt763.2.1 bt763.2.2.1 bt763.2.2.2).bind fun bt773 => (some (bt773.2 == 0)))) else (some true))))))) else (none)) = some r := H
 have A4 := Aside0.mk A40
 clear A40
 by_cases c5 : t733 = true
 rotate_left
 ·replace c5 := Bool.eq_false_iff.mpr c5
  subst c5
  have H1 : (none) = some r := by rw [if_neg (show ¬ (false = true) by decide)] at H; exact H
  clear H
  have H := H1
  clear H1
  exact absurd H (by simp)
 subst c5
 have H1 : ((engrosslaw10_Cut.f a0_0 a0_1 a0_2 a0_3 a0_4 a0_5 a0_6 a0_7).bind fun bt734 => ((engrosslaw10_Cut.f a1_0 a1_1 a1_2 a1_3 a1_4 a1_5 a1_6 a1_7).bind fun bt742 => ((engrosslaw10_Cut.f a2_0 a2_1 a2_2 a2_3 a2_4 a2_5 a2_6 a2_7).bind fun bt750 => ((some (([(⟨bt734.1, (⟨bt734.2.1, bt734.2.2.1, bt734.2.2.2.1⟩ : S54), bt734.2.2.2.2.1, (⟨bt734.2.2.2.2.2.1, bt734.2.2.2.2.2.2.1, bt734.2.2.2.2.2.2.2⟩ : S54)⟩ : S56), (⟨bt742.1, (⟨bt742.2.1, bt742.2.2.1, bt742.2.2.2.1⟩ : S54), bt742.2.2.2.2.1, (⟨bt742.2.2.2.2.2.1, bt742.2.2.2.2.2.2.1, bt742.2.2.2.2.2.2.2⟩ : S54)⟩ : S56), (⟨bt750.1, (⟨bt750.2.1, bt750.2.2.1, bt750.2.2.2.1⟩ : S54), bt750.2.2.2.2.1, (⟨bt750.2.2.2.2.2.1, bt750.2.2.2.2.2.2.1, bt750.2.2.2.2.2.2.2⟩ : S54)⟩ : S56)] : List (S56)) : List (S56))).bind fun y758 => ((engrossref10_MayNode.f k true y758 ([] : List ByteArray) ([] : List Int)).bind fun t762 => (if t762 = true then ((engrosslaw11_Of.f k true y758 ([] : List ByteArray) ([] : List Int)).bind fun bt763 => ((node_Encode.f k bt763.1 bt763.2.1 bt763.2.2.1 bt763.2.2.2).bind fun bt773 => (some (bt773.2 == 0)))) else (some true))))))) = some r := by rw [if_pos rfl] at H; exact H
 clear H
 have H := H1
 clear H1
 replace H := Option.bind_eq_some_iff.mp H
 obtain ⟨⟨t734, t735, t736, t737, t738, t739, t740, t741⟩, A60, H⟩ := H
 replace H : ((engrosslaw10_Cut.f a1_0 a1_1 a1_2 a1_3 a1_4 a1_5 a1_6 a1_7).bind fun bt742 => ((engrosslaw10_Cut.f a2_0 a2_1 a2_2 a2_3 a2_4 a2_5 a2_6 a2_7).bind fun bt750 => ((some (([(⟨t734, (⟨t735, t736, t737⟩ : S54), t738, (⟨t739, t740, t741⟩ : S54)⟩ : S56), (⟨bt742.1, (⟨bt742.2.1, bt742.2.2.1, bt742.2.2.2.1⟩ : S54), bt742.2.2.2.2.1, (⟨bt742.2.2.2.2.2.1, bt742.2.2.2.2.2.2.1, bt742.2.2.2.2.2.2.2⟩ : S54)⟩ : S56), (⟨bt750.1, (⟨bt750.2.1, bt750.2.2.1, bt750.2.2.2.1⟩ : S54), bt750.2.2.2.2.1, (⟨bt750.2.2.2.2.2.1, bt750.2.2.2.2.2.2.1, bt750.2.2.2.2.2.2.2⟩ : S54)⟩ : S56)] : List (S56)) : List (S56))).bind fun y758 => ((engrossref10_MayNode.f k true y758 ([] : List ByteArray) ([] : List Int)).bind fun t762 => (if t762 = true then ((engrosslaw11_Of.f k true y758 ([] : List ByteArray) ([] : List Int)).bind fun bt763 => ((node_Encode.f k bt763.1 bt763.2.1 bt763.2.2.1 bt763.2.2.2).bind fun bt773 => (some (bt773.2 == 0)))) else (some true)))))) = some r := H
 have A6 := Aside0.mk A60
 clear A60
 replace H := Option.bind_eq_some_iff.mp H
 obtain ⟨⟨t742, t743, t744, t745, t746, t747, t748, t749⟩, A70, H⟩ := H
 replace H : ((engrosslaw10_Cut.f a2_0 a2_1 a2_2 a2_3 a2_4 a2_5 a2_6 a2_7).bind fun bt750 => ((some (([(⟨t734, (⟨t735, t736, t737⟩ : S54), t738, (⟨t739, t740, t741⟩ : S54)⟩ : S56), (⟨t742, (⟨t743, t744, t745⟩ : S54), t746, (⟨t747, t748, t749⟩ : S54)⟩ : S56), (⟨bt750.1, (⟨bt750.2.1, bt750.2.2.1, bt750.2.2.2.1⟩ : S54), bt750.2.2.2.2.1, (⟨bt750.2.2.2.2.2.1, bt750.2.2.2.2.2.2.1, bt750.2.2.2.2.2.2.2⟩ : S54)⟩ : S56)] : List (S56)) : List (S56))).bind fun y758 => ((engrossref10_MayNode.f k true y758 ([] : List ByteArray) ([] : List Int)).bind fun t762 => (if t762 = true then ((engrosslaw11_Of.f k true y758 ([] : List ByteArray) ([] : List Int)).bind fun bt763 => ((node_Encode.f k bt763.1 bt763.2.1 bt763.2.2.1 bt763.2.2.2).bind fun bt773 => (some (bt773.2 == 0)))) else (some true))))) = some r := H
 have A7 := Aside0.mk A70
 clear A70
 replace H := Option.bind_eq_some_iff.mp H
 obtain ⟨⟨t750, t751, t752, t753, t754, t755, t756, t757⟩, A80, H⟩ := H
 replace H : ((some (([(⟨t734, (⟨t735, t736, t737⟩ : S54), t738, (⟨t739, t740, t741⟩ : S54)⟩ : S56), (⟨t742, (⟨t743, t744, t745⟩ : S54), t746, (⟨t747, t748, t749⟩ : S54)⟩ : S56), (⟨t750, (⟨t751, t752, t753⟩ : S54), t754, (⟨t755, t756, t757⟩ : S54)⟩ : S56)] : List (S56)) : List (S56))).bind fun y758 => ((engrossref10_MayNode.f k true y758 ([] : List ByteArray) ([] : List Int)).bind fun t762 => (if t762 = true then ((engrosslaw11_Of.f k true y758 ([] : List ByteArray) ([] : List Int)).bind fun bt763 => ((node_Encode.f k bt763.1 bt763.2.1 bt763.2.2.1 bt763.2.2.2).bind fun bt773 => (some (bt773.2 == 0)))) else (some true)))) = some r := H
 have A8 := Aside0.mk A80
 clear A80
 obtain ⟨y758, hy758⟩ : ∃ y_ : List (S56), y_ = (([(⟨t734, (⟨t735, t736, t737⟩ : S54), t738, (⟨t739, t740, t741⟩ : S54)⟩ : S56), (⟨t742, (⟨t743, t744, t745⟩ : S54), t746, (⟨t747, t748, t749⟩ : S54)⟩ : S56), (⟨t750, (⟨t751, t752, t753⟩ : S54), t754, (⟨t755, t756, t757⟩ : S54)⟩ : S56)] : List (S56))) := ⟨_, rfl⟩
 replace H : ((engrossref10_MayNode.f k true y758 ([] : List ByteArray) ([] : List Int)).bind fun t762 => (if t762 = true then ((engrosslaw11_Of.f k true y758 ([] : List ByteArray) ([] : List Int)).bind fun bt763 => ((node_Encode.f k bt763.1 bt763.2.1 bt763.2.2.1 bt763.2.2.2).bind fun bt773 => (some (bt773.2 == 0)))) else (some true))) = some r := by first | (rw [hy758]; with_reducible exact H) | (have H2_ := (Option.bind_some _ _).symm.trans H; rw [hy758]; with_reducible exact H2_) | (have H2_ := (Option.bind_some _ _).symm.trans H; with_reducible exact H2_) | with_reducible exact H | (rw [hy758]; exact H) | exact H
 have Ny758 := Aside0.mk hy758
 clear hy758
 replace H := Option.bind_eq_some_iff.mp H
 obtain ⟨t762, A90, H⟩ := H
 replace H : (if t762 = true then ((engrosslaw11_Of.f k true y758 ([] : List ByteArray) ([] : List Int)).bind fun bt763 => ((node_Encode.f k bt763.1 bt763.2.1 bt763.2.2.1 bt763.2.2.2).bind fun bt773 => (some (bt773.2 == 0)))) else (some true)) = some r := H
 have A9 := Aside0.mk A90
 clear A90
 by_cases c10 : t762 = true
 rotate_left
 ·replace c10 := Bool.eq_false_iff.mpr c10
  subst c10
  have H1 : (some true) = some r := by rw [if_neg (show ¬ (false = true) by decide)] at H; exact H
  clear H
  have H := H1
  clear H1
  obtain rfl := Option.some.inj H
  go_enter Try.func5, Try.ntmps5
  try go_wp2_with (first | ((with_reducible refine gate_dst (N := 3) rfl ?_); refine box_event ?hg (N := 3) ?hd (cs := #[.string a0_0, .int .i64 a0_1, .float .f64 a0_2, .string a0_3, .int .i64 a0_4, .int .i64 a0_5, .float .f64 a0_6, .string a0_7]) (t := 56) ?hr ?_; (case hd => rfl); (case hg => rfl); (case hr => first | (go_simp; done) | (go_simp; rfl)); intro gb730 hg w66 hbox hb; have BK730 := Aside0.mk (hbox); have GW730 := bZ HB hg; have GE730 := bZ HB hg; replace HB := bW HB hb; clear hb hbox hg) | ((with_reducible refine gate_dst (N := 4) rfl ?_); refine box_event ?hg (N := 4) ?hd (cs := #[.string a1_0, .int .i64 a1_1, .float .f64 a1_2, .string a1_3, .int .i64 a1_4, .int .i64 a1_5, .float .f64 a1_6, .string a1_7]) (t := 56) ?hr ?_; (case hd => rfl); (case hg => rfl); (case hr => first | (go_simp; done) | (go_simp; rfl)); intro gb731 hg w67 hbox hb; have BK731 := Aside0.mk (hbox); have GW731 := bZ HB hg; have GE731 := bZ HB hg; have NB730_731 := bL BK730 hg; have NB731_730 := bG BK730 hg; replace BK730 := bB BK730 hb; replace HB := bW HB hb; clear hb hbox hg) | ((with_reducible refine gate_dst (N := 5) rfl ?_); refine box_event ?hg (N := 5) ?hd (cs := #[.string a2_0, .int .i64 a2_1, .float .f64 a2_2, .string a2_3, .int .i64 a2_4, .int .i64 a2_5, .float .f64 a2_6, .string a2_7]) (t := 56) ?hr ?_; (case hd => rfl); (case hg => rfl); (case hr => first | (go_simp; done) | (go_simp; rfl)); intro gb732 hg w68 hbox hb; have BK732 := Aside0.mk (hbox); have GW732 := bZ HB hg; have GE732 := bZ HB hg; have NB730_732 := bL BK730 hg; have NB732_730 := bG BK730 hg; have NB731_732 := bL BK731 hg; have NB732_731 := bG BK731 hg; replace BK730 := bB BK730 hb; replace BK731 := bB BK731 hb; replace HB := bW HB hb; clear hb hbox hg) | ((with_reducible refine gate_callee (f := 11) rfl ?_); refine gL (some 11) Try.func11 #[] ?_; (with_reducible refine (engrosslaw11_begun.calls k  true _ A4.out).mono ?_); rintro e w69 ⟨rfl, hb⟩; refine ⟨_, rfl, ?_⟩; replace BK730 := bB BK730 hb; replace BK731 := bB BK731 hb; replace BK732 := bB BK732 hb; replace HB := bW HB hb; (try clear hb); (try clear hb2); (try clear hk); (try clear hi)))
  replace BK730 := Aside0.mk (blk_drew BK730.out)
  replace BK731 := Aside0.mk (blk_drew BK731.out)
  replace BK732 := Aside0.mk (blk_drew BK732.out)
  replace HB := Aside0.mk (below_drew1 HB.out)
  refine start_ (n := 9) (S := fun w' => w'.cell? ⟨gb730, 0, none⟩ = some (.string a0_0) ∧ w'.cell? ⟨gb730, 1, none⟩ = some (.int .i64 a0_1) ∧ w'.cell? ⟨gb730, 2, none⟩ = some (.float .f64 a0_2) ∧ w'.cell? ⟨gb730, 3, none⟩ = some (.string a0_3) ∧ w'.cell? ⟨gb730, 4, none⟩ = some (.int .i64 a0_4) ∧ w'.cell? ⟨gb730, 5, none⟩ = some (.int .i64 a0_5) ∧ w'.cell? ⟨gb730, 6, none⟩ = some (.float .f64 a0_6) ∧ w'.cell? ⟨gb730, 7, none⟩ = some (.string a0_7) ∧ w'.cell? ⟨gb731, 0, none⟩ = some (.string a1_0) ∧ w'.cell? ⟨gb731, 1, none⟩ = some (.int .i64 a1_1) ∧ w'.cell? ⟨gb731, 2, none⟩ = some (.float .f64 a1_2) ∧ w'.cell? ⟨gb731, 3, none⟩ = some (.string a1_3) ∧ w'.cell? ⟨gb731, 4, none⟩ = some (.int .i64 a1_4) ∧ w'.cell? ⟨gb731, 5, none⟩ = some (.int .i64 a1_5) ∧ w'.cell? ⟨gb731, 6, none⟩ = some (.float .f64 a1_6) ∧ w'.cell? ⟨gb731, 7, none⟩ = some (.string a1_7) ∧ w'.cell? ⟨gb732, 0, none⟩ = some (.string a2_0) ∧ w'.cell? ⟨gb732, 1, none⟩ = some (.int .i64 a2_1) ∧ w'.cell? ⟨gb732, 2, none⟩ = some (.float .f64 a2_2) ∧ w'.cell? ⟨gb732, 3, none⟩ = some (.string a2_3) ∧ w'.cell? ⟨gb732, 4, none⟩ = some (.int .i64 a2_4) ∧ w'.cell? ⟨gb732, 5, none⟩ = some (.int .i64 a2_5) ∧ w'.cell? ⟨gb732, 6, none⟩ = some (.float .f64 a2_6) ∧ w'.cell? ⟨gb732, 7, none⟩ = some (.string a2_7)) (ds := [6, 7, 8]) #[false,false,false,false,false,false,false,false,false] (by kernel_rfl) rfl rfl (bn8 BK730 (bn8 BK731 (be8 BK732))) (fun hHeld => ?_); refine with_tabW engrosslaw11_NodeThree.tab4 engrosslaw11_NodeThree.bits4 (fun HT_ HW_ => ?_)
  generalize w69.drew = w70 at BK730 BK731 BK732 HB hHeld ⊢
  refine tA 0 14 HT_ HW_ hHeld ?_ (hy := by rintro w' ⟨s0, s1, s2, s3, s4, s5, s6, s7, s8, s9, s10, s11, s12, s13, s14, s15, s16, s17, s18, s19, s20, s21, s22, s23⟩; go_simp; with_reducible rfl)
  refine tA 2 16 HT_ HW_ hHeld ?_ (hy := by rintro w' ⟨s0, s1, s2, s3, s4, s5, s6, s7, s8, s9, s10, s11, s12, s13, s14, s15, s16, s17, s18, s19, s20, s21, s22, s23⟩; go_simp; with_reducible rfl)
  refine tA 4 18 HT_ HW_ hHeld ?_ (hy := by rintro w' ⟨s0, s1, s2, s3, s4, s5, s6, s7, s8, s9, s10, s11, s12, s13, s14, s15, s16, s17, s18, s19, s20, s21, s22, s23⟩; go_simp; with_reducible rfl)
  refine oA 1 (some 15) HT_ (fun K hK => ?_)
  refine goes_ Try.func27 (by kernel_rfl) rfl #[.agg #[.string a0_0, .int .i64 a0_1, .float .f64 a0_2, .string a0_3, .int .i64 a0_4, .int .i64 a0_5, .float .f64 a0_6, .string a0_7]] (by rfl) rfl rfl (by (try simp only [List.map_toArray, List.map_cons, List.map_nil]); first | done | rfl | (simp only [List.length_drop, List.length_take]; rfl)) ?_
  with_reducible refine (engrosslaw10_Cut.calls a0_0 a0_1 a0_2 a0_3 a0_4 a0_5 a0_6 a0_7 t734 t735 t736 t737 t738 t739 t740 t741 _ A6.out).mono ?_
  rintro e w71 ⟨rfl, hb⟩
  refine ⟨_, rfl, ?_⟩
  replace BK730 := bB BK730 hb
  replace BK731 := bB BK731 hb
  replace BK732 := bB BK732 hb
  replace HB := bW HB hb
  (try clear hb)
  (try clear hb2)
  (try clear hk)
  (try clear hi)
  refine hK.out _ _ (bn8 BK730 (bn8 BK731 (be8 BK732))) (fun hHeld => ?_)
  clear hK K
  refine norm_ (a' := ?_) ?_ ?_
  rotate_left
  ·show Act.put _ (some 15) _ = _
   simp only [Act.put, List.setIfInBounds_toArray, List.set_cons_zero, List.set_cons_succ, i64_w, i32_w]
   rfl
  refine oA 3 (some 17) HT_ (fun K hK => ?_)
  refine goes_ Try.func27 (by kernel_rfl) rfl #[.agg #[.string a1_0, .int .i64 a1_1, .float .f64 a1_2, .string a1_3, .int .i64 a1_4, .int .i64 a1_5, .float .f64 a1_6, .string a1_7]] (by rfl) rfl rfl (by (try simp only [List.map_toArray, List.map_cons, List.map_nil]); first | done | rfl | (simp only [List.length_drop, List.length_take]; rfl)) ?_
  with_reducible refine (engrosslaw10_Cut.calls a1_0 a1_1 a1_2 a1_3 a1_4 a1_5 a1_6 a1_7 t742 t743 t744 t745 t746 t747 t748 t749 _ A7.out).mono ?_
  rintro e w72 ⟨rfl, hb⟩
  refine ⟨_, rfl, ?_⟩
  replace BK730 := bB BK730 hb
  replace BK731 := bB BK731 hb
  replace BK732 := bB BK732 hb
  replace HB := bW HB hb
  (try clear hb)
  (try clear hb2)
  (try clear hk)
  (try clear hi)
  refine hK.out _ _ (bn8 BK730 (bn8 BK731 (be8 BK732))) (fun hHeld => ?_)
  clear hK K
  refine norm_ (a' := ?_) ?_ ?_
  rotate_left
  ·show Act.put _ (some 17) _ = _
   simp only [Act.put, List.setIfInBounds_toArray, List.set_cons_zero, List.set_cons_succ, i64_w, i32_w]
   rfl
  refine oA 5 (some 19) HT_ (fun K hK => ?_)
  refine goes_ Try.func27 (by kernel_rfl) rfl #[.agg #[.string a2_0, .int .i64 a2_1, .float .f64 a2_2, .string a2_3, .int .i64 a2_4, .int .i64 a2_5, .float .f64 a2_6, .string a2_7]] (by rfl) rfl rfl (by (try simp only [List.map_toArray, List.map_cons, List.map_nil]); first | done | rfl | (simp only [List.length_drop, List.length_take]; rfl)) ?_
  with_reducible refine (engrosslaw10_Cut.calls a2_0 a2_1 a2_2 a2_3 a2_4 a2_5 a2_6 a2_7 t750 t751 t752 t753 t754 t755 t756 t757 _ A8.out).mono ?_
  rintro e w73 ⟨rfl, hb⟩
  refine ⟨_, rfl, ?_⟩
  replace BK730 := bB BK730 hb
  replace BK731 := bB BK731 hb
  replace BK732 := bB BK732 hb
  replace HB := bW HB hb
  (try clear hb)
  (try clear hb2)
  (try clear hk)
  (try clear hi)
  refine hK.out _ _ (bn8 BK730 (bn8 BK731 (be8 BK732))) (fun hHeld => ?_)
  clear hK K
  refine norm_ (a' := ?_) ?_ ?_
  rotate_left
  ·show Act.put _ (some 19) _ = _
   simp only [Act.put, List.setIfInBounds_toArray, List.set_cons_zero, List.set_cons_succ, i64_w, i32_w]
   rfl
  refine last_ (i := 6) (N := none) #[true,true,true,true,true,true,true,false,false] rfl rfl (one_of HT_.out (by kernel_rfl)) (by decide) (fun K hK => ?_)
  have hs74 : w73.cell? ⟨gb730, 0, none⟩ = some (.string a0_0) := (blk_cell BK730.out 0).trans rfl
  have hfs74 := blk_frozen BK730.out 0
  have hns74_1 := NB731_730.out
  have hns74_2 := NB732_730.out
  have hms74_1 := NB730_731.out
  have hms74_2 := NB730_732.out
  have hs75 : w73.cell? ⟨gb730, 1, none⟩ = some (.int .i64 a0_1) := (blk_cell BK730.out 1).trans rfl
  have hfs75 := blk_frozen BK730.out 1
  have hns75_1 := NB731_730.out
  have hns75_2 := NB732_730.out
  have hms75_1 := NB730_731.out
  have hms75_2 := NB730_732.out
  have hs76 : w73.cell? ⟨gb730, 2, none⟩ = some (.float .f64 a0_2) := (blk_cell BK730.out 2).trans rfl
  have hfs76 := blk_frozen BK730.out 2
  have hns76_1 := NB731_730.out
  have hns76_2 := NB732_730.out
  have hms76_1 := NB730_731.out
  have hms76_2 := NB730_732.out
  have hs77 : w73.cell? ⟨gb730, 3, none⟩ = some (.string a0_3) := (blk_cell BK730.out 3).trans rfl
  have hfs77 := blk_frozen BK730.out 3
  have hns77_1 := NB731_730.out
  have hns77_2 := NB732_730.out
  have hms77_1 := NB730_731.out
  have hms77_2 := NB730_732.out
  have hs78 : w73.cell? ⟨gb730, 4, none⟩ = some (.int .i64 a0_4) := (blk_cell BK730.out 4).trans rfl
  have hfs78 := blk_frozen BK730.out 4
  have hns78_1 := NB731_730.out
  have hns78_2 := NB732_730.out
  have hms78_1 := NB730_731.out
  have hms78_2 := NB730_732.out
  have hs79 : w73.cell? ⟨gb730, 5, none⟩ = some (.int .i64 a0_5) := (blk_cell BK730.out 5).trans rfl
  have hfs79 := blk_frozen BK730.out 5
  have hns79_1 := NB731_730.out
  have hns79_2 := NB732_730.out
  have hms79_1 := NB730_731.out
  have hms79_2 := NB730_732.out
  have hs80 : w73.cell? ⟨gb730, 6, none⟩ = some (.float .f64 a0_6) := (blk_cell BK730.out 6).trans rfl
  have hfs80 := blk_frozen BK730.out 6
  have hns80_1 := NB731_730.out
  have hns80_2 := NB732_730.out
  have hms80_1 := NB730_731.out
  have hms80_2 := NB730_732.out
  have hs81 : w73.cell? ⟨gb730, 7, none⟩ = some (.string a0_7) := (blk_cell BK730.out 7).trans rfl
  have hfs81 := blk_frozen BK730.out 7
  have hns81_1 := NB731_730.out
  have hns81_2 := NB732_730.out
  have hms81_1 := NB730_731.out
  have hms81_2 := NB730_732.out
  with_reducible refine skip_ (w1 := ?_) (by with_unfolding_all rfl) (by with_unfolding_all rfl) ?_ ?_
  rotate_left
  ·go_simp
   rfl
  refine hK.out _ _ ?_
  clear hK K
  refine last_ (i := 7) (N := none) #[true,true,true,true,true,true,true,true,false] rfl rfl (one_of HT_.out (by kernel_rfl)) (by decide) (fun K hK => ?_)
  have hs82 : w73.cell? ⟨gb731, 0, none⟩ = some (.string a1_0) := (blk_cell BK731.out 0).trans rfl
  have hfs82 := blk_frozen BK731.out 0
  have hns82_0 := NB730_731.out
  have hns82_2 := NB732_731.out
  have hms82_0 := NB731_730.out
  have hms82_2 := NB731_732.out
  have hs83 : w73.cell? ⟨gb731, 1, none⟩ = some (.int .i64 a1_1) := (blk_cell BK731.out 1).trans rfl
  have hfs83 := blk_frozen BK731.out 1
  have hns83_0 := NB730_731.out
  have hns83_2 := NB732_731.out
  have hms83_0 := NB731_730.out
  have hms83_2 := NB731_732.out
  have hs84 : w73.cell? ⟨gb731, 2, none⟩ = some (.float .f64 a1_2) := (blk_cell BK731.out 2).trans rfl
  have hfs84 := blk_frozen BK731.out 2
  have hns84_0 := NB730_731.out
  have hns84_2 := NB732_731.out
  have hms84_0 := NB731_730.out
  have hms84_2 := NB731_732.out
  have hs85 : w73.cell? ⟨gb731, 3, none⟩ = some (.string a1_3) := (blk_cell BK731.out 3).trans rfl
  have hfs85 := blk_frozen BK731.out 3
  have hns85_0 := NB730_731.out
  have hns85_2 := NB732_731.out
  have hms85_0 := NB731_730.out
  have hms85_2 := NB731_732.out
  have hs86 : w73.cell? ⟨gb731, 4, none⟩ = some (.int .i64 a1_4) := (blk_cell BK731.out 4).trans rfl
  have hfs86 := blk_frozen BK731.out 4
  have hns86_0 := NB730_731.out
  have hns86_2 := NB732_731.out
  have hms86_0 := NB731_730.out
  have hms86_2 := NB731_732.out
  have hs87 : w73.cell? ⟨gb731, 5, none⟩ = some (.int .i64 a1_5) := (blk_cell BK731.out 5).trans rfl
  have hfs87 := blk_frozen BK731.out 5
  have hns87_0 := NB730_731.out
  have hns87_2 := NB732_731.out
  have hms87_0 := NB731_730.out
  have hms87_2 := NB731_732.out
  have hs88 : w73.cell? ⟨gb731, 6, none⟩ = some (.float .f64 a1_6) := (blk_cell BK731.out 6).trans rfl
  have hfs88 := blk_frozen BK731.out 6
  have hns88_0 := NB730_731.out
  have hns88_2 := NB732_731.out
  have hms88_0 := NB731_730.out
  have hms88_2 := NB731_732.out
  have hs89 : w73.cell? ⟨gb731, 7, none⟩ = some (.string a1_7) := (blk_cell BK731.out 7).trans rfl
  have hfs89 := blk_frozen BK731.out 7
  have hns89_0 := NB730_731.out
  have hns89_2 := NB732_731.out
  have hms89_0 := NB731_730.out
  have hms89_2 := NB731_732.out
  with_reducible refine skip_ (w1 := ?_) (by with_unfolding_all rfl) (by with_unfolding_all rfl) ?_ ?_
  rotate_left
  ·go_simp
   rfl
  refine hK.out _ _ ?_
  clear hK K
  refine last_ (i := 8) (N := none) #[true,true,true,true,true,true,true,true,true] rfl rfl (one_of HT_.out (by kernel_rfl)) (by decide) (fun K hK => ?_)
  have hs90 : w73.cell? ⟨gb732, 0, none⟩ = some (.string a2_0) := (blk_cell BK732.out 0).trans rfl
  have hfs90 := blk_frozen BK732.out 0
  have hns90_0 := NB730_732.out
  have hns90_1 := NB731_732.out
  have hms90_0 := NB732_730.out
  have hms90_1 := NB732_731.out
  have hs91 : w73.cell? ⟨gb732, 1, none⟩ = some (.int .i64 a2_1) := (blk_cell BK732.out 1).trans rfl
  have hfs91 := blk_frozen BK732.out 1
  have hns91_0 := NB730_732.out
  have hns91_1 := NB731_732.out
  have hms91_0 := NB732_730.out
  have hms91_1 := NB732_731.out
  have hs92 : w73.cell? ⟨gb732, 2, none⟩ = some (.float .f64 a2_2) := (blk_cell BK732.out 2).trans rfl
  have hfs92 := blk_frozen BK732.out 2
  have hns92_0 := NB730_732.out
  have hns92_1 := NB731_732.out
  have hms92_0 := NB732_730.out
  have hms92_1 := NB732_731.out
  have hs93 : w73.cell? ⟨gb732, 3, none⟩ = some (.string a2_3) := (blk_cell BK732.out 3).trans rfl
  have hfs93 := blk_frozen BK732.out 3
  have hns93_0 := NB730_732.out
  have hns93_1 := NB731_732.out
  have hms93_0 := NB732_730.out
  have hms93_1 := NB732_731.out
  have hs94 : w73.cell? ⟨gb732, 4, none⟩ = some (.int .i64 a2_4) := (blk_cell BK732.out 4).trans rfl
  have hfs94 := blk_frozen BK732.out 4
  have hns94_0 := NB730_732.out
  have hns94_1 := NB731_732.out
  have hms94_0 := NB732_730.out
  have hms94_1 := NB732_731.out
  have hs95 : w73.cell? ⟨gb732, 5, none⟩ = some (.int .i64 a2_5) := (blk_cell BK732.out 5).trans rfl
  have hfs95 := blk_frozen BK732.out 5
  have hns95_0 := NB730_732.out
  have hns95_1 := NB731_732.out
  have hms95_0 := NB732_730.out
  have hms95_1 := NB732_731.out
  have hs96 : w73.cell? ⟨gb732, 6, none⟩ = some (.float .f64 a2_6) := (blk_cell BK732.out 6).trans rfl
  have hfs96 := blk_frozen BK732.out 6
  have hns96_0 := NB730_732.out
  have hns96_1 := NB731_732.out
  have hms96_0 := NB732_730.out
  have hms96_1 := NB732_731.out
  have hs97 : w73.cell? ⟨gb732, 7, none⟩ = some (.string a2_7) := (blk_cell BK732.out 7).trans rfl
  have hfs97 := blk_frozen BK732.out 7
  have hns97_0 := NB730_732.out
  have hns97_1 := NB731_732.out
  have hms97_0 := NB732_730.out
  have hms97_1 := NB732_731.out
  with_reducible refine skip_ (w1 := ?_) (by with_unfolding_all rfl) (by with_unfolding_all rfl) ?_ ?_
  rotate_left
  ·go_simp
   rfl
  refine hK.out _ _ ?_
  clear hK K
  refine done_ (done_of HT_.out (by kernel_rfl)) ?_
  have hnb98 := NB730_731.out
  have hnc98 := NB731_730.out
  have hnb99 := NB730_732.out
  have hnc99 := NB732_730.out
  obtain ⟨hcz100_0, hcz100_1, hcz100_2, hcz100_3, hcz100_4, hcz100_5, hcz100_6, hcz100_7, hfz100_0, hfz100_1, hfz100_2, hfz100_3, hfz100_4, hfz100_5, hfz100_6, hfz100_7⟩ := bf8 (w := w73) BK730
  have hnb101 := NB731_732.out
  have hnc101 := NB732_731.out
  obtain ⟨hcz102_0, hcz102_1, hcz102_2, hcz102_3, hcz102_4, hcz102_5, hcz102_6, hcz102_7, hfz102_0, hfz102_1, hfz102_2, hfz102_3, hfz102_4, hfz102_5, hfz102_6, hfz102_7⟩ := bf8 (w := w73) BK731
  obtain ⟨hcz103_0, hcz103_1, hcz103_2, hcz103_3, hcz103_4, hcz103_5, hcz103_6, hcz103_7, hfz103_0, hfz103_1, hfz103_2, hfz103_3, hfz103_4, hfz103_5, hfz103_6, hfz103_7⟩ := bf8 (w := w73) BK732
  try go_wp2_with (first | ((with_reducible refine gate_dst (N := 23) rfl ?_); refine Kd.R_lit k56 _ 56 ?hg (N := 23) ?hd (xs := ([(⟨t734, (⟨t735, t736, t737⟩ : S54), t738, (⟨t739, t740, t741⟩ : S54)⟩ : S56), (⟨t742, (⟨t743, t744, t745⟩ : S54), t746, (⟨t747, t748, t749⟩ : S54)⟩ : S56), (⟨t750, (⟨t751, t752, t753⟩ : S54), t754, (⟨t755, t756, t757⟩ : S54)⟩ : S56)] : List (S56))) (inner := [.string t734, .int .i64 t735, .float .f64 t736, .string t737, .int .i64 t738, .int .i64 t739, .float .f64 t740, .string t741, .string t742, .int .i64 t743, .float .f64 t744, .string t745, .int .i64 t746, .int .i64 t747, .float .f64 t748, .string t749, .string t750, .int .i64 t751, .float .f64 t752, .string t753, .int .i64 t754, .int .i64 t755, .float .f64 t756, .string t757]) (ok := fun _ => True) (okp := fun _ => True) ?hr ?hp (fun _ hk => hk) trivial (Below.refl _ _) (Nat.le_refl _) (by simp) ?_; (case hd => rfl); (case hg => rfl); (case hr => first | (go_simp; done) | (go_simp; rfl)); (case hp => exact (Reps.c8 (show Kd.M k56 _ _ _ (⟨t734, (⟨t735, t736, t737⟩ : S54), t738, (⟨t739, t740, t741⟩ : S54)⟩ : S56) [.string t734, .int .i64 t735, .float .f64 t736, .string t737, .int .i64 t738, .int .i64 t739, .float .f64 t740, .string t741] from (k56_mkM _ _ _ (⟨t734, (⟨t735, t736, t737⟩ : S54), t738, (⟨t739, t740, t741⟩ : S54)⟩ : S56) )) (Reps.c8 (show Kd.M k56 _ _ _ (⟨t742, (⟨t743, t744, t745⟩ : S54), t746, (⟨t747, t748, t749⟩ : S54)⟩ : S56) [.string t742, .int .i64 t743, .float .f64 t744, .string t745, .int .i64 t746, .int .i64 t747, .float .f64 t748, .string t749] from (k56_mkM _ _ _ (⟨t742, (⟨t743, t744, t745⟩ : S54), t746, (⟨t747, t748, t749⟩ : S54)⟩ : S56) )) (Reps.c8 (show Kd.M k56 _ _ _ (⟨t750, (⟨t751, t752, t753⟩ : S54), t754, (⟨t755, t756, t757⟩ : S54)⟩ : S56) [.string t750, .int .i64 t751, .float .f64 t752, .string t753, .int .i64 t754, .int .i64 t755, .float .f64 t756, .string t757] from (k56_mkM _ _ _ (⟨t750, (⟨t751, t752, t753⟩ : S54), t754, (⟨t755, t756, t757⟩ : S54)⟩ : S56) )) (Reps.none _ _))))); intro v759 w104 ho105 hb hg_ hnew_; clear hg_ hnew_; (first | rw [← Ny758.out] at ho105 | (simp only [Int.reduceToNat] at ho105; rw [← Ny758.out] at ho105)); have HO760 := Aside0.mk (Kd.R_lower (Kd.R_newB (Kd.R_newB (Kd.R_newB ho105 (g := gb730) (o := .cells #[.string t734, .int .i64 t735, .float .f64 t736, .string t737, .int .i64 t738, .int .i64 t739, .float .f64 t740, .string t741] 56 (0, 0)) (bR BK730)) (g := gb731) (o := .cells #[.string t742, .int .i64 t743, .float .f64 t744, .string t745, .int .i64 t746, .int .i64 t747, .float .f64 t748, .string t749] 56 (0, 0)) (bR BK731)) (g := gb732) (o := .cells #[.string t750, .int .i64 t751, .float .f64 t752, .string t753, .int .i64 t754, .int .i64 t755, .float .f64 t756, .string t757] 56 (0, 0)) (bR BK732)) (below_size (bC HB))); replace BK730 := Aside0.mk (blk_below (g := gb730) (o := .cells #[.string t734, .int .i64 t735, .float .f64 t736, .string t737, .int .i64 t738, .int .i64 t739, .float .f64 t740, .string t741] 56 (0, 0)) (bR BK730) hb); replace BK731 := Aside0.mk (blk_below (g := gb731) (o := .cells #[.string t742, .int .i64 t743, .float .f64 t744, .string t745, .int .i64 t746, .int .i64 t747, .float .f64 t748, .string t749] 56 (0, 0)) (bR BK731) hb); replace BK732 := Aside0.mk (blk_below (g := gb732) (o := .cells #[.string t750, .int .i64 t751, .float .f64 t752, .string t753, .int .i64 t754, .int .i64 t755, .float .f64 t756, .string t757] 56 (0, 0)) (bR BK732) hb); replace HB := bW HB hb; clear hb ho105; obtain ⟨Ao106, co106, eo106⟩ := Kd.R_slice HO760.out; subst eo106) | ((with_reducible refine gate_dst (N := 8) rfl ?_); refine box_event ?hg (N := 8) ?hd (cs := #[.bool false, .slice none 0 0, .slice none 0 0, .slice none 0 0]) (t := 26) ?hr ?_; (case hd => rfl); (case hg => rfl); (case hr => first | (go_simp; done) | (go_simp; rfl)); intro gb761 hg w107 hbox hb; have BK761 := Aside0.mk (hbox); have GW761 := bZ HB hg; have GE761 := bZ HB hg; have NB730_761 := bL BK730 hg; have NB761_730 := bG BK730 hg; have NB731_761 := bL BK731 hg; have NB761_731 := bG BK731 hg; have NB732_761 := bL BK732 hg; have NB761_732 := bG BK732 hg; replace HO760 := rB HO760 hb; replace BK730 := bB BK730 hb; replace BK731 := bB BK731 hb; replace BK732 := bB BK732 hb; replace HB := bW HB hb; clear hb hbox hg; have hnb108 := NB761_730.out; have hnc108 := NB730_761.out; have hnb109 := NB761_731.out; have hnc109 := NB731_761.out; have hnb110 := NB761_732.out; have hnc110 := NB732_761.out; obtain ⟨hcz111_0, hcz111_1, hcz111_2, hcz111_3, hfz111_0, hfz111_1, hfz111_2, hfz111_3⟩ := bf4 (w := w107) BK761) | (go_at_call 15; refine calls_of_args (args' := #[.agg #[.bool true, .slice Ao106 y758.length co106, .slice none ([] : List ByteArray).length 0, .slice none ([] : List Int).length 0]]) (by first | rfl | ((try simp only [List.map_toArray, List.map_cons, List.map_nil]); rfl)) ?_; (with_reducible refine (engrossref10_MayNode.calls k true _ _ y758 _ _ ([] : List ByteArray) _ _ ([] : List Int) false _ ?side1 ?side2 ?side3 ?side4 ?side5 ?side6 A9.out).mono ?_); (case side1 => refine (Kd.R_reads' (e := 56) (base := w.heap.size) (ok := fun k_ => (((True ∧ k_ ≠ gb730) ∧ k_ ≠ gb731) ∧ k_ ≠ gb732)) (n := y758.length) (c := co106) ?_).2.2; exact (by (with_reducible repeat (first | apply Kd.R_alloc | apply Kd.R_drewN | apply Kd.R_drew)); exact (Kd.R_mono (Kd.R_far (p := ⟨gb761, 3, none⟩) (Kd.R_far (p := ⟨gb761, 2, none⟩) (Kd.R_far (p := ⟨gb761, 1, none⟩) (Kd.R_far (p := ⟨gb761, 0, none⟩) (Kd.R_types HO760.out BK761.out (by decide)) (fun _ hk => hk.2) (.bool true)) (fun _ hk => hk.2) (.slice Ao106 y758.length co106)) (fun _ hk => hk.2) (.slice none 0 0)) (fun _ hk => hk.2) (.slice none 0 0)) (fun _ h_ => h_.1)))); (case side2 => exact (Kd.R_reads' HO760.out).2.1); (case side3 => exact Kd.C_nil _ _); (case side4 => exact Nat.le_refl _); (case side5 => exact Kd.C_nil _ _); (case side6 => exact Nat.le_refl _); rintro e w112 ⟨rfl, hb⟩; replace HO760 := Aside0.mk (Kd.R_below (by (with_reducible repeat (first | apply Kd.R_alloc | apply Kd.R_drewN | apply Kd.R_drew)); exact (Kd.R_mono (Kd.R_far (p := ⟨gb761, 3, none⟩) (Kd.R_far (p := ⟨gb761, 2, none⟩) (Kd.R_far (p := ⟨gb761, 1, none⟩) (Kd.R_far (p := ⟨gb761, 0, none⟩) (Kd.R_types HO760.out BK761.out (by decide)) (fun _ hk => hk.2) (.bool true)) (fun _ hk => hk.2) (.slice Ao106 y758.length co106)) (fun _ hk => hk.2) (.slice none 0 0)) (fun _ hk => hk.2) (.slice none 0 0)) (fun _ h_ => h_.1))) hb); replace BK730 := bB BK730 hb; replace BK731 := bB BK731 hb; replace BK732 := bB BK732 hb; replace BK761 := Aside0.mk (blk_below (g := gb761) (o := .cells #[.bool true, .slice Ao106 y758.length co106, .slice none 0 0, .slice none 0 0] 26 (0, 0)) (bR BK761) hb); replace HB := bW HB hb; (try clear hb); (try clear hb2); (try clear hk); (try clear hi)))
  go_ret
  exact xB HB
 subst c10
 have H1 : ((engrosslaw11_Of.f k true y758 ([] : List ByteArray) ([] : List Int)).bind fun bt763 => ((node_Encode.f k bt763.1 bt763.2.1 bt763.2.2.1 bt763.2.2.2).bind fun bt773 => (some (bt773.2 == 0)))) = some r := by rw [if_pos rfl] at H; exact H
 clear H
 have H := H1
 clear H1
 replace H := Option.bind_eq_some_iff.mp H
 obtain ⟨⟨t763, t764, t767, t770⟩, A110, H⟩ := H
 replace H : ((node_Encode.f k t763 t764 t767 t770).bind fun bt773 => (some (bt773.2 == 0))) = some r := H
 have A11 := Aside0.mk A110
 clear A110
 replace H := Option.bind_eq_some_iff.mp H
 obtain ⟨⟨t773, t776⟩, A120, H⟩ := H
 replace H : (some (t776 == 0)) = some r := H
 have A12 := Aside0.mk A120
 clear A120
 obtain rfl := Option.some.inj H
 go_enter Try.func5, Try.ntmps5
 try go_wp2_with (first | ((with_reducible refine gate_dst (N := 3) rfl ?_); refine box_event ?hg (N := 3) ?hd (cs := #[.string a0_0, .int .i64 a0_1, .float .f64 a0_2, .string a0_3, .int .i64 a0_4, .int .i64 a0_5, .float .f64 a0_6, .string a0_7]) (t := 56) ?hr ?_; (case hd => rfl); (case hg => rfl); (case hr => first | (go_simp; done) | (go_simp; rfl)); intro gb730 hg w13 hbox hb; have BK730 := Aside0.mk (hbox); have GW730 := bZ HB hg; have GE730 := bZ HB hg; replace HB := bW HB hb; clear hb hbox hg) | ((with_reducible refine gate_dst (N := 4) rfl ?_); refine box_event ?hg (N := 4) ?hd (cs := #[.string a1_0, .int .i64 a1_1, .float .f64 a1_2, .string a1_3, .int .i64 a1_4, .int .i64 a1_5, .float .f64 a1_6, .string a1_7]) (t := 56) ?hr ?_; (case hd => rfl); (case hg => rfl); (case hr => first | (go_simp; done) | (go_simp; rfl)); intro gb731 hg w14 hbox hb; have BK731 := Aside0.mk (hbox); have GW731 := bZ HB hg; have GE731 := bZ HB hg; have NB730_731 := bL BK730 hg; have NB731_730 := bG BK730 hg; replace BK730 := bB BK730 hb; replace HB := bW HB hb; clear hb hbox hg) | ((with_reducible refine gate_dst (N := 5) rfl ?_); refine box_event ?hg (N := 5) ?hd (cs := #[.string a2_0, .int .i64 a2_1, .float .f64 a2_2, .string a2_3, .int .i64 a2_4, .int .i64 a2_5, .float .f64 a2_6, .string a2_7]) (t := 56) ?hr ?_; (case hd => rfl); (case hg => rfl); (case hr => first | (go_simp; done) | (go_simp; rfl)); intro gb732 hg w15 hbox hb; have BK732 := Aside0.mk (hbox); have GW732 := bZ HB hg; have GE732 := bZ HB hg; have NB730_732 := bL BK730 hg; have NB732_730 := bG BK730 hg; have NB731_732 := bL BK731 hg; have NB732_731 := bG BK731 hg; replace BK730 := bB BK730 hb; replace BK731 := bB BK731 hb; replace HB := bW HB hb; clear hb hbox hg) | ((with_reducible refine gate_callee (f := 11) rfl ?_); refine gL (some 11) Try.func11 #[] ?_; (with_reducible refine (engrosslaw11_begun.calls k  true _ A4.out).mono ?_); rintro e w16 ⟨rfl, hb⟩; refine ⟨_, rfl, ?_⟩; replace BK730 := bB BK730 hb; replace BK731 := bB BK731 hb; replace BK732 := bB BK732 hb; replace HB := bW HB hb; (try clear hb); (try clear hb2); (try clear hk); (try clear hi)))
 replace BK730 := Aside0.mk (blk_drew BK730.out)
 replace BK731 := Aside0.mk (blk_drew BK731.out)
 replace BK732 := Aside0.mk (blk_drew BK732.out)
 replace HB := Aside0.mk (below_drew1 HB.out)
 refine start_ (n := 9) (S := fun w' => w'.cell? ⟨gb730, 0, none⟩ = some (.string a0_0) ∧ w'.cell? ⟨gb730, 1, none⟩ = some (.int .i64 a0_1) ∧ w'.cell? ⟨gb730, 2, none⟩ = some (.float .f64 a0_2) ∧ w'.cell? ⟨gb730, 3, none⟩ = some (.string a0_3) ∧ w'.cell? ⟨gb730, 4, none⟩ = some (.int .i64 a0_4) ∧ w'.cell? ⟨gb730, 5, none⟩ = some (.int .i64 a0_5) ∧ w'.cell? ⟨gb730, 6, none⟩ = some (.float .f64 a0_6) ∧ w'.cell? ⟨gb730, 7, none⟩ = some (.string a0_7) ∧ w'.cell? ⟨gb731, 0, none⟩ = some (.string a1_0) ∧ w'.cell? ⟨gb731, 1, none⟩ = some (.int .i64 a1_1) ∧ w'.cell? ⟨gb731, 2, none⟩ = some (.float .f64 a1_2) ∧ w'.cell? ⟨gb731, 3, none⟩ = some (.string a1_3) ∧ w'.cell? ⟨gb731, 4, none⟩ = some (.int .i64 a1_4) ∧ w'.cell? ⟨gb731, 5, none⟩ = some (.int .i64 a1_5) ∧ w'.cell? ⟨gb731, 6, none⟩ = some (.float .f64 a1_6) ∧ w'.cell? ⟨gb731, 7, none⟩ = some (.string a1_7) ∧ w'.cell? ⟨gb732, 0, none⟩ = some (.string a2_0) ∧ w'.cell? ⟨gb732, 1, none⟩ = some (.int .i64 a2_1) ∧ w'.cell? ⟨gb732, 2, none⟩ = some (.float .f64 a2_2) ∧ w'.cell? ⟨gb732, 3, none⟩ = some (.string a2_3) ∧ w'.cell? ⟨gb732, 4, none⟩ = some (.int .i64 a2_4) ∧ w'.cell? ⟨gb732, 5, none⟩ = some (.int .i64 a2_5) ∧ w'.cell? ⟨gb732, 6, none⟩ = some (.float .f64 a2_6) ∧ w'.cell? ⟨gb732, 7, none⟩ = some (.string a2_7)) (ds := [6, 7, 8]) #[false,false,false,false,false,false,false,false,false] (by kernel_rfl) rfl rfl (bn8 BK730 (bn8 BK731 (be8 BK732))) (fun hHeld => ?_); refine with_tabW engrosslaw11_NodeThree.tab4 engrosslaw11_NodeThree.bits4 (fun HT_ HW_ => ?_)
 generalize w16.drew = w17 at BK730 BK731 BK732 HB hHeld ⊢
 refine tA 0 14 HT_ HW_ hHeld ?_ (hy := by rintro w' ⟨s0, s1, s2, s3, s4, s5, s6, s7, s8, s9, s10, s11, s12, s13, s14, s15, s16, s17, s18, s19, s20, s21, s22, s23⟩; go_simp; with_reducible rfl)
 refine tA 2 16 HT_ HW_ hHeld ?_ (hy := by rintro w' ⟨s0, s1, s2, s3, s4, s5, s6, s7, s8, s9, s10, s11, s12, s13, s14, s15, s16, s17, s18, s19, s20, s21, s22, s23⟩; go_simp; with_reducible rfl)
 refine tA 4 18 HT_ HW_ hHeld ?_ (hy := by rintro w' ⟨s0, s1, s2, s3, s4, s5, s6, s7, s8, s9, s10, s11, s12, s13, s14, s15, s16, s17, s18, s19, s20, s21, s22, s23⟩; go_simp; with_reducible rfl)
 refine oA 1 (some 15) HT_ (fun K hK => ?_)
 refine goes_ Try.func27 (by kernel_rfl) rfl #[.agg #[.string a0_0, .int .i64 a0_1, .float .f64 a0_2, .string a0_3, .int .i64 a0_4, .int .i64 a0_5, .float .f64 a0_6, .string a0_7]] (by rfl) rfl rfl (by (try simp only [List.map_toArray, List.map_cons, List.map_nil]); first | done | rfl | (simp only [List.length_drop, List.length_take]; rfl)) ?_
 with_reducible refine (engrosslaw10_Cut.calls a0_0 a0_1 a0_2 a0_3 a0_4 a0_5 a0_6 a0_7 t734 t735 t736 t737 t738 t739 t740 t741 _ A6.out).mono ?_
 rintro e w18 ⟨rfl, hb⟩
 refine ⟨_, rfl, ?_⟩
 replace BK730 := bB BK730 hb
 replace BK731 := bB BK731 hb
 replace BK732 := bB BK732 hb
 replace HB := bW HB hb
 (try clear hb)
 (try clear hb2)
 (try clear hk)
 (try clear hi)
 refine hK.out _ _ (bn8 BK730 (bn8 BK731 (be8 BK732))) (fun hHeld => ?_)
 clear hK K
 refine norm_ (a' := ?_) ?_ ?_
 rotate_left
 ·show Act.put _ (some 15) _ = _
  simp only [Act.put, List.setIfInBounds_toArray, List.set_cons_zero, List.set_cons_succ, i64_w, i32_w]
  rfl
 refine oA 3 (some 17) HT_ (fun K hK => ?_)
 refine goes_ Try.func27 (by kernel_rfl) rfl #[.agg #[.string a1_0, .int .i64 a1_1, .float .f64 a1_2, .string a1_3, .int .i64 a1_4, .int .i64 a1_5, .float .f64 a1_6, .string a1_7]] (by rfl) rfl rfl (by (try simp only [List.map_toArray, List.map_cons, List.map_nil]); first | done | rfl | (simp only [List.length_drop, List.length_take]; rfl)) ?_
 with_reducible refine (engrosslaw10_Cut.calls a1_0 a1_1 a1_2 a1_3 a1_4 a1_5 a1_6 a1_7 t742 t743 t744 t745 t746 t747 t748 t749 _ A7.out).mono ?_
 rintro e w19 ⟨rfl, hb⟩
 refine ⟨_, rfl, ?_⟩
 replace BK730 := bB BK730 hb
 replace BK731 := bB BK731 hb
 replace BK732 := bB BK732 hb
 replace HB := bW HB hb
 (try clear hb)
 (try clear hb2)
 (try clear hk)
 (try clear hi)
 refine hK.out _ _ (bn8 BK730 (bn8 BK731 (be8 BK732))) (fun hHeld => ?_)
 clear hK K
 refine norm_ (a' := ?_) ?_ ?_
 rotate_left
 ·show Act.put _ (some 17) _ = _
  simp only [Act.put, List.setIfInBounds_toArray, List.set_cons_zero, List.set_cons_succ, i64_w, i32_w]
  rfl
 refine oA 5 (some 19) HT_ (fun K hK => ?_)
 refine goes_ Try.func27 (by kernel_rfl) rfl #[.agg #[.string a2_0, .int .i64 a2_1, .float .f64 a2_2, .string a2_3, .int .i64 a2_4, .int .i64 a2_5, .float .f64 a2_6, .string a2_7]] (by rfl) rfl rfl (by (try simp only [List.map_toArray, List.map_cons, List.map_nil]); first | done | rfl | (simp only [List.length_drop, List.length_take]; rfl)) ?_
 with_reducible refine (engrosslaw10_Cut.calls a2_0 a2_1 a2_2 a2_3 a2_4 a2_5 a2_6 a2_7 t750 t751 t752 t753 t754 t755 t756 t757 _ A8.out).mono ?_
 rintro e w20 ⟨rfl, hb⟩
 refine ⟨_, rfl, ?_⟩
 replace BK730 := bB BK730 hb
 replace BK731 := bB BK731 hb
 replace BK732 := bB BK732 hb
 replace HB := bW HB hb
 (try clear hb)
 (try clear hb2)
 (try clear hk)
 (try clear hi)
 refine hK.out _ _ (bn8 BK730 (bn8 BK731 (be8 BK732))) (fun hHeld => ?_)
 clear hK K
 refine norm_ (a' := ?_) ?_ ?_
 rotate_left
 ·show Act.put _ (some 19) _ = _
  simp only [Act.put, List.setIfInBounds_toArray, List.set_cons_zero, List.set_cons_succ, i64_w, i32_w]
  rfl
 refine last_ (i := 6) (N := none) #[true,true,true,true,true,true,true,false,false] rfl rfl (one_of HT_.out (by kernel_rfl)) (by decide) (fun K hK => ?_)
 have hs21 : w20.cell? ⟨gb730, 0, none⟩ = some (.string a0_0) := (blk_cell BK730.out 0).trans rfl
 have hfs21 := blk_frozen BK730.out 0
 have hns21_1 := NB731_730.out
 have hns21_2 := NB732_730.out
 have hms21_1 := NB730_731.out
 have hms21_2 := NB730_732.out
 have hs22 : w20.cell? ⟨gb730, 1, none⟩ = some (.int .i64 a0_1) := (blk_cell BK730.out 1).trans rfl
 have hfs22 := blk_frozen BK730.out 1
 have hns22_1 := NB731_730.out
 have hns22_2 := NB732_730.out
 have hms22_1 := NB730_731.out
 have hms22_2 := NB730_732.out
 have hs23 : w20.cell? ⟨gb730, 2, none⟩ = some (.float .f64 a0_2) := (blk_cell BK730.out 2).trans rfl
 have hfs23 := blk_frozen BK730.out 2
 have hns23_1 := NB731_730.out
 have hns23_2 := NB732_730.out
 have hms23_1 := NB730_731.out
 have hms23_2 := NB730_732.out
 have hs24 : w20.cell? ⟨gb730, 3, none⟩ = some (.string a0_3) := (blk_cell BK730.out 3).trans rfl
 have hfs24 := blk_frozen BK730.out 3
 have hns24_1 := NB731_730.out
 have hns24_2 := NB732_730.out
 have hms24_1 := NB730_731.out
 have hms24_2 := NB730_732.out
 have hs25 : w20.cell? ⟨gb730, 4, none⟩ = some (.int .i64 a0_4) := (blk_cell BK730.out 4).trans rfl
 have hfs25 := blk_frozen BK730.out 4
 have hns25_1 := NB731_730.out
 have hns25_2 := NB732_730.out
 have hms25_1 := NB730_731.out
 have hms25_2 := NB730_732.out
 have hs26 : w20.cell? ⟨gb730, 5, none⟩ = some (.int .i64 a0_5) := (blk_cell BK730.out 5).trans rfl
 have hfs26 := blk_frozen BK730.out 5
 have hns26_1 := NB731_730.out
 have hns26_2 := NB732_730.out
 have hms26_1 := NB730_731.out
 have hms26_2 := NB730_732.out
 have hs27 : w20.cell? ⟨gb730, 6, none⟩ = some (.float .f64 a0_6) := (blk_cell BK730.out 6).trans rfl
 have hfs27 := blk_frozen BK730.out 6
 have hns27_1 := NB731_730.out
 have hns27_2 := NB732_730.out
 have hms27_1 := NB730_731.out
 have hms27_2 := NB730_732.out
 have hs28 : w20.cell? ⟨gb730, 7, none⟩ = some (.string a0_7) := (blk_cell BK730.out 7).trans rfl
 have hfs28 := blk_frozen BK730.out 7
 have hns28_1 := NB731_730.out
 have hns28_2 := NB732_730.out
 have hms28_1 := NB730_731.out
 have hms28_2 := NB730_732.out
 with_reducible refine skip_ (w1 := ?_) (by with_unfolding_all rfl) (by with_unfolding_all rfl) ?_ ?_
 rotate_left
 ·go_simp
  rfl
 refine hK.out _ _ ?_
 clear hK K
 refine last_ (i := 7) (N := none) #[true,true,true,true,true,true,true,true,false] rfl rfl (one_of HT_.out (by kernel_rfl)) (by decide) (fun K hK => ?_)
 have hs29 : w20.cell? ⟨gb731, 0, none⟩ = some (.string a1_0) := (blk_cell BK731.out 0).trans rfl
 have hfs29 := blk_frozen BK731.out 0
 have hns29_0 := NB730_731.out
 have hns29_2 := NB732_731.out
 have hms29_0 := NB731_730.out
 have hms29_2 := NB731_732.out
 have hs30 : w20.cell? ⟨gb731, 1, none⟩ = some (.int .i64 a1_1) := (blk_cell BK731.out 1).trans rfl
 have hfs30 := blk_frozen BK731.out 1
 have hns30_0 := NB730_731.out
 have hns30_2 := NB732_731.out
 have hms30_0 := NB731_730.out
 have hms30_2 := NB731_732.out
 have hs31 : w20.cell? ⟨gb731, 2, none⟩ = some (.float .f64 a1_2) := (blk_cell BK731.out 2).trans rfl
 have hfs31 := blk_frozen BK731.out 2
 have hns31_0 := NB730_731.out
 have hns31_2 := NB732_731.out
 have hms31_0 := NB731_730.out
 have hms31_2 := NB731_732.out
 have hs32 : w20.cell? ⟨gb731, 3, none⟩ = some (.string a1_3) := (blk_cell BK731.out 3).trans rfl
 have hfs32 := blk_frozen BK731.out 3
 have hns32_0 := NB730_731.out
 have hns32_2 := NB732_731.out
 have hms32_0 := NB731_730.out
 have hms32_2 := NB731_732.out
 have hs33 : w20.cell? ⟨gb731, 4, none⟩ = some (.int .i64 a1_4) := (blk_cell BK731.out 4).trans rfl
 have hfs33 := blk_frozen BK731.out 4
 have hns33_0 := NB730_731.out
 have hns33_2 := NB732_731.out
 have hms33_0 := NB731_730.out
 have hms33_2 := NB731_732.out
 have hs34 : w20.cell? ⟨gb731, 5, none⟩ = some (.int .i64 a1_5) := (blk_cell BK731.out 5).trans rfl
 have hfs34 := blk_frozen BK731.out 5
 have hns34_0 := NB730_731.out
 have hns34_2 := NB732_731.out
 have hms34_0 := NB731_730.out
 have hms34_2 := NB731_732.out
 have hs35 : w20.cell? ⟨gb731, 6, none⟩ = some (.float .f64 a1_6) := (blk_cell BK731.out 6).trans rfl
 have hfs35 := blk_frozen BK731.out 6
 have hns35_0 := NB730_731.out
 have hns35_2 := NB732_731.out
 have hms35_0 := NB731_730.out
 have hms35_2 := NB731_732.out
 have hs36 : w20.cell? ⟨gb731, 7, none⟩ = some (.string a1_7) := (blk_cell BK731.out 7).trans rfl
 have hfs36 := blk_frozen BK731.out 7
 have hns36_0 := NB730_731.out
 have hns36_2 := NB732_731.out
 have hms36_0 := NB731_730.out
 have hms36_2 := NB731_732.out
 with_reducible refine skip_ (w1 := ?_) (by with_unfolding_all rfl) (by with_unfolding_all rfl) ?_ ?_
 rotate_left
 ·go_simp
  rfl
 refine hK.out _ _ ?_
 clear hK K
 refine last_ (i := 8) (N := none) #[true,true,true,true,true,true,true,true,true] rfl rfl (one_of HT_.out (by kernel_rfl)) (by decide) (fun K hK => ?_)
 have hs37 : w20.cell? ⟨gb732, 0, none⟩ = some (.string a2_0) := (blk_cell BK732.out 0).trans rfl
 have hfs37 := blk_frozen BK732.out 0
 have hns37_0 := NB730_732.out
 have hns37_1 := NB731_732.out
 have hms37_0 := NB732_730.out
 have hms37_1 := NB732_731.out
 have hs38 : w20.cell? ⟨gb732, 1, none⟩ = some (.int .i64 a2_1) := (blk_cell BK732.out 1).trans rfl
 have hfs38 := blk_frozen BK732.out 1
 have hns38_0 := NB730_732.out
 have hns38_1 := NB731_732.out
 have hms38_0 := NB732_730.out
 have hms38_1 := NB732_731.out
 have hs39 : w20.cell? ⟨gb732, 2, none⟩ = some (.float .f64 a2_2) := (blk_cell BK732.out 2).trans rfl
 have hfs39 := blk_frozen BK732.out 2
 have hns39_0 := NB730_732.out
 have hns39_1 := NB731_732.out
 have hms39_0 := NB732_730.out
 have hms39_1 := NB732_731.out
 have hs40 : w20.cell? ⟨gb732, 3, none⟩ = some (.string a2_3) := (blk_cell BK732.out 3).trans rfl
 have hfs40 := blk_frozen BK732.out 3
 have hns40_0 := NB730_732.out
 have hns40_1 := NB731_732.out
 have hms40_0 := NB732_730.out
 have hms40_1 := NB732_731.out
 have hs41 : w20.cell? ⟨gb732, 4, none⟩ = some (.int .i64 a2_4) := (blk_cell BK732.out 4).trans rfl
 have hfs41 := blk_frozen BK732.out 4
 have hns41_0 := NB730_732.out
 have hns41_1 := NB731_732.out
 have hms41_0 := NB732_730.out
 have hms41_1 := NB732_731.out
 have hs42 : w20.cell? ⟨gb732, 5, none⟩ = some (.int .i64 a2_5) := (blk_cell BK732.out 5).trans rfl
 have hfs42 := blk_frozen BK732.out 5
 have hns42_0 := NB730_732.out
 have hns42_1 := NB731_732.out
 have hms42_0 := NB732_730.out
 have hms42_1 := NB732_731.out
 have hs43 : w20.cell? ⟨gb732, 6, none⟩ = some (.float .f64 a2_6) := (blk_cell BK732.out 6).trans rfl
 have hfs43 := blk_frozen BK732.out 6
 have hns43_0 := NB730_732.out
 have hns43_1 := NB731_732.out
 have hms43_0 := NB732_730.out
 have hms43_1 := NB732_731.out
 have hs44 : w20.cell? ⟨gb732, 7, none⟩ = some (.string a2_7) := (blk_cell BK732.out 7).trans rfl
 have hfs44 := blk_frozen BK732.out 7
 have hns44_0 := NB730_732.out
 have hns44_1 := NB731_732.out
 have hms44_0 := NB732_730.out
 have hms44_1 := NB732_731.out
 with_reducible refine skip_ (w1 := ?_) (by with_unfolding_all rfl) (by with_unfolding_all rfl) ?_ ?_
 rotate_left
 ·go_simp
  rfl
 refine hK.out _ _ ?_
 clear hK K
 refine done_ (done_of HT_.out (by kernel_rfl)) ?_
 have hnb45 := NB730_731.out
 have hnc45 := NB731_730.out
 have hnb46 := NB730_732.out
 have hnc46 := NB732_730.out
 obtain ⟨hcz47_0, hcz47_1, hcz47_2, hcz47_3, hcz47_4, hcz47_5, hcz47_6, hcz47_7, hfz47_0, hfz47_1, hfz47_2, hfz47_3, hfz47_4, hfz47_5, hfz47_6, hfz47_7⟩ := bf8 (w := w20) BK730
 have hnb48 := NB731_732.out
 have hnc48 := NB732_731.out
 obtain ⟨hcz49_0, hcz49_1, hcz49_2, hcz49_3, hcz49_4, hcz49_5, hcz49_6, hcz49_7, hfz49_0, hfz49_1, hfz49_2, hfz49_3, hfz49_4, hfz49_5, hfz49_6, hfz49_7⟩ := bf8 (w := w20) BK731
 obtain ⟨hcz50_0, hcz50_1, hcz50_2, hcz50_3, hcz50_4, hcz50_5, hcz50_6, hcz50_7, hfz50_0, hfz50_1, hfz50_2, hfz50_3, hfz50_4, hfz50_5, hfz50_6, hfz50_7⟩ := bf8 (w := w20) BK732
 try go_wp2_with (first | ((with_reducible refine gate_dst (N := 23) rfl ?_); refine Kd.R_lit k56 _ 56 ?hg (N := 23) ?hd (xs := ([(⟨t734, (⟨t735, t736, t737⟩ : S54), t738, (⟨t739, t740, t741⟩ : S54)⟩ : S56), (⟨t742, (⟨t743, t744, t745⟩ : S54), t746, (⟨t747, t748, t749⟩ : S54)⟩ : S56), (⟨t750, (⟨t751, t752, t753⟩ : S54), t754, (⟨t755, t756, t757⟩ : S54)⟩ : S56)] : List (S56))) (inner := [.string t734, .int .i64 t735, .float .f64 t736, .string t737, .int .i64 t738, .int .i64 t739, .float .f64 t740, .string t741, .string t742, .int .i64 t743, .float .f64 t744, .string t745, .int .i64 t746, .int .i64 t747, .float .f64 t748, .string t749, .string t750, .int .i64 t751, .float .f64 t752, .string t753, .int .i64 t754, .int .i64 t755, .float .f64 t756, .string t757]) (ok := fun _ => True) (okp := fun _ => True) ?hr ?hp (fun _ hk => hk) trivial (Below.refl _ _) (Nat.le_refl _) (by simp) ?_; (case hd => rfl); (case hg => rfl); (case hr => first | (go_simp; done) | (go_simp; rfl)); (case hp => exact (Reps.c8 (show Kd.M k56 _ _ _ (⟨t734, (⟨t735, t736, t737⟩ : S54), t738, (⟨t739, t740, t741⟩ : S54)⟩ : S56) [.string t734, .int .i64 t735, .float .f64 t736, .string t737, .int .i64 t738, .int .i64 t739, .float .f64 t740, .string t741] from (k56_mkM _ _ _ (⟨t734, (⟨t735, t736, t737⟩ : S54), t738, (⟨t739, t740, t741⟩ : S54)⟩ : S56) )) (Reps.c8 (show Kd.M k56 _ _ _ (⟨t742, (⟨t743, t744, t745⟩ : S54), t746, (⟨t747, t748, t749⟩ : S54)⟩ : S56) [.string t742, .int .i64 t743, .float .f64 t744, .string t745, .int .i64 t746, .int .i64 t747, .float .f64 t748, .string t749] from (k56_mkM _ _ _ (⟨t742, (⟨t743, t744, t745⟩ : S54), t746, (⟨t747, t748, t749⟩ : S54)⟩ : S56) )) (Reps.c8 (show Kd.M k56 _ _ _ (⟨t750, (⟨t751, t752, t753⟩ : S54), t754, (⟨t755, t756, t757⟩ : S54)⟩ : S56) [.string t750, .int .i64 t751, .float .f64 t752, .string t753, .int .i64 t754, .int .i64 t755, .float .f64 t756, .string t757] from (k56_mkM _ _ _ (⟨t750, (⟨t751, t752, t753⟩ : S54), t754, (⟨t755, t756, t757⟩ : S54)⟩ : S56) )) (Reps.none _ _))))); intro v759 w51 ho52 hb hg_ hnew_; clear hg_ hnew_; (first | rw [← Ny758.out] at ho52 | (simp only [Int.reduceToNat] at ho52; rw [← Ny758.out] at ho52)); have HO760 := Aside0.mk (Kd.R_lower (Kd.R_newB (Kd.R_newB (Kd.R_newB ho52 (g := gb730) (o := .cells #[.string t734, .int .i64 t735, .float .f64 t736, .string t737, .int .i64 t738, .int .i64 t739, .float .f64 t740, .string t741] 56 (0, 0)) (bR BK730)) (g := gb731) (o := .cells #[.string t742, .int .i64 t743, .float .f64 t744, .string t745, .int .i64 t746, .int .i64 t747, .float .f64 t748, .string t749] 56 (0, 0)) (bR BK731)) (g := gb732) (o := .cells #[.string t750, .int .i64 t751, .float .f64 t752, .string t753, .int .i64 t754, .int .i64 t755, .float .f64 t756, .string t757] 56 (0, 0)) (bR BK732)) (below_size (bC HB))); replace BK730 := Aside0.mk (blk_below (g := gb730) (o := .cells #[.string t734, .int .i64 t735, .float .f64 t736, .string t737, .int .i64 t738, .int .i64 t739, .float .f64 t740, .string t741] 56 (0, 0)) (bR BK730) hb); replace BK731 := Aside0.mk (blk_below (g := gb731) (o := .cells #[.string t742, .int .i64 t743, .float .f64 t744, .string t745, .int .i64 t746, .int .i64 t747, .float .f64 t748, .string t749] 56 (0, 0)) (bR BK731) hb); replace BK732 := Aside0.mk (blk_below (g := gb732) (o := .cells #[.string t750, .int .i64 t751, .float .f64 t752, .string t753, .int .i64 t754, .int .i64 t755, .float .f64 t756, .string t757] 56 (0, 0)) (bR BK732) hb); replace HB := bW HB hb; clear hb ho52; obtain ⟨Ao53, co53, eo53⟩ := Kd.R_slice HO760.out; subst eo53) | ((with_reducible refine gate_dst (N := 8) rfl ?_); refine box_event ?hg (N := 8) ?hd (cs := #[.bool false, .slice none 0 0, .slice none 0 0, .slice none 0 0]) (t := 26) ?hr ?_; (case hd => rfl); (case hg => rfl); (case hr => first | (go_simp; done) | (go_simp; rfl)); intro gb761 hg w54 hbox hb; have BK761 := Aside0.mk (hbox); have GW761 := bZ HB hg; have GE761 := bZ HB hg; have NB730_761 := bL BK730 hg; have NB761_730 := bG BK730 hg; have NB731_761 := bL BK731 hg; have NB761_731 := bG BK731 hg; have NB732_761 := bL BK732 hg; have NB761_732 := bG BK732 hg; replace HO760 := rB HO760 hb; replace BK730 := bB BK730 hb; replace BK731 := bB BK731 hb; replace BK732 := bB BK732 hb; replace HB := bW HB hb; clear hb hbox hg; have hnb55 := NB761_730.out; have hnc55 := NB730_761.out; have hnb56 := NB761_731.out; have hnc56 := NB731_761.out; have hnb57 := NB761_732.out; have hnc57 := NB732_761.out; obtain ⟨hcz58_0, hcz58_1, hcz58_2, hcz58_3, hfz58_0, hfz58_1, hfz58_2, hfz58_3⟩ := bf4 (w := w54) BK761) | (go_at_call 15; refine calls_of_args (args' := #[.agg #[.bool true, .slice Ao53 y758.length co53, .slice none ([] : List ByteArray).length 0, .slice none ([] : List Int).length 0]]) (by first | rfl | ((try simp only [List.map_toArray, List.map_cons, List.map_nil]); rfl)) ?_; (with_reducible refine (engrossref10_MayNode.calls k true _ _ y758 _ _ ([] : List ByteArray) _ _ ([] : List Int) true _ ?side1 ?side2 ?side3 ?side4 ?side5 ?side6 A9.out).mono ?_); (case side1 => refine (Kd.R_reads' (e := 56) (base := w.heap.size) (ok := fun k_ => (((True ∧ k_ ≠ gb730) ∧ k_ ≠ gb731) ∧ k_ ≠ gb732)) (n := y758.length) (c := co53) ?_).2.2; exact (by (with_reducible repeat (first | apply Kd.R_alloc | apply Kd.R_drewN | apply Kd.R_drew)); exact (Kd.R_mono (Kd.R_far (p := ⟨gb761, 3, none⟩) (Kd.R_far (p := ⟨gb761, 2, none⟩) (Kd.R_far (p := ⟨gb761, 1, none⟩) (Kd.R_far (p := ⟨gb761, 0, none⟩) (Kd.R_types HO760.out BK761.out (by decide)) (fun _ hk => hk.2) (.bool true)) (fun _ hk => hk.2) (.slice Ao53 y758.length co53)) (fun _ hk => hk.2) (.slice none 0 0)) (fun _ hk => hk.2) (.slice none 0 0)) (fun _ h_ => h_.1)))); (case side2 => exact (Kd.R_reads' HO760.out).2.1); (case side3 => exact Kd.C_nil _ _); (case side4 => exact Nat.le_refl _); (case side5 => exact Kd.C_nil _ _); (case side6 => exact Nat.le_refl _); rintro e w59 ⟨rfl, hb⟩; replace HO760 := Aside0.mk (Kd.R_below (by (with_reducible repeat (first | apply Kd.R_alloc | apply Kd.R_drewN | apply Kd.R_drew)); exact (Kd.R_mono (Kd.R_far (p := ⟨gb761, 3, none⟩) (Kd.R_far (p := ⟨gb761, 2, none⟩) (Kd.R_far (p := ⟨gb761, 1, none⟩) (Kd.R_far (p := ⟨gb761, 0, none⟩) (Kd.R_types HO760.out BK761.out (by decide)) (fun _ hk => hk.2) (.bool true)) (fun _ hk => hk.2) (.slice Ao53 y758.length co53)) (fun _ hk => hk.2) (.slice none 0 0)) (fun _ hk => hk.2) (.slice none 0 0)) (fun _ h_ => h_.1))) hb); replace BK730 := bB BK730 hb; replace BK731 := bB BK731 hb; replace BK732 := bB BK732 hb; replace BK761 := Aside0.mk (blk_below (g := gb761) (o := .cells #[.bool true, .slice Ao53 y758.length co53, .slice none 0 0, .slice none 0 0] 26 (0, 0)) (bR BK761) hb); replace HB := bW HB hb; (try clear hb); (try clear hb2); (try clear hk); (try clear hi); obtain ⟨hcz60_0, hcz60_1, hcz60_2, hcz60_3, hfz60_0, hfz60_1, hfz60_2, hfz60_3⟩ := bf4 (w := w59) BK761) | (go_at_call 17; refine calls_of_args (args' := #[.agg #[.bool true, .slice Ao53 y758.length co53, .slice none ([] : List ByteArray).length 0, .slice none ([] : List Int).length 0]]) (by first | rfl | ((try simp only [List.map_toArray, List.map_cons, List.map_nil]); rfl)) ?_; (with_reducible refine (engrosslaw11_Of.calls k true _ _ y758 (fun k_ => False) _ _ ([] : List ByteArray) (fun k_ => False) _ _ ([] : List Int) t763 t764 t767 t770 _ ?side1 ?side2 ?side3 ?side4 A11.out).mono ?_); (case side1 => repeat (first | exact (Kd.R_reads' HO760.out).2.2 | (with_reducible refine Kd.C_alloc ?_ _) | (with_reducible refine Kd.C_drewN ?_ _) | (with_reducible refine Kd.C_drew ?_))); (case side2 => exact (Kd.R_reads' HO760.out).2.1); (case side3 => exact Kd.V_nil _ _ _ _ _); (case side4 => exact Kd.V_nil _ _ _ _ _); rintro e w61 ⟨v765, v768, v771, rfl, ho0, ho1, ho2, hb⟩; have HO766 := Aside0.mk (Kd.R_lower (Kd.R_mono (ok' := fun k_ => True) ho0 (fun _ hk_ => trivial)) (below_size (bC HB))); have HO769 := Aside0.mk (Kd.V_lower (Kd.V_mono (ok' := fun k_ => some k_ ≠ (v765 : Value).ownBlock ∧ some k_ ≠ (.slice Ao53 y758.length co53 : Value).ownBlock ∧ k_ ≠ gb730 ∧ k_ ≠ gb731 ∧ k_ ≠ gb732 ∧ k_ ≠ gb761) ho1 (fun k_ hk_ => ⟨hk_.2, Or.elim hk_.1 (fun hs_ => Or.elim hs_ (fun hs_ => (hs_).elim) (fun hs_ => (hs_).elim)) (fun hn_ => (rF HO760 k_ hn_)), Or.elim hk_.1 (fun hs_ => Or.elim hs_ (fun hs_ => (hs_).elim) (fun hs_ => (hs_).elim)) (fun hn_ => (Kd.freshB (bQ BK730) k_ hn_)), Or.elim hk_.1 (fun hs_ => Or.elim hs_ (fun hs_ => (hs_).elim) (fun hs_ => (hs_).elim)) (fun hn_ => (Kd.freshB (bQ BK731) k_ hn_)), Or.elim hk_.1 (fun hs_ => Or.elim hs_ (fun hs_ => (hs_).elim) (fun hs_ => (hs_).elim)) (fun hn_ => (Kd.freshB (bQ BK732) k_ hn_)), Or.elim hk_.1 (fun hs_ => Or.elim hs_ (fun hs_ => (hs_).elim) (fun hs_ => (hs_).elim)) (fun hn_ => (Kd.freshB (bQ BK761) k_ hn_))⟩)) (below_size (bC HB))); have HO772 := Aside0.mk (Kd.V_lower (Kd.V_mono (ok' := fun k_ => some k_ ≠ (v765 : Value).ownBlock ∧ some k_ ≠ (.slice Ao53 y758.length co53 : Value).ownBlock ∧ k_ ≠ gb730 ∧ k_ ≠ gb731 ∧ k_ ≠ gb732 ∧ k_ ≠ gb761) ho2 (fun k_ hk_ => ⟨hk_.2, Or.elim hk_.1 (fun hs_ => Or.elim hs_ (fun hs_ => (hs_).elim) (fun hs_ => (hs_).elim)) (fun hn_ => (rF HO760 k_ hn_)), Or.elim hk_.1 (fun hs_ => Or.elim hs_ (fun hs_ => (hs_).elim) (fun hs_ => (hs_).elim)) (fun hn_ => (Kd.freshB (bQ BK730) k_ hn_)), Or.elim hk_.1 (fun hs_ => Or.elim hs_ (fun hs_ => (hs_).elim) (fun hs_ => (hs_).elim)) (fun hn_ => (Kd.freshB (bQ BK731) k_ hn_)), Or.elim hk_.1 (fun hs_ => Or.elim hs_ (fun hs_ => (hs_).elim) (fun hs_ => (hs_).elim)) (fun hn_ => (Kd.freshB (bQ BK732) k_ hn_)), Or.elim hk_.1 (fun hs_ => Or.elim hs_ (fun hs_ => (hs_).elim) (fun hs_ => (hs_).elim)) (fun hn_ => (Kd.freshB (bQ BK761) k_ hn_))⟩)) (below_size (bC HB))); replace HO760 := rB HO760 hb; replace BK730 := bB BK730 hb; replace BK731 := bB BK731 hb; replace BK732 := bB BK732 hb; replace BK761 := bB BK761 hb; replace HB := bW HB hb; (try clear hb); (try clear hb2); (try clear hk); (try clear hi); (try clear ho0); (try clear ho1); (try clear ho2); obtain ⟨Ao62, co62, eo62⟩ := Kd.R_slice HO766.out; subst eo62; obtain ⟨Ao63, co63, eo63⟩ := Kd.V_slice HO769.out; subst eo63; obtain ⟨Ao64, co64, eo64⟩ := Kd.V_slice HO772.out; subst eo64) | ((with_reducible refine gate_callee (f := 19) rfl ?_); refine gL (some 31) Try.func19 #[.agg #[.bool t763, .slice Ao62 t764.length co62, .slice Ao63 t767.length co63, .slice Ao64 t770.length co64]] ?_; (with_reducible refine (node_Encode.calls k t763 _ _ t764 _ _ t767 _ _ t770 t773 t776 _ ?side1 ?side2 ?side3 ?side4 ?side5 ?side6 A12.out).mono ?_); (case side1 => repeat (first | exact (Kd.R_reads' HO766.out).2.2 | (with_reducible refine Kd.C_alloc ?_ _) | (with_reducible refine Kd.C_drewN ?_ _) | (with_reducible refine Kd.C_drew ?_))); (case side2 => exact (Kd.R_reads' HO766.out).2.1); (case side3 => repeat (first | exact (Kd.V_reads' HO769.out).2.2 | (with_reducible refine Kd.C_alloc ?_ _) | (with_reducible refine Kd.C_drewN ?_ _) | (with_reducible refine Kd.C_drew ?_))); (case side4 => exact (Kd.V_reads' HO769.out).2.1); (case side5 => repeat (first | exact (Kd.V_reads' HO772.out).2.2 | (with_reducible refine Kd.C_alloc ?_ _) | (with_reducible refine Kd.C_drewN ?_ _) | (with_reducible refine Kd.C_drew ?_))); (case side6 => exact (Kd.V_reads' HO772.out).2.1); rintro e w65 ⟨v774, rfl, ho0, hb⟩; refine ⟨_, rfl, ?_⟩; have HO775 := Aside0.mk (Kd.R_lower ho0 (below_size (bC HB))); replace HO760 := rB HO760 hb; replace HO766 := rB HO766 hb; replace HO769 := vE HO769 (Kd.R_base ho0) hb; replace HO772 := vE HO772 (Kd.R_base ho0) hb; replace BK730 := bB BK730 hb; replace BK731 := bB BK731 hb; replace BK732 := bB BK732 hb; replace BK761 := bB BK761 hb; replace HB := bW HB hb; (try clear hb); (try clear hb2); (try clear hk); (try clear hi); (try clear ho0)))
 go_ret
 exact xB HB
/-- THE ONE PURE STATEMENT of engrosslaw11_NodeThree. -/
def engrosslaw11_NodeThree.Pure : Prop := ∀ (x0 : S56) (x1 : S56) (x2 : S56), wf56 x0 → wf56 x1 → wf56 x2 → ∃ k, engrosslaw11_NodeThree.f k x0.f0 x0.f1.f0 x0.f1.f1 x0.f1.f2 x0.f2 x0.f3.f0 x0.f3.f1 x0.f3.f2 x1.f0 x1.f1.f0 x1.f1.f1 x1.f1.f2 x1.f2 x1.f3.f0 x1.f3.f1 x1.f3.f2 x2.f0 x2.f1.f0 x2.f1.f1 x2.f1.f2 x2.f2 x2.f3.f0 x2.f3.f1 x2.f3.f2 = some true
end Go.Proofs.Ytmmjpieafbjggaa.P
end
section
set_option linter.unusedVariables false
set_option linter.unusedSimpArgs false
namespace Go.Proofs.Ytmmjpieafbjggaa.Pure
open Go.RowKit Go.Proofs.Ytmmjpieafbjggaa.P Go.Proofs.YtmmjpieafbjggaaW.PrintWords Go.Proofs.YtmmjpieafbjggaaW.PrintLast Go.Proofs.YtmmjpieafbjggaaW.PrintMore
theorem begun11 {k : Nat} (hk : 100 ≤ k) : engrosslaw11_begun.f k = some true :=
  at_rounds (g := fun k => engrosslaw11_begun.f k) (fun k => engrosslaw11_begun.mono k) hk (show engrosslaw11_begun.f 100 = some true by decide +kernel)
end Go.Proofs.Ytmmjpieafbjggaa.Pure
end
