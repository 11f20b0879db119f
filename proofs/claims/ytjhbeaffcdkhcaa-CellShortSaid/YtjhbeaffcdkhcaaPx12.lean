/- Functions of the program as Lean functions, and that each call answers as its function does. No condition. (Lines written by a generator of this session.) -/
import Derived.Test.YtjhbeaffcdkhcaaPx0
import Derived.Test.YtjhbeaffcdkhcaaPx2
import Derived.Test.YtjhbeaffcdkhcaaPx3
import Derived.Test.YtjhbeaffcdkhcaaPx4
import Derived.Test.YtjhbeaffcdkhcaaPx5
import Derived.Test.YtjhbeaffcdkhcaaPx6
import Derived.Test.YtjhbeaffcdkhcaaPx8
import Derived.Test.YtjhbeaffcdkhcaaPx11
namespace Go.Proofs.Ytjhbeaffcdkhcaa.P
open Go.RowKit Go.Proofs.YtjhbeaffcdkhcaaW.PrintWords Go.Proofs.YtjhbeaffcdkhcaaW.PrintLast Go.Proofs.YtjhbeaffcdkhcaaW.PrintMore
attribute [local go_sem] max2_int min2_int max_two min_two max_three min_three max_four min_four   -- for this text's walks alone
attribute [local go_sem] x_str_gtr x_str_leq x_str_geq ext_bits ext_frombits ext_neg x_store_float Instr.field asAgg
set_option linter.unusedVariables false
set_option linter.unusedSimpArgs false

/-! ### engrosslaw10_tells: function 32 -/
def engrosslaw10_tells.f (k : Nat) (l0 : List Int) : Option (Bool) := (cell_Get.f k l0).bind fun bt769 => ((engrossref10_Read.f k l0).bind fun bt780 => (if bt769.2.2.2.2.2.2.2.2.2 = bt780.2.2.2.2.2.2.2.2.2 then (if bt769.2.2.2.2.2.2.2.2.1 = bt780.2.2.2.2.2.2.2.2.1 then ((engrosslaw10_Back.f bt769.1 bt769.2.1 bt769.2.2.1 bt769.2.2.2.1 bt769.2.2.2.2.1 bt769.2.2.2.2.2.1 bt769.2.2.2.2.2.2.1 bt769.2.2.2.2.2.2.2.1).bind fun bt791 => ((engrossref10_Eq.f bt791.1 bt791.2.1 bt791.2.2.1 bt791.2.2.2.1 bt791.2.2.2.2.1 bt791.2.2.2.2.2.1 bt791.2.2.2.2.2.2.1 bt791.2.2.2.2.2.2.2 bt780.1 bt780.2.1 bt780.2.2.1 bt780.2.2.2.1 bt780.2.2.2.2.1 bt780.2.2.2.2.2.1 bt780.2.2.2.2.2.2.1 bt780.2.2.2.2.2.2.2.1).bind fun t799 => (some t799))) else (none)) else (none)))
theorem engrosslaw10_tells.mono : ∀ a0 k, LeO (engrosslaw10_tells.f k a0) (engrosslaw10_tells.f (k + 1) a0) := by
 intro a0 k
 unfold engrosslaw10_tells.f
 repeat' first
   | (with_reducible exact cell_Get.mono _ _)
   | (with_reducible exact engrossref10_Read.mono _ _)
   | (with_reducible exact LeO.refl _)
   | (with_reducible exact LeO.none _)
   | (with_reducible refine LeO.ite ?_ ?_)
   | (with_reducible refine LeO.bind ?_ (fun _ => ?_))
   | exact cell_Get.mono _ _
   | exact engrossref10_Read.mono _ _
   | exact LeO.none _
   | refine LeO.ite ?_ ?_
   | refine LeO.bind ?_ (fun _ => ?_)
def engrosslaw10_tells.T3 : Bool × List (List Nat × List Nat) := (true, [([], []), ([], []), ([0, 1], [0, 1]), ([2], [2]), ([3], [3]), ([3], [3]), ([4, 5, 3], [3, 4, 5]), ([3, 6], [3, 6]), ([7, 3], [7]), ([8], [8]), ([9, 8, 8], [8, 9]), ([8], [8]), ([10, 11, 10, 8], [8, 10, 11]), ([8, 12], [8, 12]), ([13, 12, 0, 1, 2, 3, 4, 5, 6, 7, 8, 9, 10, 11, 12, 13], [13])])
def engrosslaw10_tells.B3 : List Nat := [0, 0, 3, 7, 15, 15, 63, 127, 255, 511, 1023, 511, 4095, 8191, 16383]
theorem engrosslaw10_tells.tab3 : rtab .any (opsOf Try.f32 3) = engrosslaw10_tells.T3 := by kernel_rfl
theorem engrosslaw10_tells.bits3 : waitsOk engrosslaw10_tells.T3.2 engrosslaw10_tells.B3 = true := by kernel_rfl
set_option maxHeartbeats 8000000 in
set_option maxRecDepth 100000 in
theorem engrosslaw10_tells.calls (k : Nat) (A0 : Option Addr) (c0 : Nat) (l0 : List Int) (r : Bool) (w : World) (hr0 : Kd.C (Kd.int .u8) w A0 l0.length l0) (hc0 : l0.length ≤ c0) (h : engrosslaw10_tells.f k l0 = some r) :
  Calls Try.prog 32 #[.slice A0 l0.length c0] w fun e w' => e = .returned (.bool r) ∧ Below w.heap.size w w' := by
 have hu31 := Try.underlying31
 have hu26 := Try.underlying26
 have HR0 := Aside0.mk hr0
 have HC0 := Aside0.mk hc0
 clear hr0 hc0
 have HB := Aside0.mk (Below.refl w.heap.size w)
 have H : ((cell_Get.f k l0).bind fun bt769 => ((engrossref10_Read.f k l0).bind fun bt780 => (if bt769.2.2.2.2.2.2.2.2.2 = bt780.2.2.2.2.2.2.2.2.2 then (if bt769.2.2.2.2.2.2.2.2.1 = bt780.2.2.2.2.2.2.2.2.1 then ((engrosslaw10_Back.f bt769.1 bt769.2.1 bt769.2.2.1 bt769.2.2.2.1 bt769.2.2.2.2.1 bt769.2.2.2.2.2.1 bt769.2.2.2.2.2.2.1 bt769.2.2.2.2.2.2.2.1).bind fun bt791 => ((engrossref10_Eq.f bt791.1 bt791.2.1 bt791.2.2.1 bt791.2.2.2.1 bt791.2.2.2.2.1 bt791.2.2.2.2.2.1 bt791.2.2.2.2.2.2.1 bt791.2.2.2.2.2.2.2 bt780.1 bt780.2.1 bt780.2.2.1 bt780.2.2.2.1 bt780.2.2.2.2.1 bt780.2.2.2.2.2.1 bt780.2.2.2.2.2.2.1 bt780.2.2.2.2.2.2.2.1).bind fun t799 => (some t799))) else (none)) else (none)))) = some r := h
 clear h
 replace H := Option.bind_eq_some_iff.mp H
 obtain ⟨⟨t769, t770, t771, t772, t773, t774, t775, t776, t777, t778⟩, A20, H⟩ := H
 replace H : ((engrossref10_Read.f k l0).bind fun bt780 => (if t778 = bt780.2.2.2.2.2.2.2.2.2 then (if t777 = bt780.2.2.2.2.2.2.2.2.1 then ((engrosslaw10_Back.f t769 t770 t771 t772 t773 t774 t775 t776).bind fun bt791 => ((engrossref10_Eq.f bt791.1 bt791.2.1 bt791.2.2.1 bt791.2.2.2.1 bt791.2.2.2.2.1 bt791.2.2.2.2.2.1 bt791.2.2.2.2.2.2.1 bt791.2.2.2.2.2.2.2 bt780.1 bt780.2.1 bt780.2.2.1 bt780.2.2.2.1 bt780.2.2.2.2.1 bt780.2.2.2.2.2.1 bt780.2.2.2.2.2.2.1 bt780.2.2.2.2.2.2.2.1).bind fun t799 => (some t799))) else (none)) else (none))) = some r := H
 have A2 := Aside0.mk A20
 clear A20
 replace H := Option.bind_eq_some_iff.mp H
 obtain ⟨⟨t780, t781, t782, t783, t784, t785, t786, t787, t788, t789⟩, A30, H⟩ := H
 replace H : (if t778 = t789 then (if t777 = t788 then ((engrosslaw10_Back.f t769 t770 t771 t772 t773 t774 t775 t776).bind fun bt791 => ((engrossref10_Eq.f bt791.1 bt791.2.1 bt791.2.2.1 bt791.2.2.2.1 bt791.2.2.2.2.1 bt791.2.2.2.2.2.1 bt791.2.2.2.2.2.2.1 bt791.2.2.2.2.2.2.2 t780 t781 t782 t783 t784 t785 t786 t787).bind fun t799 => (some t799))) else (none)) else (none)) = some r := H
 have A3 := Aside0.mk A30
 clear A30
 by_cases c4 : t778 = t789
 ·rw [if_pos c4] at H
  have c4b0 : (t778 == t789) = true := beq_iff_eq.mpr c4
  have c4b1 : (t778 != t789) = false := bne_eq_false_iff_eq.mpr c4
  clear c4
  by_cases c5 : t777 = t788
  ·rw [if_pos c5] at H
   have c5b0 : (t777 == t788) = true := beq_iff_eq.mpr c5
   have c5b1 : (t777 != t788) = false := bne_eq_false_iff_eq.mpr c5
   clear c5
   replace H := Option.bind_eq_some_iff.mp H
   obtain ⟨⟨t791, t792, t793, t794, t795, t796, t797, t798⟩, A60, H⟩ := H
   replace H : ((engrossref10_Eq.f t791 t792 t793 t794 t795 t796 t797 t798 t780 t781 t782 t783 t784 t785 t786 t787).bind fun t799 => (some t799)) = some r := H
   have A6 := Aside0.mk A60
   clear A60
   replace H := Option.bind_eq_some_iff.mp H
   obtain ⟨t799, A70, H⟩ := H
   replace H : (some t799) = some r := H
   have A7 := Aside0.mk A70
   clear A70
   obtain rfl := Option.some.inj H
   go_enter Try.func32, Try.ntmps32
   try go_wp2_with (first | ((with_reducible refine gate_callee (f := 31) rfl ?_); refine goesL_ (some 11) rfl rfl Try.func31 (by kernel_rfl) rfl #[.slice A0 l0.length c0] rfl (by (try simp only [List.map_toArray, List.map_cons, List.map_nil]); first | done | rfl | (simp only [List.length_drop, List.length_take]; rfl)) ?_; (with_reducible refine (cell_Get.calls k _ _ l0 t769 t770 t771 t772 t773 t774 t775 t776 t777 t778 _ ?side1 ?side2 A2.out).mono ?_); (case side1 => repeat (first | exact HR0.out | (with_reducible refine Kd.C_alloc ?_ _) | (with_reducible refine Kd.C_drewN ?_ _) | (with_reducible refine Kd.C_drew ?_))); (case side2 => exact HC0.out); rintro e w8 ⟨rfl, hb⟩; refine ⟨_, rfl, ?_⟩; replace HB := bW HB hb; (try clear hb); (try clear hb2); (try clear hk); (try clear hi)) | ((with_reducible refine gate_dst (N := 3) rfl ?_); refine box_event ?hg (N := 3) ?hd (cs := #[.string (⟨#[]⟩ : ByteArray), .int .i64 0, .float .f64 0, .string (⟨#[]⟩ : ByteArray), .int .i64 0, .int .i64 0, .float .f64 0, .string (⟨#[]⟩ : ByteArray)]) (t := 31) ?hr ?_; (case hd => rfl); (case hg => rfl); (case hr => first | (go_simp; done) | (go_simp; rfl)); intro gb779 hg w9 hbox hb; have BK779 := Aside0.mk (hbox); have GW779 := bZ HB hg; have GE779 := bZ HB hg; replace HB := bW HB hb; clear hb hbox hg; obtain ⟨hcz10_0, hcz10_1, hcz10_2, hcz10_3, hcz10_4, hcz10_5, hcz10_6, hcz10_7, hfz10_0, hfz10_1, hfz10_2, hfz10_3, hfz10_4, hfz10_5, hfz10_6, hfz10_7⟩ := bf8 (w := w9) BK779) | ((with_reducible refine gate_callee (f := 53) rfl ?_); refine goesL_ (some 17) rfl rfl Try.func53 (by kernel_rfl) rfl #[.slice A0 l0.length c0] rfl (by (try simp only [List.map_toArray, List.map_cons, List.map_nil]); first | done | rfl | (simp only [List.length_drop, List.length_take]; rfl)) ?_; (with_reducible refine (engrossref10_Read.calls k _ _ l0 t780 t781 t782 t783 t784 t785 t786 t787 t788 t789 _ ?side1 ?side2 A3.out).mono ?_); (case side1 => exact Kd.C_below HR0.out (bC HB)); (case side2 => exact HC0.out); rintro e w11 ⟨rfl, hb⟩; refine ⟨_, rfl, ?_⟩; replace BK779 := Aside0.mk (blk_below (g := gb779) (o := .cells #[.string t769, .int .i64 t770, .float .f64 t771, .string t772, .int .i64 t773, .int .i64 t774, .float .f64 t775, .string t776] 31 (0, 0)) (bR BK779) hb); replace HB := bW HB hb; (try clear hb); (try clear hb2); (try clear hk); (try clear hi)) | ((with_reducible refine gate_dst (N := 6) rfl ?_); refine box_event ?hg (N := 6) ?hd (cs := #[.string (⟨#[]⟩ : ByteArray), .int .i64 0, .float .f64 0, .string (⟨#[]⟩ : ByteArray), .int .i64 0, .int .i64 0, .float .f64 0, .string (⟨#[]⟩ : ByteArray)]) (t := 26) ?hr ?_; (case hd => rfl); (case hg => rfl); (case hr => first | (go_simp; done) | (go_simp; rfl)); intro gb790 hg w12 hbox hb; have BK790 := Aside0.mk (hbox); have GW790 := bZ HB hg; have GE790 := bZ HB hg; have NB779_790 := bL BK779 hg; have NB790_779 := bG BK779 hg; replace BK779 := bB BK779 hb; replace HB := bW HB hb; clear hb hbox hg; have hnb13 := NB790_779.out; have hnc13 := NB779_790.out; obtain ⟨hcz14_0, hcz14_1, hcz14_2, hcz14_3, hcz14_4, hcz14_5, hcz14_6, hcz14_7, hfz14_0, hfz14_1, hfz14_2, hfz14_3, hfz14_4, hfz14_5, hfz14_6, hfz14_7⟩ := bf8 (w := w12) BK790))
   have n0_ : Aside0 (((((((((w12.setCell ⟨gb790, 0, none⟩ (.string t780)).setCell ⟨gb790, 1, none⟩ (.int .i64 t781)).setCell ⟨gb790, 2, none⟩ (.float .f64 t782)).setCell ⟨gb790, 3, none⟩ (.string t783)).setCell ⟨gb790, 4, none⟩ (.int .i64 t784)).setCell ⟨gb790, 5, none⟩ (.int .i64 t785)).setCell ⟨gb790, 6, none⟩ (.float .f64 t786)).setCell ⟨gb790, 7, none⟩ (.string t787)).heap[gb779]? = some (.cells #[.string t769, .int .i64 t770, .float .f64 t771, .string t772, .int .i64 t773, .int .i64 t774, .float .f64 t775, .string t776] 31 (0, 0))) := bS BK779
   have n1_ : Aside0 (((((((((w12.setCell ⟨gb790, 0, none⟩ (.string t780)).setCell ⟨gb790, 1, none⟩ (.int .i64 t781)).setCell ⟨gb790, 2, none⟩ (.float .f64 t782)).setCell ⟨gb790, 3, none⟩ (.string t783)).setCell ⟨gb790, 4, none⟩ (.int .i64 t784)).setCell ⟨gb790, 5, none⟩ (.int .i64 t785)).setCell ⟨gb790, 6, none⟩ (.float .f64 t786)).setCell ⟨gb790, 7, none⟩ (.string t787)).heap[gb790]? = some (.cells #[.string t780, .int .i64 t781, .float .f64 t782, .string t783, .int .i64 t784, .int .i64 t785, .float .f64 t786, .string t787] 26 (0, 0))) := ⟨by (with_reducible repeat (first | refine blk_drewN ?_ _ | refine blk_drew ?_ | refine blk_alloc ?_ _)); refine blk_put (cs := #[.string t780, .int .i64 t781, .float .f64 t782, .string t783, .int .i64 t784, .int .i64 t785, .float .f64 t786, .string (⟨#[]⟩ : ByteArray)]) ?_ 7 _ rfl; (with_reducible repeat (first | refine blk_drewN ?_ _ | refine blk_drew ?_ | refine blk_alloc ?_ _)); refine blk_put (cs := #[.string t780, .int .i64 t781, .float .f64 t782, .string t783, .int .i64 t784, .int .i64 t785, .float .f64 0, .string (⟨#[]⟩ : ByteArray)]) ?_ 6 _ rfl; (with_reducible repeat (first | refine blk_drewN ?_ _ | refine blk_drew ?_ | refine blk_alloc ?_ _)); refine blk_put (cs := #[.string t780, .int .i64 t781, .float .f64 t782, .string t783, .int .i64 t784, .int .i64 0, .float .f64 0, .string (⟨#[]⟩ : ByteArray)]) ?_ 5 _ rfl; (with_reducible repeat (first | refine blk_drewN ?_ _ | refine blk_drew ?_ | refine blk_alloc ?_ _)); refine blk_put (cs := #[.string t780, .int .i64 t781, .float .f64 t782, .string t783, .int .i64 0, .int .i64 0, .float .f64 0, .string (⟨#[]⟩ : ByteArray)]) ?_ 4 _ rfl; (with_reducible repeat (first | refine blk_drewN ?_ _ | refine blk_drew ?_ | refine blk_alloc ?_ _)); refine blk_put (cs := #[.string t780, .int .i64 t781, .float .f64 t782, .string (⟨#[]⟩ : ByteArray), .int .i64 0, .int .i64 0, .float .f64 0, .string (⟨#[]⟩ : ByteArray)]) ?_ 3 _ rfl; (with_reducible repeat (first | refine blk_drewN ?_ _ | refine blk_drew ?_ | refine blk_alloc ?_ _)); refine blk_put (cs := #[.string t780, .int .i64 t781, .float .f64 0, .string (⟨#[]⟩ : ByteArray), .int .i64 0, .int .i64 0, .float .f64 0, .string (⟨#[]⟩ : ByteArray)]) ?_ 2 _ rfl; (with_reducible repeat (first | refine blk_drewN ?_ _ | refine blk_drew ?_ | refine blk_alloc ?_ _)); refine blk_put (cs := #[.string t780, .int .i64 0, .float .f64 0, .string (⟨#[]⟩ : ByteArray), .int .i64 0, .int .i64 0, .float .f64 0, .string (⟨#[]⟩ : ByteArray)]) ?_ 1 _ rfl; (with_reducible repeat (first | refine blk_drewN ?_ _ | refine blk_drew ?_ | refine blk_alloc ?_ _)); refine blk_put (cs := #[.string (⟨#[]⟩ : ByteArray), .int .i64 0, .float .f64 0, .string (⟨#[]⟩ : ByteArray), .int .i64 0, .int .i64 0, .float .f64 0, .string (⟨#[]⟩ : ByteArray)]) ?_ 0 _ rfl; (with_reducible repeat (first | refine blk_drewN ?_ _ | refine blk_drew ?_ | refine blk_alloc ?_ _)); exact BK790.out⟩
   have n2_ : Aside0 (Below w.heap.size w ((((((((w12.setCell ⟨gb790, 0, none⟩ (.string t780)).setCell ⟨gb790, 1, none⟩ (.int .i64 t781)).setCell ⟨gb790, 2, none⟩ (.float .f64 t782)).setCell ⟨gb790, 3, none⟩ (.string t783)).setCell ⟨gb790, 4, none⟩ (.int .i64 t784)).setCell ⟨gb790, 5, none⟩ (.int .i64 t785)).setCell ⟨gb790, 6, none⟩ (.float .f64 t786)).setCell ⟨gb790, 7, none⟩ (.string t787))) := ⟨by repeat (first | (with_reducible first | exact HB.out | apply below_alloc | apply pw_below_drewN | apply below_drew1 | refine below_set ?_ GE779.out | refine below_set ?_ GE790.out) | exact HB.out)⟩
   (try clear BK779)
   (try clear BK790)
   (try clear HB)
   generalize ((((((((w12.setCell ⟨gb790, 0, none⟩ (.string t780)).setCell ⟨gb790, 1, none⟩ (.int .i64 t781)).setCell ⟨gb790, 2, none⟩ (.float .f64 t782)).setCell ⟨gb790, 3, none⟩ (.string t783)).setCell ⟨gb790, 4, none⟩ (.int .i64 t784)).setCell ⟨gb790, 5, none⟩ (.int .i64 t785)).setCell ⟨gb790, 6, none⟩ (.float .f64 t786)).setCell ⟨gb790, 7, none⟩ (.string t787)) = w15 at n0_ n1_ n2_ ⊢
   have BK779 := n0_
   have BK790 := n1_
   have HB := n2_
   clear n0_ n1_ n2_
   replace BK779 := Aside0.mk (blk_drew BK779.out)
   replace BK790 := Aside0.mk (blk_drew BK790.out)
   replace HB := Aside0.mk (below_drew1 HB.out)
   refine start_ (n := 15) (S := fun w' => w'.cell? ⟨gb779, 0, none⟩ = some (.string t769) ∧ w'.cell? ⟨gb779, 1, none⟩ = some (.int .i64 t770) ∧ w'.cell? ⟨gb779, 2, none⟩ = some (.float .f64 t771) ∧ w'.cell? ⟨gb779, 3, none⟩ = some (.string t772) ∧ w'.cell? ⟨gb779, 4, none⟩ = some (.int .i64 t773) ∧ w'.cell? ⟨gb779, 5, none⟩ = some (.int .i64 t774) ∧ w'.cell? ⟨gb779, 6, none⟩ = some (.float .f64 t775) ∧ w'.cell? ⟨gb779, 7, none⟩ = some (.string t776) ∧ w'.cell? ⟨gb790, 0, none⟩ = some (.string t780) ∧ w'.cell? ⟨gb790, 1, none⟩ = some (.int .i64 t781) ∧ w'.cell? ⟨gb790, 2, none⟩ = some (.float .f64 t782) ∧ w'.cell? ⟨gb790, 3, none⟩ = some (.string t783) ∧ w'.cell? ⟨gb790, 4, none⟩ = some (.int .i64 t784) ∧ w'.cell? ⟨gb790, 5, none⟩ = some (.int .i64 t785) ∧ w'.cell? ⟨gb790, 6, none⟩ = some (.float .f64 t786) ∧ w'.cell? ⟨gb790, 7, none⟩ = some (.string t787)) (ds := []) #[false, false, false, false, false, false, false, false, false, false, false, false, false, false, false] (by kernel_rfl) rfl rfl (bn8 BK779 (be8 BK790)) (fun hHeld => ?_); refine with_tabW engrosslaw10_tells.tab3 engrosslaw10_tells.bits3 (fun HT_ HW_ => ?_)
   generalize w15.drew = w16 at BK779 BK790 HB hHeld ⊢
   refine pure_ (i := 0) (N := some 21) (v := ?_) (a' := ?_) #[true, false, false, false, false, false, false, false, false, false, false, false, false, false, false] rfl rfl (any_of HT_.out (by kernel_rfl)) (fun _ _ _ h => h) (Or.inl ⟨by rfl, ?_⟩) ?_ ?_
   rotate_left
   ·intro w'
    go_simp
    with_reducible rfl
   rotate_left
   ·simp only [Act.put, List.setIfInBounds_toArray, List.set_cons_zero, List.set_cons_succ, i64_w, i32_w]
    rfl
   refine pure_ (i := 1) (N := some 22) (v := ?_) (a' := ?_) #[true, true, false, false, false, false, false, false, false, false, false, false, false, false, false] rfl rfl (any_of HT_.out (by kernel_rfl)) (fun _ _ _ h => h) (Or.inl ⟨by rfl, ?_⟩) ?_ ?_
   rotate_left
   ·intro w'
    go_simp
    with_reducible rfl
   rotate_left
   ·simp only [Act.put, List.setIfInBounds_toArray, List.set_cons_zero, List.set_cons_succ, i64_w, i32_w]
    rfl
   refine pure_ (i := 2) (N := some 23) (v := ?_) (a' := ?_) #[true, true, true, false, false, false, false, false, false, false, false, false, false, false, false] rfl rfl (any_of HT_.out (by kernel_rfl)) (fun _ _ _ h => h) (Or.inl ⟨by rfl, ?_⟩) ?_ ?_
   rotate_left
   ·intro w'
    go_simp
    with_reducible rfl
   rotate_left
   ·simp only [Act.put, List.setIfInBounds_toArray, List.set_cons_zero, List.set_cons_succ, i64_w, i32_w]
    rfl
   refine pure_ (i := 3) (N := some 24) (v := ?_) (a' := ?_) #[true, true, true, true, false, false, false, false, false, false, false, false, false, false, false] rfl rfl (any_of HT_.out (by kernel_rfl)) (fun _ _ _ h => h) (Or.inl ⟨by rfl, ?_⟩) ?_ ?_
   rotate_left
   ·intro w'
    go_simp
    with_reducible rfl
   rotate_left
   ·simp only [Act.put, List.setIfInBounds_toArray, List.set_cons_zero, List.set_cons_succ, i64_w, i32_w]
    rfl
   refine pure_ (i := 4) (N := some 25) (v := ?_) (a' := ?_) #[true, true, true, true, true, false, false, false, false, false, false, false, false, false, false] rfl rfl (any_of HT_.out (by kernel_rfl)) (fun _ _ _ h => h) (Or.inl ⟨by rfl, ?_⟩) ?_ ?_
   rotate_left
   ·intro w'
    go_simp
    with_reducible rfl
   rotate_left
   ·simp only [Act.put, List.setIfInBounds_toArray, List.set_cons_zero, List.set_cons_succ, i64_w, i32_w]
    rfl
   refine pure_ (i := 5) (N := some 26) (v := ?_) (a' := ?_) #[true, true, true, true, true, true, false, false, false, false, false, false, false, false, false] rfl rfl (any_of HT_.out (by kernel_rfl)) (fun _ _ _ h => h) (Or.inl ⟨by rfl, ?_⟩) ?_ ?_
   rotate_left
   ·intro w'
    go_simp
    with_reducible rfl
   rotate_left
   ·simp only [Act.put, List.setIfInBounds_toArray, List.set_cons_zero, List.set_cons_succ, i64_w, i32_w]
    rfl
   refine pure_ (i := 6) (N := some 27) (v := ?_) (a' := ?_) #[true, true, true, true, true, true, true, false, false, false, false, false, false, false, false] rfl rfl (any_of HT_.out (by kernel_rfl)) (fun _ _ _ h => h) (Or.inl ⟨by rfl, ?_⟩) ?_ ?_
   rotate_left
   ·intro w'
    go_simp
    with_reducible rfl
   rotate_left
   ·simp only [Act.put, List.setIfInBounds_toArray, List.set_cons_zero, List.set_cons_succ, i64_w, i32_w]
    rfl
   refine pure_ (i := 7) (N := some 28) (v := ?_) (a' := ?_) #[true, true, true, true, true, true, true, true, false, false, false, false, false, false, false] rfl rfl (any_of HT_.out (by kernel_rfl)) (fun _ _ _ h => h) (Or.inl ⟨by rfl, ?_⟩) ?_ ?_
   rotate_left
   ·intro w'
    go_simp
    with_reducible rfl
   rotate_left
   ·simp only [Act.put, List.setIfInBounds_toArray, List.set_cons_zero, List.set_cons_succ, i64_w, i32_w]
    rfl
   refine pure_ (i := 8) (N := some 29) (v := ?_) (a' := ?_) #[true, true, true, true, true, true, true, true, true, false, false, false, false, false, false] rfl rfl (any_of HT_.out (by kernel_rfl)) (fun _ _ _ h => h) (Or.inl ⟨by rfl, ?_⟩) ?_ ?_
   rotate_left
   ·intro w'
    go_simp
    with_reducible rfl
   rotate_left
   ·simp only [Act.put, List.setIfInBounds_toArray, List.set_cons_zero, List.set_cons_succ, i64_w, i32_w]
    rfl
   refine take_ (i := 9) (N := some 30) (v := ?_) (a' := ?_) #[true, true, true, true, true, true, true, true, true, true, false, false, false, false, false] rfl rfl (take_ofW HT_.out HW_.out (by kernel_rfl)) (fun _ _ _ h => h) (Or.inl ⟨by rfl, ?_⟩) hHeld ?_ ?_
   rotate_left
   ·rintro w' ⟨s0, s1, s2, s3, s4, s5, s6, s7, s8, s9, s10, s11, s12, s13, s14, s15⟩
    go_simp
    with_reducible rfl
   rotate_left
   ·simp only [Act.put, List.setIfInBounds_toArray, List.set_cons_zero, List.set_cons_succ, i64_w, i32_w]
    rfl
   refine take_ (i := 11) (N := some 32) (v := ?_) (a' := ?_) #[true, true, true, true, true, true, true, true, true, true, false, true, false, false, false] rfl rfl (take_ofW HT_.out HW_.out (by kernel_rfl)) (fun _ _ _ h => h) (Or.inl ⟨by rfl, ?_⟩) hHeld ?_ ?_
   rotate_left
   ·rintro w' ⟨s0, s1, s2, s3, s4, s5, s6, s7, s8, s9, s10, s11, s12, s13, s14, s15⟩
    go_simp
    with_reducible rfl
   rotate_left
   ·simp only [Act.put, List.setIfInBounds_toArray, List.set_cons_zero, List.set_cons_succ, i64_w, i32_w]
    rfl
   refine one_ (i := 10) (N := some 31) #[true, true, true, true, true, true, true, true, true, true, true, true, false, false, false] rfl rfl (one_of HT_.out (by kernel_rfl)) (by decide) (fun K hK => ?_)
   refine goes_ Try.func25 (by kernel_rfl) rfl #[.agg #[.string t769, .int .i64 t770, .float .f64 t771, .string t772, .int .i64 t773, .int .i64 t774, .float .f64 t775, .string t776]] (by rfl) rfl rfl (by (try simp only [List.map_toArray, List.map_cons, List.map_nil]); first | done | rfl | (simp only [List.length_drop, List.length_take]; rfl)) ?_
   with_reducible refine (engrosslaw10_Back.calls t769 t770 t771 t772 t773 t774 t775 t776 t791 t792 t793 t794 t795 t796 t797 t798 _ A6.out).mono ?_
   rintro e w17 ⟨rfl, hb⟩
   refine ⟨_, rfl, ?_⟩
   replace BK779 := bB BK779 hb
   replace BK790 := bB BK790 hb
   replace HB := bW HB hb
   (try clear hb)
   (try clear hb2)
   (try clear hk)
   (try clear hi)
   refine hK.out _ _ (bn8 BK779 (be8 BK790)) (fun hHeld => ?_)
   clear hK K
   refine norm_ (a' := ?_) ?_ ?_
   rotate_left
   ·show Act.put _ (some 31) _ = _
    simp only [Act.put, List.setIfInBounds_toArray, List.set_cons_zero, List.set_cons_succ, i64_w, i32_w]
    rfl
   refine one_ (i := 12) (N := some 33) #[true, true, true, true, true, true, true, true, true, true, true, true, true, false, false] rfl rfl (one_of HT_.out (by kernel_rfl)) (by decide) (fun K hK => ?_)
   refine goes_ Try.func20 (by kernel_rfl) rfl #[.agg #[.string t791, .int .i64 t792, .float .f64 t793, .string t794, .int .i64 t795, .int .i64 t796, .float .f64 t797, .string t798], .agg #[.string t780, .int .i64 t781, .float .f64 t782, .string t783, .int .i64 t784, .int .i64 t785, .float .f64 t786, .string t787]] (by rfl) rfl rfl (by (try simp only [List.map_toArray, List.map_cons, List.map_nil]); first | done | rfl | (simp only [List.length_drop, List.length_take]; rfl)) ?_
   with_reducible refine (engrossref10_Eq.calls t791 t792 t793 t794 t795 t796 t797 t798 t780 t781 t782 t783 t784 t785 t786 t787 t799 _ A7.out).mono ?_
   rintro e w18 ⟨rfl, hb⟩
   refine ⟨_, rfl, ?_⟩
   replace BK779 := bB BK779 hb
   replace BK790 := bB BK790 hb
   replace HB := bW HB hb
   (try clear hb)
   (try clear hb2)
   (try clear hk)
   (try clear hi)
   refine hK.out _ _ (bn8 BK779 (be8 BK790)) (fun hHeld => ?_)
   clear hK K
   refine norm_ (a' := ?_) ?_ ?_
   rotate_left
   ·show Act.put _ (some 33) _ = _
    simp only [Act.put, List.setIfInBounds_toArray, List.set_cons_zero, List.set_cons_succ, i64_w, i32_w]
    rfl
   refine pure_ (i := 13) (N := some 34) (v := ?_) (a' := ?_) #[true, true, true, true, true, true, true, true, true, true, true, true, true, true, false] rfl rfl (any_of HT_.out (by kernel_rfl)) (fun _ _ _ h => h) (Or.inl ⟨by rfl, ?_⟩) ?_ ?_
   rotate_left
   ·intro w'
    go_simp
    with_reducible rfl
   rotate_left
   ·simp only [Act.put, List.setIfInBounds_toArray, List.set_cons_zero, List.set_cons_succ, i64_w, i32_w]
    rfl
   refine pure_ (i := 14) (N := some 2) (v := ?_) (a' := ?_) #[true, true, true, true, true, true, true, true, true, true, true, true, true, true, true] rfl rfl (any_of HT_.out (by kernel_rfl)) (fun _ _ _ h => h) (Or.inl ⟨by rfl, ?_⟩) ?_ ?_
   rotate_left
   ·intro w'
    go_simp
    with_reducible rfl
   rotate_left
   ·simp only [Act.put, List.setIfInBounds_toArray, List.set_cons_zero, List.set_cons_succ, i64_w, i32_w]
    rfl
   refine done_ (done_of HT_.out (by kernel_rfl)) ?_
   try go_wp2
   go_ret
   exact ⟨by first | rfl | (simp [errW_none, errW_some] <;> rfl) | (simp [*, errW_none, errW_some] <;> rfl), by repeat (first | (with_reducible first | exact HB.out | apply below_alloc | apply pw_below_drewN | apply below_drew1 | refine below_set ?_ GE779.out | refine below_set ?_ GE790.out) | exact HB.out)⟩
  ·rw [if_neg c5] at H
   have c5b0 : (t777 == t788) = false := beq_eq_false_iff_ne.mpr c5
   have c5b1 : (t777 != t788) = true := bne_iff_ne.mpr c5
   exact absurd H (by simp)
 ·rw [if_neg c4] at H
  have c4b0 : (t778 == t789) = false := beq_eq_false_iff_ne.mpr c4
  have c4b1 : (t778 != t789) = true := bne_iff_ne.mpr c4
  exact absurd H (by simp)

/-! ### engrosslaw10_CellAny: function 5 -/
def engrosslaw10_CellAny.j0 : Nat → Int → Int → Bool → ByteArray → Int → Nat → ByteArray → Int → Int → Nat → ByteArray → Option (Bool)
 | 0, _, _, _, _, _, _, _, _, _, _, _ => none
 | k + 1, x2, x3, x27, x801000, x801001, x801002, x801003, x801004, x801005, x801006, x801007 => if x27 = true then (some true) else ((engrossref10_Bytes.f k x801000 x801001 x801002 x801003 x801004 x801005 x801006 x801007).bind fun t815 => (if (t815.length : Int) = 0 then (none) else (if 0 ≤ (Int.tmod x2 (t815.length : Int)) then (if (Int.tmod x2 (t815.length : Int)) < (t815.length : Int) then ((some (t815.set ((Int.tmod x2 (t815.length : Int)) : Int).toNat (Go.bits .xor .u8 (rd t815 (Int.tmod x2 (t815.length : Int))) x3) : List Int)).bind fun y819 => ((engrosslaw10_tells.f k y819).bind fun t820 => (if t820 = true then (if (Int.tmod x2 (t815.length : Int)) ≤ (t815.length : Int) then ((engrosslaw10_tells.f k (y819.take ((Int.tmod x2 (t815.length : Int)) : Int).toNat)).bind fun t825 => (some t825)) else (none)) else (none)))) else (none)) else (none))))
def engrosslaw10_CellAny.f (k : Nat) (l0 : List Int) (a1_0 : ByteArray) (a1_1 : Int) (a1_2 : Nat) (a1_3 : ByteArray) (a1_4 : Int) (a1_5 : Int) (a1_6 : Nat) (a1_7 : ByteArray) (a2 : Int) (a3 : Int) : Option (Bool) := (engrosslaw10_begun.f k).bind fun t801 => (if t801 = true then ((engrosslaw1_Short.f l0 60).bind fun t802 => ((engrosslaw10_Cut.f a1_0 a1_1 a1_2 a1_3 a1_4 a1_5 a1_6 a1_7).bind fun bt805 => ((engrosslaw10_tells.f k t802).bind fun t813 => (if t813 = true then ((engrossref10_May.f bt805.1 bt805.2.1 bt805.2.2.1 bt805.2.2.2.1 bt805.2.2.2.2.1 bt805.2.2.2.2.2.1 bt805.2.2.2.2.2.2.1 bt805.2.2.2.2.2.2.2).bind fun t814 => (if t814 = true then (engrosslaw10_CellAny.j0 k a2 a3 (decide (a2 < 0)) bt805.1 bt805.2.1 bt805.2.2.1 bt805.2.2.2.1 bt805.2.2.2.2.1 bt805.2.2.2.2.2.1 bt805.2.2.2.2.2.2.1 bt805.2.2.2.2.2.2.2) else (engrosslaw10_CellAny.j0 k a2 a3 true bt805.1 bt805.2.1 bt805.2.2.1 bt805.2.2.2.1 bt805.2.2.2.2.1 bt805.2.2.2.2.2.1 bt805.2.2.2.2.2.2.1 bt805.2.2.2.2.2.2.2))) else (none))))) else (none))
theorem engrosslaw10_CellAny.mono_l : ∀ k, (∀ y0 y1 y2 y3 y4 y5 y6 y7 y8 y9 y10, LeO (engrosslaw10_CellAny.j0 k y0 y1 y2 y3 y4 y5 y6 y7 y8 y9 y10) (engrosslaw10_CellAny.j0 (k + 1) y0 y1 y2 y3 y4 y5 y6 y7 y8 y9 y10))
 | 0 => fun _ _ _ _ _ _ _ _ _ _ _ r h => by simp [engrosslaw10_CellAny.j0] at h
 | k + 1 => by
  have ih0 := engrosslaw10_CellAny.mono_l k
  ·intro y0 y1 y2 y3 y4 y5 y6 y7 y8 y9 y10
   unfold engrosslaw10_CellAny.j0
   repeat' first
   | (with_reducible exact ih0 _ _ _ _ _ _ _ _ _ _ _)
   | (with_reducible exact engrosslaw10_begun.mono _)
   | (with_reducible exact engrosslaw10_tells.mono _ _)
   | (with_reducible exact engrossref10_Bytes.mono _ _ _ _ _ _ _ _ _)
   | (with_reducible exact LeO.refl _)
   | (with_reducible exact LeO.none _)
   | (with_reducible refine LeO.ite ?_ ?_)
   | (with_reducible refine LeO.bind ?_ (fun _ => ?_))
   | exact ih0 _ _ _ _ _ _ _ _ _ _ _
   | exact engrosslaw10_begun.mono _
   | exact engrosslaw10_tells.mono _ _
   | exact engrossref10_Bytes.mono _ _ _ _ _ _ _ _ _
   | exact LeO.none _
   | refine LeO.ite ?_ ?_
   | refine LeO.bind ?_ (fun _ => ?_)
theorem engrosslaw10_CellAny.mono : ∀ a0 a1 a2 a3 a4 a5 a6 a7 a8 a9 a10 k, LeO (engrosslaw10_CellAny.f k a0 a1 a2 a3 a4 a5 a6 a7 a8 a9 a10) (engrosslaw10_CellAny.f (k + 1) a0 a1 a2 a3 a4 a5 a6 a7 a8 a9 a10) := by
 intro a0 a1 a2 a3 a4 a5 a6 a7 a8 a9 a10 k
 have ih0 := engrosslaw10_CellAny.mono_l k
 unfold engrosslaw10_CellAny.f
 repeat' first
   | (with_reducible exact ih0 _ _ _ _ _ _ _ _ _ _ _)
   | (with_reducible exact engrosslaw10_begun.mono _)
   | (with_reducible exact engrosslaw10_tells.mono _ _)
   | (with_reducible exact engrossref10_Bytes.mono _ _ _ _ _ _ _ _ _)
   | (with_reducible exact LeO.refl _)
   | (with_reducible exact LeO.none _)
   | (with_reducible refine LeO.ite ?_ ?_)
   | (with_reducible refine LeO.bind ?_ (fun _ => ?_))
   | exact ih0 _ _ _ _ _ _ _ _ _ _ _
   | exact engrosslaw10_begun.mono _
   | exact engrosslaw10_tells.mono _ _
   | exact engrossref10_Bytes.mono _ _ _ _ _ _ _ _ _
   | exact LeO.none _
   | refine LeO.ite ?_ ?_
   | refine LeO.bind ?_ (fun _ => ?_)
set_option maxHeartbeats 8000000 in
set_option maxRecDepth 100000 in
theorem engrosslaw10_CellAny.calls (k : Nat) (A0 : Option Addr) (c0 : Nat) (l0 : List Int) (a1_0 : ByteArray) (a1_1 : Int) (a1_2 : Nat) (a1_3 : ByteArray) (a1_4 : Int) (a1_5 : Int) (a1_6 : Nat) (a1_7 : ByteArray) (a2 : Int) (a3 : Int) (r : Bool) (w : World) (hr0 : Kd.C (Kd.int .u8) w A0 l0.length l0) (hc0 : l0.length ≤ c0) (h : engrosslaw10_CellAny.f k l0 a1_0 a1_1 a1_2 a1_3 a1_4 a1_5 a1_6 a1_7 a2 a3 = some r) :
  Calls Try.prog 5 #[.slice A0 l0.length c0, .agg #[.string a1_0, .int .i64 a1_1, .float .f64 a1_2, .string a1_3, .int .i64 a1_4, .int .i64 a1_5, .float .f64 a1_6, .string a1_7], .int .i64 a2, .int .u8 a3] w fun e w' => e = .returned (.bool r) ∧ Below w.heap.size w w' := by
 have hu26 := Try.underlying26
 have HR0 := Aside0.mk hr0
 have HC0 := Aside0.mk hc0
 clear hr0 hc0
 have HB := Aside0.mk (Below.refl w.heap.size w)
 have H : ((engrosslaw10_begun.f k).bind fun t801 => (if t801 = true then ((engrosslaw1_Short.f l0 60).bind fun t802 => ((engrosslaw10_Cut.f a1_0 a1_1 a1_2 a1_3 a1_4 a1_5 a1_6 a1_7).bind fun bt805 => ((engrosslaw10_tells.f k t802).bind fun t813 => (if t813 = true then ((engrossref10_May.f bt805.1 bt805.2.1 bt805.2.2.1 bt805.2.2.2.1 bt805.2.2.2.2.1 bt805.2.2.2.2.2.1 bt805.2.2.2.2.2.2.1 bt805.2.2.2.2.2.2.2).bind fun t814 => (if t814 = true then (engrosslaw10_CellAny.j0 k a2 a3 (decide (a2 < 0)) bt805.1 bt805.2.1 bt805.2.2.1 bt805.2.2.2.1 bt805.2.2.2.2.1 bt805.2.2.2.2.2.1 bt805.2.2.2.2.2.2.1 bt805.2.2.2.2.2.2.2) else (engrosslaw10_CellAny.j0 k a2 a3 true bt805.1 bt805.2.1 bt805.2.2.1 bt805.2.2.2.1 bt805.2.2.2.2.1 bt805.2.2.2.2.2.1 bt805.2.2.2.2.2.2.1 bt805.2.2.2.2.2.2.2))) else (none))))) else (none))) = some r := h
 clear h
 replace H := Option.bind_eq_some_iff.mp H
 obtain ⟨t801, A50, H⟩ := H
 replace H : (if t801 = true then ((engrosslaw1_Short.f l0 60).bind fun t802 => ((engrosslaw10_Cut.f a1_0 a1_1 a1_2 a1_3 a1_4 a1_5 a1_6 a1_7).bind fun bt805 => ((engrosslaw10_tells.f k t802).bind fun t813 => (if t813 = true then ((engrossref10_May.f bt805.1 bt805.2.1 bt805.2.2.1 bt805.2.2.2.1 bt805.2.2.2.2.1 bt805.2.2.2.2.2.1 bt805.2.2.2.2.2.2.1 bt805.2.2.2.2.2.2.2).bind fun t814 => (if t814 = true then (engrosslaw10_CellAny.j0 k a2 a3 (decide (a2 < 0)) bt805.1 bt805.2.1 bt805.2.2.1 bt805.2.2.2.1 bt805.2.2.2.2.1 bt805.2.2.2.2.2.1 bt805.2.2.2.2.2.2.1 bt805.2.2.2.2.2.2.2) else (engrosslaw10_CellAny.j0 k a2 a3 true bt805.1 bt805.2.1 bt805.2.2.1 bt805.2.2.2.1 bt805.2.2.2.2.1 bt805.2.2.2.2.2.1 bt805.2.2.2.2.2.2.1 bt805.2.2.2.2.2.2.2))) else (none))))) else (none)) = some r := H
 have A5 := Aside0.mk A50
 clear A50
 by_cases c6 : t801 = true
 ·subst c6
  have H1 : ((engrosslaw1_Short.f l0 60).bind fun t802 => ((engrosslaw10_Cut.f a1_0 a1_1 a1_2 a1_3 a1_4 a1_5 a1_6 a1_7).bind fun bt805 => ((engrosslaw10_tells.f k t802).bind fun t813 => (if t813 = true then ((engrossref10_May.f bt805.1 bt805.2.1 bt805.2.2.1 bt805.2.2.2.1 bt805.2.2.2.2.1 bt805.2.2.2.2.2.1 bt805.2.2.2.2.2.2.1 bt805.2.2.2.2.2.2.2).bind fun t814 => (if t814 = true then (engrosslaw10_CellAny.j0 k a2 a3 (decide (a2 < 0)) bt805.1 bt805.2.1 bt805.2.2.1 bt805.2.2.2.1 bt805.2.2.2.2.1 bt805.2.2.2.2.2.1 bt805.2.2.2.2.2.2.1 bt805.2.2.2.2.2.2.2) else (engrosslaw10_CellAny.j0 k a2 a3 true bt805.1 bt805.2.1 bt805.2.2.1 bt805.2.2.2.1 bt805.2.2.2.2.1 bt805.2.2.2.2.2.1 bt805.2.2.2.2.2.2.1 bt805.2.2.2.2.2.2.2))) else (none))))) = some r := by rw [if_pos rfl] at H; exact H
  clear H
  have H := H1
  clear H1
  replace H := Option.bind_eq_some_iff.mp H
  obtain ⟨t802, A70, H⟩ := H
  replace H : ((engrosslaw10_Cut.f a1_0 a1_1 a1_2 a1_3 a1_4 a1_5 a1_6 a1_7).bind fun bt805 => ((engrosslaw10_tells.f k t802).bind fun t813 => (if t813 = true then ((engrossref10_May.f bt805.1 bt805.2.1 bt805.2.2.1 bt805.2.2.2.1 bt805.2.2.2.2.1 bt805.2.2.2.2.2.1 bt805.2.2.2.2.2.2.1 bt805.2.2.2.2.2.2.2).bind fun t814 => (if t814 = true then (engrosslaw10_CellAny.j0 k a2 a3 (decide (a2 < 0)) bt805.1 bt805.2.1 bt805.2.2.1 bt805.2.2.2.1 bt805.2.2.2.2.1 bt805.2.2.2.2.2.1 bt805.2.2.2.2.2.2.1 bt805.2.2.2.2.2.2.2) else (engrosslaw10_CellAny.j0 k a2 a3 true bt805.1 bt805.2.1 bt805.2.2.1 bt805.2.2.2.1 bt805.2.2.2.2.1 bt805.2.2.2.2.2.1 bt805.2.2.2.2.2.2.1 bt805.2.2.2.2.2.2.2))) else (none)))) = some r := H
  have A7 := Aside0.mk A70
  clear A70
  replace H := Option.bind_eq_some_iff.mp H
  obtain ⟨⟨t805, t806, t807, t808, t809, t810, t811, t812⟩, A80, H⟩ := H
  replace H : ((engrosslaw10_tells.f k t802).bind fun t813 => (if t813 = true then ((engrossref10_May.f t805 t806 t807 t808 t809 t810 t811 t812).bind fun t814 => (if t814 = true then (engrosslaw10_CellAny.j0 k a2 a3 (decide (a2 < 0)) t805 t806 t807 t808 t809 t810 t811 t812) else (engrosslaw10_CellAny.j0 k a2 a3 true t805 t806 t807 t808 t809 t810 t811 t812))) else (none))) = some r := H
  have A8 := Aside0.mk A80
  clear A80
  replace H := Option.bind_eq_some_iff.mp H
  obtain ⟨t813, A90, H⟩ := H
  replace H : (if t813 = true then ((engrossref10_May.f t805 t806 t807 t808 t809 t810 t811 t812).bind fun t814 => (if t814 = true then (engrosslaw10_CellAny.j0 k a2 a3 (decide (a2 < 0)) t805 t806 t807 t808 t809 t810 t811 t812) else (engrosslaw10_CellAny.j0 k a2 a3 true t805 t806 t807 t808 t809 t810 t811 t812))) else (none)) = some r := H
  have A9 := Aside0.mk A90
  clear A90
  by_cases c10 : t813 = true
  ·subst c10
   have H1 : ((engrossref10_May.f t805 t806 t807 t808 t809 t810 t811 t812).bind fun t814 => (if t814 = true then (engrosslaw10_CellAny.j0 k a2 a3 (decide (a2 < 0)) t805 t806 t807 t808 t809 t810 t811 t812) else (engrosslaw10_CellAny.j0 k a2 a3 true t805 t806 t807 t808 t809 t810 t811 t812))) = some r := by rw [if_pos rfl] at H; exact H
   clear H
   have H := H1
   clear H1
   have HC11 := Aside0.mk H
   clear H
   go_enter Try.func5, Try.ntmps5
   try go_wp2_with (first | ((with_reducible refine gate_dst (N := 5) rfl ?_); (try (refine gate_guard (by rfl) ?_; dsimp only)); refine box_event ?hg (N := 5) ?hd (cs := #[.string a1_0, .int .i64 a1_1, .float .f64 a1_2, .string a1_3, .int .i64 a1_4, .int .i64 a1_5, .float .f64 a1_6, .string a1_7]) (t := 26) ?hr ?_; (case hd => rfl); (case hg => rfl); (case hr => first | (go_simp; done) | (go_simp; rfl)); intro gb800 hg w12 hbox hb; have BK800 := Aside0.mk (hbox); have GW800 := bZ HB hg; have GE800 := bZ HB hg; replace HB := bW HB hb; clear hb hbox hg) | ((with_reducible refine gate_callee (f := 10) rfl ?_); refine goesL_ (some 11) rfl rfl Try.func10 (by kernel_rfl) rfl #[] rfl (by (try simp only [List.map_toArray, List.map_cons, List.map_nil]); first | done | rfl | (simp only [List.length_drop, List.length_take]; rfl)) ?_; (with_reducible refine (engrosslaw10_begun.calls k  true _ A5.out).mono ?_); rintro e w13 ⟨rfl, hb⟩; refine ⟨_, rfl, ?_⟩; replace BK800 := bB BK800 hb; replace HB := bW HB hb; (try clear hb); (try clear hb2); (try clear hk); (try clear hi)))
   replace BK800 := Aside0.mk (blk_drew BK800.out)
   replace HB := Aside0.mk (below_drew1 HB.out)
   refine start_ (n := 6) (S := fun w' => w'.cell? ⟨gb800, 0, none⟩ = some (.string a1_0) ∧ w'.cell? ⟨gb800, 1, none⟩ = some (.int .i64 a1_1) ∧ w'.cell? ⟨gb800, 2, none⟩ = some (.float .f64 a1_2) ∧ w'.cell? ⟨gb800, 3, none⟩ = some (.string a1_3) ∧ w'.cell? ⟨gb800, 4, none⟩ = some (.int .i64 a1_4) ∧ w'.cell? ⟨gb800, 5, none⟩ = some (.int .i64 a1_5) ∧ w'.cell? ⟨gb800, 6, none⟩ = some (.float .f64 a1_6) ∧ w'.cell? ⟨gb800, 7, none⟩ = some (.string a1_7)) (ds := [5]) #[false, false, false, false, false, false] (by kernel_rfl) rfl rfl (be8 BK800) (fun hHeld => ?_)
   generalize w13.drew = w14 at BK800 HB hHeld ⊢
   refine pure_ (i := 0) (N := some 14) (v := ?_) (a' := ?_) #[true, false, false, false, false, false] rfl rfl (by kernel_rfl) (fun _ _ _ h => h) (Or.inl ⟨by rfl, ?_⟩) ?_ ?_
   rotate_left
   ·intro w'
    go_simp
    with_reducible rfl
   rotate_left
   ·simp only [Act.put, List.setIfInBounds_toArray, List.set_cons_zero, List.set_cons_succ, i64_w, i32_w]
    rfl
   refine take_ (i := 2) (N := some 16) (v := ?_) (a' := ?_) #[true, false, true, false, false, false] rfl rfl (by kernel_rfl) (fun _ _ _ h => h) (Or.inl ⟨by rfl, ?_⟩) hHeld ?_ ?_
   rotate_left
   ·rintro w' ⟨s0, s1, s2, s3, s4, s5, s6, s7⟩
    go_simp
    with_reducible rfl
   rotate_left
   ·simp only [Act.put, List.setIfInBounds_toArray, List.set_cons_zero, List.set_cons_succ, i64_w, i32_w]
    rfl
   refine one_ (i := 1) (N := some 15) #[true, true, true, false, false, false] rfl rfl (by kernel_rfl) (by decide) (fun K hK => ?_)
   refine goes_ Try.func28 (by kernel_rfl) rfl #[.slice A0 l0.length c0, .int .i64 60] (by rfl) rfl rfl (by (try simp only [List.map_toArray, List.map_cons, List.map_nil]); first | done | rfl | (simp only [List.length_drop, List.length_take]; rfl)) ?_
   with_reducible refine (engrosslaw1_Short.calls (fun k_ => k_ < w.heap.size) _ _ l0 60 t802 _ ?side1 A7.out).mono ?_
   (case side1 => exact Kd.V_mk HC0.out (Kd.F_below (Kd.C_F (Kd.heap_int .u8) HR0.out) (bC HB)))
   rintro e w15 ⟨v803, rfl, ho0, hb⟩
   refine ⟨_, rfl, ?_⟩
   have HO804 := Aside0.mk (Kd.V_lower (Kd.V_mono (ok' := fun k_ => k_ ≠ gb800) ho0 (fun k_ hk_ => Or.elim hk_ (fun hs_ => fun e_ => Nat.not_le.2 hs_ (by rw [e_]; exact GW800.out)) (fun hn_ => (Kd.freshB (bQ BK800) k_ hn_)))) (below_size (bC HB)))
   replace BK800 := bB BK800 hb
   replace HB := bW HB hb
   (try clear hb)
   (try clear hb2)
   (try clear hk)
   (try clear hi)
   (try clear ho0)
   refine hK.out _ _ (be8 BK800) (fun hHeld => ?_)
   clear hK K
   refine norm_ (a' := ?_) ?_ ?_
   rotate_left
   ·show Act.put _ (some 15) _ = _
    simp only [Act.put, List.setIfInBounds_toArray, List.set_cons_zero, List.set_cons_succ, i64_w, i32_w]
    rfl
   refine one_ (i := 3) (N := some 17) #[true, true, true, true, false, false] rfl rfl (by kernel_rfl) (by decide) (fun K hK => ?_)
   refine goes_ Try.func11 (by kernel_rfl) rfl #[.agg #[.string a1_0, .int .i64 a1_1, .float .f64 a1_2, .string a1_3, .int .i64 a1_4, .int .i64 a1_5, .float .f64 a1_6, .string a1_7]] (by rfl) rfl rfl (by (try simp only [List.map_toArray, List.map_cons, List.map_nil]); first | done | rfl | (simp only [List.length_drop, List.length_take]; rfl)) ?_
   with_reducible refine (engrosslaw10_Cut.calls a1_0 a1_1 a1_2 a1_3 a1_4 a1_5 a1_6 a1_7 t805 t806 t807 t808 t809 t810 t811 t812 _ A8.out).mono ?_
   rintro e w16 ⟨rfl, hb⟩
   refine ⟨_, rfl, ?_⟩
   replace HO804 := Aside0.mk (Kd.V_below (by (with_reducible repeat (first | apply Kd.V_alloc | apply Kd.V_drewN | apply Kd.V_drew)); exact HO804.out) hb)
   replace BK800 := bB BK800 hb
   replace HB := bW HB hb
   (try clear hb)
   (try clear hb2)
   (try clear hk)
   (try clear hi)
   refine hK.out _ _ (be8 BK800) (fun hHeld => ?_)
   clear hK K
   refine norm_ (a' := ?_) ?_ ?_
   rotate_left
   ·show Act.put _ (some 17) _ = _
    simp only [Act.put, List.setIfInBounds_toArray, List.set_cons_zero, List.set_cons_succ, i64_w, i32_w]
    rfl
   refine pure_ (i := 4) (N := some 0) (v := ?_) (a' := ?_) #[true, true, true, true, true, false] rfl rfl (by kernel_rfl) (fun _ _ _ h => h) (Or.inl ⟨by rfl, ?_⟩) ?_ ?_
   rotate_left
   ·intro w'
    go_simp
    with_reducible rfl
   rotate_left
   ·simp only [Act.put, List.setIfInBounds_toArray, List.set_cons_zero, List.set_cons_succ, i64_w, i32_w]
    rfl
   refine last_ (i := 5) (N := none) #[true, true, true, true, true, true] rfl rfl (by kernel_rfl) (by decide) (fun K hK => ?_)
   have hs17 : w16.cell? ⟨gb800, 0, none⟩ = some (.string a1_0) := (blk_cell BK800.out 0).trans rfl
   have hfs17 := blk_frozen BK800.out 0
   have hs18 : w16.cell? ⟨gb800, 1, none⟩ = some (.int .i64 a1_1) := (blk_cell BK800.out 1).trans rfl
   have hfs18 := blk_frozen BK800.out 1
   have hs19 : w16.cell? ⟨gb800, 2, none⟩ = some (.float .f64 a1_2) := (blk_cell BK800.out 2).trans rfl
   have hfs19 := blk_frozen BK800.out 2
   have hs20 : w16.cell? ⟨gb800, 3, none⟩ = some (.string a1_3) := (blk_cell BK800.out 3).trans rfl
   have hfs20 := blk_frozen BK800.out 3
   have hs21 : w16.cell? ⟨gb800, 4, none⟩ = some (.int .i64 a1_4) := (blk_cell BK800.out 4).trans rfl
   have hfs21 := blk_frozen BK800.out 4
   have hs22 : w16.cell? ⟨gb800, 5, none⟩ = some (.int .i64 a1_5) := (blk_cell BK800.out 5).trans rfl
   have hfs22 := blk_frozen BK800.out 5
   have hs23 : w16.cell? ⟨gb800, 6, none⟩ = some (.float .f64 a1_6) := (blk_cell BK800.out 6).trans rfl
   have hfs23 := blk_frozen BK800.out 6
   have hs24 : w16.cell? ⟨gb800, 7, none⟩ = some (.string a1_7) := (blk_cell BK800.out 7).trans rfl
   have hfs24 := blk_frozen BK800.out 7
   with_reducible refine skip_ (w1 := ?_) (by with_unfolding_all rfl) (by with_unfolding_all rfl) ?_ ?_
   rotate_left
   ·go_simp
    rfl
   refine hK.out _ _ ?_
   clear hK K
   refine done_ (by kernel_rfl) ?_
   obtain ⟨Ao25, co25, eo25⟩ := Kd.V_slice HO804.out
   subst eo25
   go_upto_region 7 with (first | ((with_reducible refine gate_callee (f := 32) rfl ?_); refine goesL_ (some 19) rfl rfl Try.func32 (by kernel_rfl) rfl #[.slice Ao25 t802.length co25] rfl (by (try simp only [List.map_toArray, List.map_cons, List.map_nil]); first | done | rfl | (simp only [List.length_drop, List.length_take]; rfl)) ?_; (with_reducible refine (engrosslaw10_tells.calls k _ _ t802 true _ ?side1 ?side2 A9.out).mono ?_); (case side1 => refine (Kd.V_reads' (e := 5) (base := w.heap.size) (ok := fun k_ => k_ ≠ gb800) (n := t802.length) (c := co25) ?_).2.2; exact (by (with_reducible repeat (first | apply Kd.V_alloc | apply Kd.V_drewN | apply Kd.V_drew)); exact (Kd.V_mono (Kd.V_far (p := ⟨gb800, 7, none⟩) (Kd.V_far (p := ⟨gb800, 6, none⟩) (Kd.V_far (p := ⟨gb800, 5, none⟩) (Kd.V_far (p := ⟨gb800, 4, none⟩) (Kd.V_far (p := ⟨gb800, 3, none⟩) (Kd.V_far (p := ⟨gb800, 2, none⟩) (Kd.V_far (p := ⟨gb800, 1, none⟩) (Kd.V_far (p := ⟨gb800, 0, none⟩) (Kd.V_mono HO804.out (fun k_ hk => (⟨hk, hk⟩ : _ ∧ k_ ≠ gb800))) (fun _ hk => hk.2) (.string t805)) (fun _ hk => hk.2) (.int .i64 t806)) (fun _ hk => hk.2) (.float .f64 t807)) (fun _ hk => hk.2) (.string t808)) (fun _ hk => hk.2) (.int .i64 t809)) (fun _ hk => hk.2) (.int .i64 t810)) (fun _ hk => hk.2) (.float .f64 t811)) (fun _ hk => hk.2) (.string t812)) (fun _ h_ => h_.1)))); (case side2 => exact (Kd.V_reads' HO804.out).2.1); rintro e w26 ⟨rfl, hb⟩; refine ⟨_, rfl, ?_⟩; replace HO804 := Aside0.mk (Kd.V_below (by (with_reducible repeat (first | apply Kd.V_alloc | apply Kd.V_drewN | apply Kd.V_drew)); exact (Kd.V_mono (Kd.V_far (p := ⟨gb800, 7, none⟩) (Kd.V_far (p := ⟨gb800, 6, none⟩) (Kd.V_far (p := ⟨gb800, 5, none⟩) (Kd.V_far (p := ⟨gb800, 4, none⟩) (Kd.V_far (p := ⟨gb800, 3, none⟩) (Kd.V_far (p := ⟨gb800, 2, none⟩) (Kd.V_far (p := ⟨gb800, 1, none⟩) (Kd.V_far (p := ⟨gb800, 0, none⟩) (Kd.V_mono HO804.out (fun k_ hk => (⟨hk, hk⟩ : _ ∧ k_ ≠ gb800))) (fun _ hk => hk.2) (.string t805)) (fun _ hk => hk.2) (.int .i64 t806)) (fun _ hk => hk.2) (.float .f64 t807)) (fun _ hk => hk.2) (.string t808)) (fun _ hk => hk.2) (.int .i64 t809)) (fun _ hk => hk.2) (.int .i64 t810)) (fun _ hk => hk.2) (.float .f64 t811)) (fun _ hk => hk.2) (.string t812)) (fun _ h_ => h_.1))) hb); replace BK800 := Aside0.mk (blk_below (g := gb800) (o := .cells #[.string t805, .int .i64 t806, .float .f64 t807, .string t808, .int .i64 t809, .int .i64 t810, .float .f64 t811, .string t812] 26 (0, 0)) (bR BK800) hb); replace HB := bW HB hb; (try clear hb); (try clear hb2); (try clear hk); (try clear hi)))
   (try simp only [Act.put, List.setIfInBounds_toArray, List.set_cons_zero, List.set_cons_succ])
   go_cut [27] (fun v27 wc => ∃ (kq : Nat) (x27_10 : Bool), v27 = .bool x27_10 ∧ Aside0 (engrosslaw10_CellAny.j0 kq a2 a3 x27_10 t805 t806 t807 t808 t809 t810 t811 t812 = some r) ∧ Aside0 (kq ≤ k) ∧ Aside0 (wc.heap[gb800]? = some (.cells #[.string t805, .int .i64 t806, .float .f64 t807, .string t808, .int .i64 t809, .int .i64 t810, .float .f64 t811, .string t812] 26 (0, 0))) ∧ Aside0 (Below w.heap.size w wc))
   case first =>
    have H := HC11.out
    clear HC11
    replace H := Option.bind_eq_some_iff.mp H
    obtain ⟨t814, A270, H⟩ := H
    replace H : (if t814 = true then (engrosslaw10_CellAny.j0 k a2 a3 (decide (a2 < 0)) t805 t806 t807 t808 t809 t810 t811 t812) else (engrosslaw10_CellAny.j0 k a2 a3 true t805 t806 t807 t808 t809 t810 t811 t812)) = some r := H
    have A27 := Aside0.mk A270
    clear A270
    by_cases c28 : t814 = true
    ·subst c28
     have H1 : (engrosslaw10_CellAny.j0 k a2 a3 (decide (a2 < 0)) t805 t806 t807 t808 t809 t810 t811 t812) = some r := by rw [if_pos rfl] at H; exact H
     clear H
     have H := H1
     clear H1
     have H' := Aside0.mk H
     clear H
     obtain ⟨hcz29_0, hcz29_1, hcz29_2, hcz29_3, hcz29_4, hcz29_5, hcz29_6, hcz29_7, hfz29_0, hfz29_1, hfz29_2, hfz29_3, hfz29_4, hfz29_5, hfz29_6, hfz29_7⟩ := bf8 (w := w26) BK800
     go_wp2_with (first | ((with_reducible refine gate_callee (f := 15) rfl ?_); refine goesL_ (some 22) rfl rfl Try.func15 (by kernel_rfl) rfl #[.agg #[.string t805, .int .i64 t806, .float .f64 t807, .string t808, .int .i64 t809, .int .i64 t810, .float .f64 t811, .string t812]] rfl (by (try simp only [List.map_toArray, List.map_cons, List.map_nil]); first | done | rfl | (simp only [List.length_drop, List.length_take]; rfl)) ?_; (with_reducible refine (engrossref10_May.calls t805 t806 t807 t808 t809 t810 t811 t812 true _ A27.out).mono ?_); rintro e w30 ⟨rfl, hb⟩; refine ⟨_, rfl, ?_⟩; replace HO804 := Aside0.mk (Kd.V_below (by (with_reducible repeat (first | apply Kd.V_alloc | apply Kd.V_drewN | apply Kd.V_drew)); exact HO804.out) hb); replace BK800 := bB BK800 hb; replace HB := bW HB hb; (try clear hb); (try clear hb2); (try clear hk); (try clear hi)))
     go_meet
     case rel => exact ⟨_, (decide (a2 < 0)), (by first | rfl | (simp; done) | (simp [*]; done)), H', ⟨by first | omega | exact Nat.le_refl _⟩, ⟨by (with_reducible repeat (first | refine blk_drewN ?_ _ | refine blk_drew ?_ | refine blk_alloc ?_ _)); exact BK800.out⟩, ⟨by repeat (first | (with_reducible first | exact HB.out | apply below_alloc | apply pw_below_drewN | apply below_drew1 | refine below_set ?_ GE800.out) | exact HB.out)⟩⟩
    ·replace c28 := Bool.eq_false_iff.mpr c28
     subst c28
     have H1 : (engrosslaw10_CellAny.j0 k a2 a3 true t805 t806 t807 t808 t809 t810 t811 t812) = some r := by rw [if_neg (show ¬ (false = true) by decide)] at H; exact H
     clear H
     have H := H1
     clear H1
     have H' := Aside0.mk H
     clear H
     obtain ⟨hcz31_0, hcz31_1, hcz31_2, hcz31_3, hcz31_4, hcz31_5, hcz31_6, hcz31_7, hfz31_0, hfz31_1, hfz31_2, hfz31_3, hfz31_4, hfz31_5, hfz31_6, hfz31_7⟩ := bf8 (w := w26) BK800
     go_wp2_with (first | ((with_reducible refine gate_callee (f := 15) rfl ?_); refine goesL_ (some 22) rfl rfl Try.func15 (by kernel_rfl) rfl #[.agg #[.string t805, .int .i64 t806, .float .f64 t807, .string t808, .int .i64 t809, .int .i64 t810, .float .f64 t811, .string t812]] rfl (by (try simp only [List.map_toArray, List.map_cons, List.map_nil]); first | done | rfl | (simp only [List.length_drop, List.length_take]; rfl)) ?_; (with_reducible refine (engrossref10_May.calls t805 t806 t807 t808 t809 t810 t811 t812 false _ A27.out).mono ?_); rintro e w32 ⟨rfl, hb⟩; refine ⟨_, rfl, ?_⟩; replace HO804 := Aside0.mk (Kd.V_below (by (with_reducible repeat (first | apply Kd.V_alloc | apply Kd.V_drewN | apply Kd.V_drew)); exact HO804.out) hb); replace BK800 := bB BK800 hb; replace HB := bW HB hb; (try clear hb); (try clear hb2); (try clear hk); (try clear hi)))
     go_meet
     case rel => exact ⟨_, (true), (by first | rfl | (simp; done) | (simp [*]; done)), H', ⟨by first | omega | exact Nat.le_refl _⟩, ⟨by (with_reducible repeat (first | refine blk_drewN ?_ _ | refine blk_drew ?_ | refine blk_alloc ?_ _)); exact BK800.out⟩, ⟨by repeat (first | (with_reducible first | exact HB.out | apply below_alloc | apply pw_below_drewN | apply below_drew1 | refine below_set ?_ GE800.out) | exact HB.out)⟩⟩
   case rest =>
    clear HC11
    try clear c1
    try clear c2
    try clear p2
    try clear c3
    try clear c5
    try clear c6
    try clear c10
    try clear c11
    try clear c15
    try clear c28
    try clear c32
    try clear hcz29_0
    try clear hcz29_1
    try clear hcz29_2
    try clear hcz29_3
    try clear hcz29_4
    try clear hcz29_5
    try clear hcz29_6
    try clear hcz29_7
    try clear hcz31_0
    try clear hcz31_1
    try clear hcz31_2
    try clear hcz31_3
    try clear hcz31_4
    try clear hcz31_5
    try clear hcz31_6
    try clear hcz31_7
    try clear hfz29_0
    try clear hfz29_1
    try clear hfz29_2
    try clear hfz29_3
    try clear hfz29_4
    try clear hfz29_5
    try clear hfz29_6
    try clear hfz29_7
    try clear hfz31_0
    try clear hfz31_1
    try clear hfz31_2
    try clear hfz31_3
    try clear hfz31_4
    try clear hfz31_5
    try clear hfz31_6
    try clear hfz31_7
    obtain ⟨kq, x27_10, rfl, HA, HJ10, BK800, HB⟩ := hcut
    cases kq with
    | zero => exact absurd HA.out (by simp [engrosslaw10_CellAny.j0])
    | succ kj10 =>
     have H := HA.out
     clear HA
     simp only [engrosslaw10_CellAny.j0] at H
     by_cases c33 : x27_10 = true
     ·subst c33
      have H1 : (some true) = some r := by rw [if_pos rfl] at H; exact H
      clear H
      have H := H1
      clear H1
      obtain rfl := Option.some.inj H
      go_wp2
      go_ret
      exact ⟨by first | rfl | (simp [errW_none, errW_some] <;> rfl) | (simp [*, errW_none, errW_some] <;> rfl), by repeat (first | (with_reducible first | exact HB.out | apply below_alloc | apply pw_below_drewN | apply below_drew1 | refine below_set ?_ GE800.out) | exact HB.out)⟩
     ·replace c33 := Bool.eq_false_iff.mpr c33
      subst c33
      have H1 : ((engrossref10_Bytes.f kj10 t805 t806 t807 t808 t809 t810 t811 t812).bind fun t815 => (if (t815.length : Int) = 0 then (none) else (if 0 ≤ (Int.tmod a2 (t815.length : Int)) then (if (Int.tmod a2 (t815.length : Int)) < (t815.length : Int) then ((some (t815.set ((Int.tmod a2 (t815.length : Int)) : Int).toNat (Go.bits .xor .u8 (rd t815 (Int.tmod a2 (t815.length : Int))) a3) : List Int)).bind fun y819 => ((engrosslaw10_tells.f kj10 y819).bind fun t820 => (if t820 = true then (if (Int.tmod a2 (t815.length : Int)) ≤ (t815.length : Int) then ((engrosslaw10_tells.f kj10 (y819.take ((Int.tmod a2 (t815.length : Int)) : Int).toNat)).bind fun t825 => (some t825)) else (none)) else (none)))) else (none)) else (none)))) = some r := by rw [if_neg (show ¬ (false = true) by decide)] at H; exact H
      clear H
      have H := H1
      clear H1
      replace H := Option.bind_eq_some_iff.mp H
      obtain ⟨t815, A340, H⟩ := H
      replace H : (if (t815.length : Int) = 0 then (none) else (if 0 ≤ (Int.tmod a2 (t815.length : Int)) then (if (Int.tmod a2 (t815.length : Int)) < (t815.length : Int) then ((some (t815.set ((Int.tmod a2 (t815.length : Int)) : Int).toNat (Go.bits .xor .u8 (rd t815 (Int.tmod a2 (t815.length : Int))) a3) : List Int)).bind fun y819 => ((engrosslaw10_tells.f kj10 y819).bind fun t820 => (if t820 = true then (if (Int.tmod a2 (t815.length : Int)) ≤ (t815.length : Int) then ((engrosslaw10_tells.f kj10 (y819.take ((Int.tmod a2 (t815.length : Int)) : Int).toNat)).bind fun t825 => (some t825)) else (none)) else (none)))) else (none)) else (none))) = some r := H
      have A34 := Aside0.mk A340
      clear A340
      by_cases c35 : (t815.length : Int) = 0
      ·rw [if_pos c35] at H
       exact absurd H (by simp)
      ·rw [if_neg c35] at H
       have c35b0 : ((t815.length : Int) == 0) = false := beq_eq_false_iff_ne.mpr c35
       have c35b1 : ((t815.length : Int) != 0) = true := bne_iff_ne.mpr c35
       have c35b2 : ¬ (t815 = []) := fun h_ => c35 (by rw [h_]; rfl)
       obtain ⟨ji36, hji36⟩ : ∃ j_ : Int, (Int.tmod a2 (t815.length : Int)) = j_ := ⟨_, rfl⟩
       replace H : (if 0 ≤ (ji36) then (if (ji36) < (t815.length : Int) then ((some (t815.set ((ji36) : Int).toNat (Go.bits .xor .u8 (rd t815 (ji36)) a3) : List Int)).bind fun y819 => ((engrosslaw10_tells.f kj10 y819).bind fun t820 => (if t820 = true then (if (ji36) ≤ (t815.length : Int) then ((engrosslaw10_tells.f kj10 (y819.take ((ji36) : Int).toNat)).bind fun t825 => (some t825)) else (none)) else (none)))) else (none)) else (none)) = some r := by first | (rw [hji36] at H; exact H) | (simp only [hji36] at H ⊢; exact H)
       (try rw [hji36] at A34)
       by_cases c37 : 0 ≤ (ji36)
       ·rw [if_pos c37] at H
        have c37b0 : decide (0 ≤ (ji36)) = true := decide_eq_true c37
        clear c37
        by_cases c38 : (ji36) < (t815.length : Int)
        ·rw [if_pos c38] at H
         have c38b0 : decide ((ji36) < (t815.length : Int)) = true := decide_eq_true c38
         clear c38
         obtain ⟨y819, hy819⟩ : ∃ y_ : List Int, y_ = (t815.set ((ji36) : Int).toNat (Go.bits .xor .u8 (rd t815 (ji36)) a3)) := ⟨_, rfl⟩
         replace H : ((engrosslaw10_tells.f kj10 y819).bind fun t820 => (if t820 = true then (if (ji36) ≤ (t815.length : Int) then ((engrosslaw10_tells.f kj10 (y819.take ((ji36) : Int).toNat)).bind fun t825 => (some t825)) else (none)) else (none))) = some r := by first | (rw [hy819]; with_reducible exact H) | (have H2_ := (Option.bind_some _ _).symm.trans H; rw [hy819]; with_reducible exact H2_) | (have H2_ := (Option.bind_some _ _).symm.trans H; with_reducible exact H2_) | with_reducible exact H | (rw [hy819]; exact H) | exact H
         have Ny819 := Aside0.mk hy819
         clear hy819
         replace H := Option.bind_eq_some_iff.mp H
         obtain ⟨t820, A400, H⟩ := H
         replace H : (if t820 = true then (if (ji36) ≤ (t815.length : Int) then ((engrosslaw10_tells.f kj10 (y819.take ((ji36) : Int).toNat)).bind fun t825 => (some t825)) else (none)) else (none)) = some r := H
         have A40 := Aside0.mk A400
         clear A400
         by_cases c41 : t820 = true
         ·subst c41
          have H1 : (if (ji36) ≤ (t815.length : Int) then ((engrosslaw10_tells.f kj10 (y819.take ((ji36) : Int).toNat)).bind fun t825 => (some t825)) else (none)) = some r := by rw [if_pos rfl] at H; exact H
          clear H
          have H := H1
          clear H1
          have c42b0 := eq_true (of_decide_eq_true (by first | (with_reducible assumption) | assumption) : 0 ≤ (ji36))
          by_cases c43 : (ji36) ≤ (t815.length : Int)
          ·rw [if_pos c43] at H
           have c43b0 := eq_true c43
           have c43b1 : decide ((ji36) ≤ (t815.length : Int)) = true := decide_eq_true c43
           clear c43
           obtain ⟨y821, hy821⟩ : ∃ y_ : List Int, y_ = (y819.take ((ji36) : Int).toNat) := ⟨_, rfl⟩
           replace H : ((engrosslaw10_tells.f kj10 y821).bind fun t825 => (some t825)) = some r := by first | (rw [hy821]; with_reducible exact H) | (have H2_ := (Option.bind_some _ _).symm.trans H; rw [hy821]; with_reducible exact H2_) | (have H2_ := (Option.bind_some _ _).symm.trans H; with_reducible exact H2_) | with_reducible exact H | (rw [hy821]; exact H) | exact H
           have Ny821 := Aside0.mk hy821
           clear hy821
           replace H := Option.bind_eq_some_iff.mp H
           obtain ⟨t825, A440, H⟩ := H
           replace H : (some t825) = some r := H
           have A44 := Aside0.mk A440
           clear A440
           obtain rfl := Option.some.inj H
           obtain ⟨hcz45_0, hcz45_1, hcz45_2, hcz45_3, hcz45_4, hcz45_5, hcz45_6, hcz45_7, hfz45_0, hfz45_1, hfz45_2, hfz45_3, hfz45_4, hfz45_5, hfz45_6, hfz45_7⟩ := bf8 (w := wc) BK800
           go_wp2_with (first | ((with_reducible refine gate_callee (f := 30) rfl ?_); refine goesL_ (some 29) rfl rfl Try.func30 (by kernel_rfl) rfl #[.agg #[.string t805, .int .i64 t806, .float .f64 t807, .string t808, .int .i64 t809, .int .i64 t810, .float .f64 t811, .string t812]] rfl (by (try simp only [List.map_toArray, List.map_cons, List.map_nil]); first | done | rfl | (simp only [List.length_drop, List.length_take]; rfl)) ?_; (with_reducible refine (engrossref10_Bytes.calls kj10 t805 t806 t807 t808 t809 t810 t811 t812 t815 _ A34.out).mono ?_); rintro e w46 ⟨v816, rfl, ho0, hb⟩; refine ⟨_, rfl, ?_⟩; have HO817 := Aside0.mk (Kd.R_lower ho0 (below_size (bC HB))); replace BK800 := bB BK800 hb; replace HB := bW HB hb; (try clear hb); (try clear hb2); (try clear hk); (try clear hi); (try clear ho0); obtain ⟨Ao47, co47, eo47⟩ := Kd.R_slice HO817.out; subst eo47; have p818 : 0 ≤ ((ji36) : Int) := of_decide_eq_true (by first | (with_reducible assumption) | assumption); have q818 : (ji36) < (t815.length : Int) := of_decide_eq_true (by first | (with_reducible assumption) | assumption); obtain ⟨ad818, e818, hx818_0⟩ := Kd.at_int (Kd.R_reads' HO817.out).2.2 (ji36) p818 q818; cases e818; replace p818 := eq_true p818; replace q818 := eq_true q818; have p39 : 0 ≤ ((ji36) : Int) := of_decide_eq_true (by first | (with_reducible assumption) | assumption); have q39 : ((ji36) : Int) < ((t815.length : Int) : Int) := of_decide_eq_true (by first | (with_reducible assumption) | assumption); obtain ⟨go39, co39, eo39, gb39, gl39, cl39, HG39⟩ := Kd.R_form HO817.out (by omega); (first | cases eo39 | (injection eo39 with ea_ en_ ec_; (first | subst ea_ | (injection ea_ with ea_; subst ea_)); subst ec_; clear en_)); have GB39 := Aside0.mk gb39; have GG39 := Aside0.mk HG39; clear gb39 gl39 HG39; (first | simp only [add_plain] at hx818_0 | skip); obtain ⟨hx39_0, hf39_0⟩ := Kd.R_celln 0 HO817.out ((ji36) : Int) p39 q39; replace p39 := eq_true p39; replace q39 := eq_true q39; obtain ⟨hy48_, hz48_⟩ := Kd.R_celln 0 HO817.out ((ji36) : Int) (of_decide_eq_true (by first | (with_reducible assumption) | assumption)) (of_decide_eq_true (by first | (with_reducible assumption) | assumption)); have HP48 := Kd.R_putg HO817.out ((ji36) : Int) (Go.bits .xor .u8 (rd t815 (ji36)) a3)) | ((with_reducible refine gate_store (t := 5) (p := 39) rfl ?_); refine store_event (t := 5) (p := 39) (v := ?vo_w49) (w1 := (w46.setCell ⟨go39, ((ji36) : Int).toNat, none⟩ (.int .u8 (Go.bits .xor .u8 (rd t815 (ji36)) a3)))) ?hg ?ho ?hn ?hr ?_; (case ho => rfl); (case hg => rfl); (case hn => rfl); (case hr => first | (go_simp; done) | (go_simp; rfl)); intro w49 hw; have hg : w46.grownBy w49 (some go39) := (by rw [hw]; exact HP48.2); have hp_ : Kd.R (Kd.int .u8) 5 w49 w.heap.size (fun _ => True) (.slice (some ⟨go39, 0, none⟩) t815.length co47) y819 := (by rw [hw, Ny819.out]; exact HP48.1); clear HP48; replace BK800 := Aside0.mk (blk_grown (bQ BK800) hg (Kd.R_ne HO817.out BK800.out (by decide))); replace HO817 := Aside0.mk (hp_); replace HB := Aside0.mk ((by rw [hw]; exact below_set (HB.out) GB39.out : Below w.heap.size w w49)); clear hg hw hp_) | ((with_reducible refine gate_callee (f := 32) rfl ?_); refine goesL_ (some 41) rfl rfl Try.func32 (by kernel_rfl) rfl #[.slice (some ⟨go39, 0, none⟩) y819.length co47] rfl (by (try simp only [List.map_toArray, List.map_cons, List.map_nil]); first | done | (rw [show y819.length = t815.length from (Kd.R_reads' HO817.out).1.symm] <;> rfl) | rfl | (simp only [List.length_drop, List.length_take]; rfl)) ?_; (with_reducible refine (engrosslaw10_tells.calls kj10 _ _ y819 true _ ?side1 ?side2 A40.out).mono ?_); (case side1 => repeat (first | exact (Kd.R_reads' HO817.out).2.2 | (with_reducible refine Kd.C_alloc ?_ _) | (with_reducible refine Kd.C_drewN ?_ _) | (with_reducible refine Kd.C_drew ?_))); (case side2 => rw [show y819.length = t815.length from (Kd.R_reads' HO817.out).1.symm]; exact (Kd.R_reads' HO817.out).2.1); rintro e w50 ⟨rfl, hb⟩; refine ⟨_, rfl, ?_⟩; replace HO817 := Aside0.mk (Kd.R_below (by (with_reducible repeat (first | apply Kd.R_alloc | apply Kd.R_drewN | apply Kd.R_drew)); exact HO817.out) hb); replace BK800 := bB BK800 hb; replace HB := bW HB hb; (try clear hb); (try clear hb2); (try clear hk); (try clear hi); have hlx51 := (Kd.R_reads' HO817.out).1; have q51 : ((ji36) : Int) ≤ ((t815.length : Int) : Int) := of_decide_eq_true (by first | (with_reducible assumption) | assumption); obtain ⟨i051, hi051, _, hsz51, _⟩ := info_parts info5; have hroom51 : t815.length ≤ co47 := (Kd.R_reads' HO817.out).2.1; have hroomc51 : y819.length ≤ co47 := (by rw [← hlx51]; exact hroom51); have hC51 : Kd.C (Kd.int .u8) _ (some ⟨go39, 0, none⟩) y819.length y819 := (Kd.R_reads' HO817.out).2.2; have hcut51 := cut_to (P := Try.prog) 47 5 .i64 Try.underlying47 hi051 (some ⟨go39, 0, none⟩) t815.length co47 (ji36) (of_decide_eq_true (by first | (with_reducible assumption) | assumption)) q51 hroom51; have hr51 := Kd.C_take (m := ((ji36) : Int).toNat) hC51 (by omega); have hy51 : y821.length = ((ji36) : Int).toNat := (by rw [Ny821.out, List.length_take]; omega); rw [← Ny821.out] at hr51; rw [← hy51] at hcut51; have HR824 := Aside0.mk hr51; have HC824 := Aside0.mk (show y821.length ≤ co47 from by omega); clear hr51 hC51 hroom51 hi051 hsz51 hroomc51; have KY51 := Aside0.mk hy51; clear hy51; have KE51 := Aside0.mk hlx51; have KL51 := Aside0.mk (show ((ji36) : Int).toNat ≤ y819.length from by omega); clear hlx51; replace q51 := eq_true q51) | (go_at_call 32; (with_reducible refine (engrosslaw10_tells.calls kj10 _ _ y821 t825 _ ?side1 ?side2 A44.out).mono ?_); (case side1 => repeat (first | exact (by repeat (first | (with_reducible exact HR824.out) | (with_reducible refine Kd.C_alloc ?_ _) | (with_reducible refine Kd.C_drewN ?_ _) | (with_reducible refine Kd.C_drew ?_) | exact HR824.out)) | (with_reducible refine Kd.C_alloc ?_ _) | (with_reducible refine Kd.C_drewN ?_ _) | (with_reducible refine Kd.C_drew ?_))); (case side2 => exact HC824.out); rintro e w52 ⟨rfl, hb⟩; replace HO817 := Aside0.mk (Kd.R_below (by (with_reducible repeat (first | apply Kd.R_alloc | apply Kd.R_drewN | apply Kd.R_drew)); exact HO817.out) hb); replace BK800 := bB BK800 hb; replace HR824 := Aside0.mk (Kd.C_below (by repeat (first | (with_reducible exact HR824.out) | (with_reducible refine Kd.C_alloc ?_ _) | (with_reducible refine Kd.C_drewN ?_ _) | (with_reducible refine Kd.C_drew ?_) | exact HR824.out)) hb); replace HB := bW HB hb; (try clear hb); (try clear hb2); (try clear hk); (try clear hi)))
           go_ret
           exact ⟨by first | rfl | (simp [errW_none, errW_some] <;> rfl) | (simp only [← hji36]; first | rfl | (simp [errW_none, errW_some] <;> rfl)) | (simp [*, errW_none, errW_some] <;> rfl), by repeat (first | (with_reducible first | exact HB.out | apply below_alloc | apply pw_below_drewN | apply below_drew1 | refine below_set ?_ GE800.out) | exact HB.out)⟩
          ·rw [if_neg c43] at H
           exact absurd H (by simp)
         ·replace c41 := Bool.eq_false_iff.mpr c41
          subst c41
          have H1 : (none) = some r := by rw [if_neg (show ¬ (false = true) by decide)] at H; exact H
          clear H
          have H := H1
          clear H1
          exact absurd H (by simp)
        ·rw [if_neg c38] at H
         exact absurd H (by simp)
       ·rw [if_neg c37] at H
        exact absurd H (by simp)
  ·replace c10 := Bool.eq_false_iff.mpr c10
   subst c10
   have H1 : (none) = some r := by rw [if_neg (show ¬ (false = true) by decide)] at H; exact H
   clear H
   have H := H1
   clear H1
   exact absurd H (by simp)
 ·replace c6 := Bool.eq_false_iff.mpr c6
  subst c6
  have H1 : (none) = some r := by rw [if_neg (show ¬ (false = true) by decide)] at H; exact H
  clear H
  have H := H1
  clear H1
  exact absurd H (by simp)

/-- THE ONE PURE STATEMENT of engrosslaw10_CellAny. -/
def engrosslaw10_CellAny.Pure : Prop := ∀ (l0 : List Int) (x1 : S26) (a2 : Int) (a3 : Int), (l0.length ≤ 9223372036854775807 ∧ ∀ y ∈ l0, (Lit.int .u8 y).wf = true) → wf26 x1 → (Lit.int .i64 a2).wf = true → (Lit.int .u8 a3).wf = true → ∃ k, engrosslaw10_CellAny.f k l0 x1.f0 x1.f1.f0 x1.f1.f1 x1.f1.f2 x1.f2 x1.f3.f0 x1.f3.f1 x1.f3.f2 a2 a3 = some true

/-! ### engrosslaw10_CellShort: function 6 -/
def engrosslaw10_CellShort.f (k : Nat) (a0_0 : ByteArray) (a0_1 : Int) (a0_2 : Nat) (a0_3 : ByteArray) (a0_4 : Int) (a0_5 : Int) (a0_6 : Nat) (a0_7 : ByteArray) : Option (Bool) := (engrosslaw10_begun.f k).bind fun t827 => (if t827 = true then ((engrosslaw10_Cut.f a0_0 a0_1 a0_2 a0_3 a0_4 a0_5 a0_6 a0_7).bind fun bt828 => ((engrossref10_May.f bt828.1 bt828.2.1 bt828.2.2.1 bt828.2.2.2.1 bt828.2.2.2.2.1 bt828.2.2.2.2.2.1 bt828.2.2.2.2.2.2.1 bt828.2.2.2.2.2.2.2).bind fun t836 => (if t836 = true then ((engrosslaw10_Of.f bt828.1 bt828.2.1 bt828.2.2.1 bt828.2.2.2.1 bt828.2.2.2.2.1 bt828.2.2.2.2.2.1 bt828.2.2.2.2.2.2.1 bt828.2.2.2.2.2.2.2).bind fun bt837 => ((cell_Put.f k ([] : List Int) bt837.1 bt837.2.1 bt837.2.2.1 bt837.2.2.2.1 bt837.2.2.2.2.1 bt837.2.2.2.2.2.1 bt837.2.2.2.2.2.2.1 bt837.2.2.2.2.2.2.2).bind fun t845 => ((engrosslaw10_Of.f bt828.1 bt828.2.1 bt828.2.2.1 bt828.2.2.2.1 bt828.2.2.2.2.1 bt828.2.2.2.2.2.1 bt828.2.2.2.2.2.2.1 bt828.2.2.2.2.2.2.2).bind fun bt848 => ((cell_Commit.f bt848.1 bt848.2.1 bt848.2.2.1 bt848.2.2.2.1 bt848.2.2.2.2.1 bt848.2.2.2.2.2.1 bt848.2.2.2.2.2.2.1 bt848.2.2.2.2.2.2.2).bind fun bt856 => ((engrosslaw10_Of.f bt828.1 bt828.2.1 bt828.2.2.1 bt828.2.2.2.1 bt828.2.2.2.2.1 bt828.2.2.2.2.2.1 bt828.2.2.2.2.2.2.1 bt828.2.2.2.2.2.2.2).bind fun bt866 => ((cell_Undo.f bt866.1 bt866.2.1 bt866.2.2.1 bt866.2.2.2.1 bt866.2.2.2.2.1 bt866.2.2.2.2.2.1 bt866.2.2.2.2.2.2.1 bt866.2.2.2.2.2.2.2).bind fun bt874 => (if bt856.2.2.2.2.2.2.2.2 = true then ((cell_Put.f k ([] : List Int) bt856.1 bt856.2.1 bt856.2.2.1 bt856.2.2.2.1 bt856.2.2.2.2.1 bt856.2.2.2.2.2.1 bt856.2.2.2.2.2.2.1 bt856.2.2.2.2.2.2.2.1).bind fun t884 => (if (t884.length : Int) ≤ (t845.length : Int) then (if bt874.2.2.2.2.2.2.2.2 = true then ((cell_Put.f k ([] : List Int) bt874.1 bt874.2.1 bt874.2.2.1 bt874.2.2.2.1 bt874.2.2.2.2.1 bt874.2.2.2.2.2.1 bt874.2.2.2.2.2.2.1 bt874.2.2.2.2.2.2.2.1).bind fun t887 => (some (decide ((t887.length : Int) ≤ (t845.length : Int))))) else (some true)) else (none))) else (if bt874.2.2.2.2.2.2.2.2 = true then ((cell_Put.f k ([] : List Int) bt874.1 bt874.2.1 bt874.2.2.1 bt874.2.2.2.1 bt874.2.2.2.2.1 bt874.2.2.2.2.2.1 bt874.2.2.2.2.2.2.1 bt874.2.2.2.2.2.2.2.1).bind fun t890 => (some (decide ((t890.length : Int) ≤ (t845.length : Int))))) else (some true))))))))) else (some true)))) else (none))
theorem engrosslaw10_CellShort.mono : ∀ a0 a1 a2 a3 a4 a5 a6 a7 k, LeO (engrosslaw10_CellShort.f k a0 a1 a2 a3 a4 a5 a6 a7) (engrosslaw10_CellShort.f (k + 1) a0 a1 a2 a3 a4 a5 a6 a7) := by
 intro a0 a1 a2 a3 a4 a5 a6 a7 k
 unfold engrosslaw10_CellShort.f
 repeat' first
   | (with_reducible exact cell_Put.mono _ _ _ _ _ _ _ _ _ _)
   | (with_reducible exact engrosslaw10_begun.mono _)
   | (with_reducible exact LeO.refl _)
   | (with_reducible exact LeO.none _)
   | (with_reducible refine LeO.ite ?_ ?_)
   | (with_reducible refine LeO.bind ?_ (fun _ => ?_))
   | exact cell_Put.mono _ _ _ _ _ _ _ _ _ _
   | exact engrosslaw10_begun.mono _
   | exact LeO.none _
   | refine LeO.ite ?_ ?_
   | refine LeO.bind ?_ (fun _ => ?_)
set_option maxHeartbeats 8000000 in
set_option maxRecDepth 100000 in
theorem engrosslaw10_CellShort.calls (k : Nat) (a0_0 : ByteArray) (a0_1 : Int) (a0_2 : Nat) (a0_3 : ByteArray) (a0_4 : Int) (a0_5 : Int) (a0_6 : Nat) (a0_7 : ByteArray) (r : Bool) (w : World) (h : engrosslaw10_CellShort.f k a0_0 a0_1 a0_2 a0_3 a0_4 a0_5 a0_6 a0_7 = some r) :
  Calls Try.prog 6 #[.agg #[.string a0_0, .int .i64 a0_1, .float .f64 a0_2, .string a0_3, .int .i64 a0_4, .int .i64 a0_5, .float .f64 a0_6, .string a0_7]] w fun e w' => e = .returned (.bool r) ∧ Below w.heap.size w w' := by
 have hu26 := Try.underlying26
 have hu31 := Try.underlying31
 have HB := Aside0.mk (Below.refl w.heap.size w)
 have H : ((engrosslaw10_begun.f k).bind fun t827 => (if t827 = true then ((engrosslaw10_Cut.f a0_0 a0_1 a0_2 a0_3 a0_4 a0_5 a0_6 a0_7).bind fun bt828 => ((engrossref10_May.f bt828.1 bt828.2.1 bt828.2.2.1 bt828.2.2.2.1 bt828.2.2.2.2.1 bt828.2.2.2.2.2.1 bt828.2.2.2.2.2.2.1 bt828.2.2.2.2.2.2.2).bind fun t836 => (if t836 = true then ((engrosslaw10_Of.f bt828.1 bt828.2.1 bt828.2.2.1 bt828.2.2.2.1 bt828.2.2.2.2.1 bt828.2.2.2.2.2.1 bt828.2.2.2.2.2.2.1 bt828.2.2.2.2.2.2.2).bind fun bt837 => ((cell_Put.f k ([] : List Int) bt837.1 bt837.2.1 bt837.2.2.1 bt837.2.2.2.1 bt837.2.2.2.2.1 bt837.2.2.2.2.2.1 bt837.2.2.2.2.2.2.1 bt837.2.2.2.2.2.2.2).bind fun t845 => ((engrosslaw10_Of.f bt828.1 bt828.2.1 bt828.2.2.1 bt828.2.2.2.1 bt828.2.2.2.2.1 bt828.2.2.2.2.2.1 bt828.2.2.2.2.2.2.1 bt828.2.2.2.2.2.2.2).bind fun bt848 => ((cell_Commit.f bt848.1 bt848.2.1 bt848.2.2.1 bt848.2.2.2.1 bt848.2.2.2.2.1 bt848.2.2.2.2.2.1 bt848.2.2.2.2.2.2.1 bt848.2.2.2.2.2.2.2).bind fun bt856 => ((engrosslaw10_Of.f bt828.1 bt828.2.1 bt828.2.2.1 bt828.2.2.2.1 bt828.2.2.2.2.1 bt828.2.2.2.2.2.1 bt828.2.2.2.2.2.2.1 bt828.2.2.2.2.2.2.2).bind fun bt866 => ((cell_Undo.f bt866.1 bt866.2.1 bt866.2.2.1 bt866.2.2.2.1 bt866.2.2.2.2.1 bt866.2.2.2.2.2.1 bt866.2.2.2.2.2.2.1 bt866.2.2.2.2.2.2.2).bind fun bt874 => (if bt856.2.2.2.2.2.2.2.2 = true then ((cell_Put.f k ([] : List Int) bt856.1 bt856.2.1 bt856.2.2.1 bt856.2.2.2.1 bt856.2.2.2.2.1 bt856.2.2.2.2.2.1 bt856.2.2.2.2.2.2.1 bt856.2.2.2.2.2.2.2.1).bind fun t884 => (if (t884.length : Int) ≤ (t845.length : Int) then (if bt874.2.2.2.2.2.2.2.2 = true then ((cell_Put.f k ([] : List Int) bt874.1 bt874.2.1 bt874.2.2.1 bt874.2.2.2.1 bt874.2.2.2.2.1 bt874.2.2.2.2.2.1 bt874.2.2.2.2.2.2.1 bt874.2.2.2.2.2.2.2.1).bind fun t887 => (some (decide ((t887.length : Int) ≤ (t845.length : Int))))) else (some true)) else (none))) else (if bt874.2.2.2.2.2.2.2.2 = true then ((cell_Put.f k ([] : List Int) bt874.1 bt874.2.1 bt874.2.2.1 bt874.2.2.2.1 bt874.2.2.2.2.1 bt874.2.2.2.2.2.1 bt874.2.2.2.2.2.2.1 bt874.2.2.2.2.2.2.2.1).bind fun t890 => (some (decide ((t890.length : Int) ≤ (t845.length : Int))))) else (some true))))))))) else (some true)))) else (none))) = some r := h
 clear h
 replace H := Option.bind_eq_some_iff.mp H
 obtain ⟨t827, A20, H⟩ := H
 replace H : (if t827 = true then ((engrosslaw10_Cut.f a0_0 a0_1 a0_2 a0_3 a0_4 a0_5 a0_6 a0_7).bind fun bt828 => ((engrossref10_May.f bt828.1 bt828.2.1 bt828.2.2.1 bt828.2.2.2.1 bt828.2.2.2.2.1 bt828.2.2.2.2.2.1 bt828.2.2.2.2.2.2.1 bt828.2.2.2.2.2.2.2).bind fun t836 => (if t836 = true then ((engrosslaw10_Of.f bt828.1 bt828.2.1 bt828.2.2.1 bt828.2.2.2.1 bt828.2.2.2.2.1 bt828.2.2.2.2.2.1 bt828.2.2.2.2.2.2.1 bt828.2.2.2.2.2.2.2).bind fun bt837 => ((cell_Put.f k ([] : List Int) bt837.1 bt837.2.1 bt837.2.2.1 bt837.2.2.2.1 bt837.2.2.2.2.1 bt837.2.2.2.2.2.1 bt837.2.2.2.2.2.2.1 bt837.2.2.2.2.2.2.2).bind fun t845 => ((engrosslaw10_Of.f bt828.1 bt828.2.1 bt828.2.2.1 bt828.2.2.2.1 bt828.2.2.2.2.1 bt828.2.2.2.2.2.1 bt828.2.2.2.2.2.2.1 bt828.2.2.2.2.2.2.2).bind fun bt848 => ((cell_Commit.f bt848.1 bt848.2.1 bt848.2.2.1 bt848.2.2.2.1 bt848.2.2.2.2.1 bt848.2.2.2.2.2.1 bt848.2.2.2.2.2.2.1 bt848.2.2.2.2.2.2.2).bind fun bt856 => ((engrosslaw10_Of.f bt828.1 bt828.2.1 bt828.2.2.1 bt828.2.2.2.1 bt828.2.2.2.2.1 bt828.2.2.2.2.2.1 bt828.2.2.2.2.2.2.1 bt828.2.2.2.2.2.2.2).bind fun bt866 => ((cell_Undo.f bt866.1 bt866.2.1 bt866.2.2.1 bt866.2.2.2.1 bt866.2.2.2.2.1 bt866.2.2.2.2.2.1 bt866.2.2.2.2.2.2.1 bt866.2.2.2.2.2.2.2).bind fun bt874 => (if bt856.2.2.2.2.2.2.2.2 = true then ((cell_Put.f k ([] : List Int) bt856.1 bt856.2.1 bt856.2.2.1 bt856.2.2.2.1 bt856.2.2.2.2.1 bt856.2.2.2.2.2.1 bt856.2.2.2.2.2.2.1 bt856.2.2.2.2.2.2.2.1).bind fun t884 => (if (t884.length : Int) ≤ (t845.length : Int) then (if bt874.2.2.2.2.2.2.2.2 = true then ((cell_Put.f k ([] : List Int) bt874.1 bt874.2.1 bt874.2.2.1 bt874.2.2.2.1 bt874.2.2.2.2.1 bt874.2.2.2.2.2.1 bt874.2.2.2.2.2.2.1 bt874.2.2.2.2.2.2.2.1).bind fun t887 => (some (decide ((t887.length : Int) ≤ (t845.length : Int))))) else (some true)) else (none))) else (if bt874.2.2.2.2.2.2.2.2 = true then ((cell_Put.f k ([] : List Int) bt874.1 bt874.2.1 bt874.2.2.1 bt874.2.2.2.1 bt874.2.2.2.2.1 bt874.2.2.2.2.2.1 bt874.2.2.2.2.2.2.1 bt874.2.2.2.2.2.2.2.1).bind fun t890 => (some (decide ((t890.length : Int) ≤ (t845.length : Int))))) else (some true))))))))) else (some true)))) else (none)) = some r := H
 have A2 := Aside0.mk A20
 clear A20
 by_cases c3 : t827 = true
 ·subst c3
  have H1 : ((engrosslaw10_Cut.f a0_0 a0_1 a0_2 a0_3 a0_4 a0_5 a0_6 a0_7).bind fun bt828 => ((engrossref10_May.f bt828.1 bt828.2.1 bt828.2.2.1 bt828.2.2.2.1 bt828.2.2.2.2.1 bt828.2.2.2.2.2.1 bt828.2.2.2.2.2.2.1 bt828.2.2.2.2.2.2.2).bind fun t836 => (if t836 = true then ((engrosslaw10_Of.f bt828.1 bt828.2.1 bt828.2.2.1 bt828.2.2.2.1 bt828.2.2.2.2.1 bt828.2.2.2.2.2.1 bt828.2.2.2.2.2.2.1 bt828.2.2.2.2.2.2.2).bind fun bt837 => ((cell_Put.f k ([] : List Int) bt837.1 bt837.2.1 bt837.2.2.1 bt837.2.2.2.1 bt837.2.2.2.2.1 bt837.2.2.2.2.2.1 bt837.2.2.2.2.2.2.1 bt837.2.2.2.2.2.2.2).bind fun t845 => ((engrosslaw10_Of.f bt828.1 bt828.2.1 bt828.2.2.1 bt828.2.2.2.1 bt828.2.2.2.2.1 bt828.2.2.2.2.2.1 bt828.2.2.2.2.2.2.1 bt828.2.2.2.2.2.2.2).bind fun bt848 => ((cell_Commit.f bt848.1 bt848.2.1 bt848.2.2.1 bt848.2.2.2.1 bt848.2.2.2.2.1 bt848.2.2.2.2.2.1 bt848.2.2.2.2.2.2.1 bt848.2.2.2.2.2.2.2).bind fun bt856 => ((engrosslaw10_Of.f bt828.1 bt828.2.1 bt828.2.2.1 bt828.2.2.2.1 bt828.2.2.2.2.1 bt828.2.2.2.2.2.1 bt828.2.2.2.2.2.2.1 bt828.2.2.2.2.2.2.2).bind fun bt866 => ((cell_Undo.f bt866.1 bt866.2.1 bt866.2.2.1 bt866.2.2.2.1 bt866.2.2.2.2.1 bt866.2.2.2.2.2.1 bt866.2.2.2.2.2.2.1 bt866.2.2.2.2.2.2.2).bind fun bt874 => (if bt856.2.2.2.2.2.2.2.2 = true then ((cell_Put.f k ([] : List Int) bt856.1 bt856.2.1 bt856.2.2.1 bt856.2.2.2.1 bt856.2.2.2.2.1 bt856.2.2.2.2.2.1 bt856.2.2.2.2.2.2.1 bt856.2.2.2.2.2.2.2.1).bind fun t884 => (if (t884.length : Int) ≤ (t845.length : Int) then (if bt874.2.2.2.2.2.2.2.2 = true then ((cell_Put.f k ([] : List Int) bt874.1 bt874.2.1 bt874.2.2.1 bt874.2.2.2.1 bt874.2.2.2.2.1 bt874.2.2.2.2.2.1 bt874.2.2.2.2.2.2.1 bt874.2.2.2.2.2.2.2.1).bind fun t887 => (some (decide ((t887.length : Int) ≤ (t845.length : Int))))) else (some true)) else (none))) else (if bt874.2.2.2.2.2.2.2.2 = true then ((cell_Put.f k ([] : List Int) bt874.1 bt874.2.1 bt874.2.2.1 bt874.2.2.2.1 bt874.2.2.2.2.1 bt874.2.2.2.2.2.1 bt874.2.2.2.2.2.2.1 bt874.2.2.2.2.2.2.2.1).bind fun t890 => (some (decide ((t890.length : Int) ≤ (t845.length : Int))))) else (some true))))))))) else (some true)))) = some r := by rw [if_pos rfl] at H; exact H
  clear H
  have H := H1
  clear H1
  replace H := Option.bind_eq_some_iff.mp H
  obtain ⟨⟨t828, t829, t830, t831, t832, t833, t834, t835⟩, A40, H⟩ := H
  replace H : ((engrossref10_May.f t828 t829 t830 t831 t832 t833 t834 t835).bind fun t836 => (if t836 = true then ((engrosslaw10_Of.f t828 t829 t830 t831 t832 t833 t834 t835).bind fun bt837 => ((cell_Put.f k ([] : List Int) bt837.1 bt837.2.1 bt837.2.2.1 bt837.2.2.2.1 bt837.2.2.2.2.1 bt837.2.2.2.2.2.1 bt837.2.2.2.2.2.2.1 bt837.2.2.2.2.2.2.2).bind fun t845 => ((engrosslaw10_Of.f t828 t829 t830 t831 t832 t833 t834 t835).bind fun bt848 => ((cell_Commit.f bt848.1 bt848.2.1 bt848.2.2.1 bt848.2.2.2.1 bt848.2.2.2.2.1 bt848.2.2.2.2.2.1 bt848.2.2.2.2.2.2.1 bt848.2.2.2.2.2.2.2).bind fun bt856 => ((engrosslaw10_Of.f t828 t829 t830 t831 t832 t833 t834 t835).bind fun bt866 => ((cell_Undo.f bt866.1 bt866.2.1 bt866.2.2.1 bt866.2.2.2.1 bt866.2.2.2.2.1 bt866.2.2.2.2.2.1 bt866.2.2.2.2.2.2.1 bt866.2.2.2.2.2.2.2).bind fun bt874 => (if bt856.2.2.2.2.2.2.2.2 = true then ((cell_Put.f k ([] : List Int) bt856.1 bt856.2.1 bt856.2.2.1 bt856.2.2.2.1 bt856.2.2.2.2.1 bt856.2.2.2.2.2.1 bt856.2.2.2.2.2.2.1 bt856.2.2.2.2.2.2.2.1).bind fun t884 => (if (t884.length : Int) ≤ (t845.length : Int) then (if bt874.2.2.2.2.2.2.2.2 = true then ((cell_Put.f k ([] : List Int) bt874.1 bt874.2.1 bt874.2.2.1 bt874.2.2.2.1 bt874.2.2.2.2.1 bt874.2.2.2.2.2.1 bt874.2.2.2.2.2.2.1 bt874.2.2.2.2.2.2.2.1).bind fun t887 => (some (decide ((t887.length : Int) ≤ (t845.length : Int))))) else (some true)) else (none))) else (if bt874.2.2.2.2.2.2.2.2 = true then ((cell_Put.f k ([] : List Int) bt874.1 bt874.2.1 bt874.2.2.1 bt874.2.2.2.1 bt874.2.2.2.2.1 bt874.2.2.2.2.2.1 bt874.2.2.2.2.2.2.1 bt874.2.2.2.2.2.2.2.1).bind fun t890 => (some (decide ((t890.length : Int) ≤ (t845.length : Int))))) else (some true))))))))) else (some true))) = some r := H
  have A4 := Aside0.mk A40
  clear A40
  replace H := Option.bind_eq_some_iff.mp H
  obtain ⟨t836, A50, H⟩ := H
  replace H : (if t836 = true then ((engrosslaw10_Of.f t828 t829 t830 t831 t832 t833 t834 t835).bind fun bt837 => ((cell_Put.f k ([] : List Int) bt837.1 bt837.2.1 bt837.2.2.1 bt837.2.2.2.1 bt837.2.2.2.2.1 bt837.2.2.2.2.2.1 bt837.2.2.2.2.2.2.1 bt837.2.2.2.2.2.2.2).bind fun t845 => ((engrosslaw10_Of.f t828 t829 t830 t831 t832 t833 t834 t835).bind fun bt848 => ((cell_Commit.f bt848.1 bt848.2.1 bt848.2.2.1 bt848.2.2.2.1 bt848.2.2.2.2.1 bt848.2.2.2.2.2.1 bt848.2.2.2.2.2.2.1 bt848.2.2.2.2.2.2.2).bind fun bt856 => ((engrosslaw10_Of.f t828 t829 t830 t831 t832 t833 t834 t835).bind fun bt866 => ((cell_Undo.f bt866.1 bt866.2.1 bt866.2.2.1 bt866.2.2.2.1 bt866.2.2.2.2.1 bt866.2.2.2.2.2.1 bt866.2.2.2.2.2.2.1 bt866.2.2.2.2.2.2.2).bind fun bt874 => (if bt856.2.2.2.2.2.2.2.2 = true then ((cell_Put.f k ([] : List Int) bt856.1 bt856.2.1 bt856.2.2.1 bt856.2.2.2.1 bt856.2.2.2.2.1 bt856.2.2.2.2.2.1 bt856.2.2.2.2.2.2.1 bt856.2.2.2.2.2.2.2.1).bind fun t884 => (if (t884.length : Int) ≤ (t845.length : Int) then (if bt874.2.2.2.2.2.2.2.2 = true then ((cell_Put.f k ([] : List Int) bt874.1 bt874.2.1 bt874.2.2.1 bt874.2.2.2.1 bt874.2.2.2.2.1 bt874.2.2.2.2.2.1 bt874.2.2.2.2.2.2.1 bt874.2.2.2.2.2.2.2.1).bind fun t887 => (some (decide ((t887.length : Int) ≤ (t845.length : Int))))) else (some true)) else (none))) else (if bt874.2.2.2.2.2.2.2.2 = true then ((cell_Put.f k ([] : List Int) bt874.1 bt874.2.1 bt874.2.2.1 bt874.2.2.2.1 bt874.2.2.2.2.1 bt874.2.2.2.2.2.1 bt874.2.2.2.2.2.2.1 bt874.2.2.2.2.2.2.2.1).bind fun t890 => (some (decide ((t890.length : Int) ≤ (t845.length : Int))))) else (some true))))))))) else (some true)) = some r := H
  have A5 := Aside0.mk A50
  clear A50
  by_cases c6 : t836 = true
  ·subst c6
   have H1 : ((engrosslaw10_Of.f t828 t829 t830 t831 t832 t833 t834 t835).bind fun bt837 => ((cell_Put.f k ([] : List Int) bt837.1 bt837.2.1 bt837.2.2.1 bt837.2.2.2.1 bt837.2.2.2.2.1 bt837.2.2.2.2.2.1 bt837.2.2.2.2.2.2.1 bt837.2.2.2.2.2.2.2).bind fun t845 => ((engrosslaw10_Of.f t828 t829 t830 t831 t832 t833 t834 t835).bind fun bt848 => ((cell_Commit.f bt848.1 bt848.2.1 bt848.2.2.1 bt848.2.2.2.1 bt848.2.2.2.2.1 bt848.2.2.2.2.2.1 bt848.2.2.2.2.2.2.1 bt848.2.2.2.2.2.2.2).bind fun bt856 => ((engrosslaw10_Of.f t828 t829 t830 t831 t832 t833 t834 t835).bind fun bt866 => ((cell_Undo.f bt866.1 bt866.2.1 bt866.2.2.1 bt866.2.2.2.1 bt866.2.2.2.2.1 bt866.2.2.2.2.2.1 bt866.2.2.2.2.2.2.1 bt866.2.2.2.2.2.2.2).bind fun bt874 => (if bt856.2.2.2.2.2.2.2.2 = true then ((cell_Put.f k ([] : List Int) bt856.1 bt856.2.1 bt856.2.2.1 bt856.2.2.2.1 bt856.2.2.2.2.1 bt856.2.2.2.2.2.1 bt856.2.2.2.2.2.2.1 bt856.2.2.2.2.2.2.2.1).bind fun t884 => (if (t884.length : Int) ≤ (t845.length : Int) then (if bt874.2.2.2.2.2.2.2.2 = true then ((cell_Put.f k ([] : List Int) bt874.1 bt874.2.1 bt874.2.2.1 bt874.2.2.2.1 bt874.2.2.2.2.1 bt874.2.2.2.2.2.1 bt874.2.2.2.2.2.2.1 bt874.2.2.2.2.2.2.2.1).bind fun t887 => (some (decide ((t887.length : Int) ≤ (t845.length : Int))))) else (some true)) else (none))) else (if bt874.2.2.2.2.2.2.2.2 = true then ((cell_Put.f k ([] : List Int) bt874.1 bt874.2.1 bt874.2.2.1 bt874.2.2.2.1 bt874.2.2.2.2.1 bt874.2.2.2.2.2.1 bt874.2.2.2.2.2.2.1 bt874.2.2.2.2.2.2.2.1).bind fun t890 => (some (decide ((t890.length : Int) ≤ (t845.length : Int))))) else (some true))))))))) = some r := by rw [if_pos rfl] at H; exact H
   clear H
   have H := H1
   clear H1
   replace H := Option.bind_eq_some_iff.mp H
   obtain ⟨⟨t837, t838, t839, t840, t841, t842, t843, t844⟩, A70, H⟩ := H
   replace H : ((cell_Put.f k ([] : List Int) t837 t838 t839 t840 t841 t842 t843 t844).bind fun t845 => ((engrosslaw10_Of.f t828 t829 t830 t831 t832 t833 t834 t835).bind fun bt848 => ((cell_Commit.f bt848.1 bt848.2.1 bt848.2.2.1 bt848.2.2.2.1 bt848.2.2.2.2.1 bt848.2.2.2.2.2.1 bt848.2.2.2.2.2.2.1 bt848.2.2.2.2.2.2.2).bind fun bt856 => ((engrosslaw10_Of.f t828 t829 t830 t831 t832 t833 t834 t835).bind fun bt866 => ((cell_Undo.f bt866.1 bt866.2.1 bt866.2.2.1 bt866.2.2.2.1 bt866.2.2.2.2.1 bt866.2.2.2.2.2.1 bt866.2.2.2.2.2.2.1 bt866.2.2.2.2.2.2.2).bind fun bt874 => (if bt856.2.2.2.2.2.2.2.2 = true then ((cell_Put.f k ([] : List Int) bt856.1 bt856.2.1 bt856.2.2.1 bt856.2.2.2.1 bt856.2.2.2.2.1 bt856.2.2.2.2.2.1 bt856.2.2.2.2.2.2.1 bt856.2.2.2.2.2.2.2.1).bind fun t884 => (if (t884.length : Int) ≤ (t845.length : Int) then (if bt874.2.2.2.2.2.2.2.2 = true then ((cell_Put.f k ([] : List Int) bt874.1 bt874.2.1 bt874.2.2.1 bt874.2.2.2.1 bt874.2.2.2.2.1 bt874.2.2.2.2.2.1 bt874.2.2.2.2.2.2.1 bt874.2.2.2.2.2.2.2.1).bind fun t887 => (some (decide ((t887.length : Int) ≤ (t845.length : Int))))) else (some true)) else (none))) else (if bt874.2.2.2.2.2.2.2.2 = true then ((cell_Put.f k ([] : List Int) bt874.1 bt874.2.1 bt874.2.2.1 bt874.2.2.2.1 bt874.2.2.2.2.1 bt874.2.2.2.2.2.1 bt874.2.2.2.2.2.2.1 bt874.2.2.2.2.2.2.2.1).bind fun t890 => (some (decide ((t890.length : Int) ≤ (t845.length : Int))))) else (some true)))))))) = some r := H
   have A7 := Aside0.mk A70
   clear A70
   replace H := Option.bind_eq_some_iff.mp H
   obtain ⟨t845, A80, H⟩ := H
   replace H : ((engrosslaw10_Of.f t828 t829 t830 t831 t832 t833 t834 t835).bind fun bt848 => ((cell_Commit.f bt848.1 bt848.2.1 bt848.2.2.1 bt848.2.2.2.1 bt848.2.2.2.2.1 bt848.2.2.2.2.2.1 bt848.2.2.2.2.2.2.1 bt848.2.2.2.2.2.2.2).bind fun bt856 => ((engrosslaw10_Of.f t828 t829 t830 t831 t832 t833 t834 t835).bind fun bt866 => ((cell_Undo.f bt866.1 bt866.2.1 bt866.2.2.1 bt866.2.2.2.1 bt866.2.2.2.2.1 bt866.2.2.2.2.2.1 bt866.2.2.2.2.2.2.1 bt866.2.2.2.2.2.2.2).bind fun bt874 => (if bt856.2.2.2.2.2.2.2.2 = true then ((cell_Put.f k ([] : List Int) bt856.1 bt856.2.1 bt856.2.2.1 bt856.2.2.2.1 bt856.2.2.2.2.1 bt856.2.2.2.2.2.1 bt856.2.2.2.2.2.2.1 bt856.2.2.2.2.2.2.2.1).bind fun t884 => (if (t884.length : Int) ≤ (t845.length : Int) then (if bt874.2.2.2.2.2.2.2.2 = true then ((cell_Put.f k ([] : List Int) bt874.1 bt874.2.1 bt874.2.2.1 bt874.2.2.2.1 bt874.2.2.2.2.1 bt874.2.2.2.2.2.1 bt874.2.2.2.2.2.2.1 bt874.2.2.2.2.2.2.2.1).bind fun t887 => (some (decide ((t887.length : Int) ≤ (t845.length : Int))))) else (some true)) else (none))) else (if bt874.2.2.2.2.2.2.2.2 = true then ((cell_Put.f k ([] : List Int) bt874.1 bt874.2.1 bt874.2.2.1 bt874.2.2.2.1 bt874.2.2.2.2.1 bt874.2.2.2.2.2.1 bt874.2.2.2.2.2.2.1 bt874.2.2.2.2.2.2.2.1).bind fun t890 => (some (decide ((t890.length : Int) ≤ (t845.length : Int))))) else (some true))))))) = some r := H
   have A8 := Aside0.mk A80
   clear A80
   replace H := Option.bind_eq_some_iff.mp H
   obtain ⟨⟨t848, t849, t850, t851, t852, t853, t854, t855⟩, A90, H⟩ := H
   replace H : ((cell_Commit.f t848 t849 t850 t851 t852 t853 t854 t855).bind fun bt856 => ((engrosslaw10_Of.f t828 t829 t830 t831 t832 t833 t834 t835).bind fun bt866 => ((cell_Undo.f bt866.1 bt866.2.1 bt866.2.2.1 bt866.2.2.2.1 bt866.2.2.2.2.1 bt866.2.2.2.2.2.1 bt866.2.2.2.2.2.2.1 bt866.2.2.2.2.2.2.2).bind fun bt874 => (if bt856.2.2.2.2.2.2.2.2 = true then ((cell_Put.f k ([] : List Int) bt856.1 bt856.2.1 bt856.2.2.1 bt856.2.2.2.1 bt856.2.2.2.2.1 bt856.2.2.2.2.2.1 bt856.2.2.2.2.2.2.1 bt856.2.2.2.2.2.2.2.1).bind fun t884 => (if (t884.length : Int) ≤ (t845.length : Int) then (if bt874.2.2.2.2.2.2.2.2 = true then ((cell_Put.f k ([] : List Int) bt874.1 bt874.2.1 bt874.2.2.1 bt874.2.2.2.1 bt874.2.2.2.2.1 bt874.2.2.2.2.2.1 bt874.2.2.2.2.2.2.1 bt874.2.2.2.2.2.2.2.1).bind fun t887 => (some (decide ((t887.length : Int) ≤ (t845.length : Int))))) else (some true)) else (none))) else (if bt874.2.2.2.2.2.2.2.2 = true then ((cell_Put.f k ([] : List Int) bt874.1 bt874.2.1 bt874.2.2.1 bt874.2.2.2.1 bt874.2.2.2.2.1 bt874.2.2.2.2.2.1 bt874.2.2.2.2.2.2.1 bt874.2.2.2.2.2.2.2.1).bind fun t890 => (some (decide ((t890.length : Int) ≤ (t845.length : Int))))) else (some true)))))) = some r := H
   have A9 := Aside0.mk A90
   clear A90
   have EA9 := Option.some.inj (A7.out.symm.trans A9.out)
   simp only [Prod.mk.injEq] at EA9
   obtain ⟨eA9_0, eA9_1, eA9_2, eA9_3, eA9_4, eA9_5, eA9_6, eA9_7⟩ := EA9
   subst eA9_0
   subst eA9_1
   subst eA9_2
   subst eA9_3
   subst eA9_4
   subst eA9_5
   subst eA9_6
   subst eA9_7
   replace H := Option.bind_eq_some_iff.mp H
   obtain ⟨⟨t856, t857, t858, t859, t860, t861, t862, t863, t864⟩, A100, H⟩ := H
   replace H : ((engrosslaw10_Of.f t828 t829 t830 t831 t832 t833 t834 t835).bind fun bt866 => ((cell_Undo.f bt866.1 bt866.2.1 bt866.2.2.1 bt866.2.2.2.1 bt866.2.2.2.2.1 bt866.2.2.2.2.2.1 bt866.2.2.2.2.2.2.1 bt866.2.2.2.2.2.2.2).bind fun bt874 => (if t864 = true then ((cell_Put.f k ([] : List Int) t856 t857 t858 t859 t860 t861 t862 t863).bind fun t884 => (if (t884.length : Int) ≤ (t845.length : Int) then (if bt874.2.2.2.2.2.2.2.2 = true then ((cell_Put.f k ([] : List Int) bt874.1 bt874.2.1 bt874.2.2.1 bt874.2.2.2.1 bt874.2.2.2.2.1 bt874.2.2.2.2.2.1 bt874.2.2.2.2.2.2.1 bt874.2.2.2.2.2.2.2.1).bind fun t887 => (some (decide ((t887.length : Int) ≤ (t845.length : Int))))) else (some true)) else (none))) else (if bt874.2.2.2.2.2.2.2.2 = true then ((cell_Put.f k ([] : List Int) bt874.1 bt874.2.1 bt874.2.2.1 bt874.2.2.2.1 bt874.2.2.2.2.1 bt874.2.2.2.2.2.1 bt874.2.2.2.2.2.2.1 bt874.2.2.2.2.2.2.2.1).bind fun t890 => (some (decide ((t890.length : Int) ≤ (t845.length : Int))))) else (some true))))) = some r := H
   have A10 := Aside0.mk A100
   clear A100
   replace H := Option.bind_eq_some_iff.mp H
   obtain ⟨⟨t866, t867, t868, t869, t870, t871, t872, t873⟩, A110, H⟩ := H
   replace H : ((cell_Undo.f t866 t867 t868 t869 t870 t871 t872 t873).bind fun bt874 => (if t864 = true then ((cell_Put.f k ([] : List Int) t856 t857 t858 t859 t860 t861 t862 t863).bind fun t884 => (if (t884.length : Int) ≤ (t845.length : Int) then (if bt874.2.2.2.2.2.2.2.2 = true then ((cell_Put.f k ([] : List Int) bt874.1 bt874.2.1 bt874.2.2.1 bt874.2.2.2.1 bt874.2.2.2.2.1 bt874.2.2.2.2.2.1 bt874.2.2.2.2.2.2.1 bt874.2.2.2.2.2.2.2.1).bind fun t887 => (some (decide ((t887.length : Int) ≤ (t845.length : Int))))) else (some true)) else (none))) else (if bt874.2.2.2.2.2.2.2.2 = true then ((cell_Put.f k ([] : List Int) bt874.1 bt874.2.1 bt874.2.2.1 bt874.2.2.2.1 bt874.2.2.2.2.1 bt874.2.2.2.2.2.1 bt874.2.2.2.2.2.2.1 bt874.2.2.2.2.2.2.2.1).bind fun t890 => (some (decide ((t890.length : Int) ≤ (t845.length : Int))))) else (some true)))) = some r := H
   have A11 := Aside0.mk A110
   clear A110
   have EA11 := Option.some.inj (A7.out.symm.trans A11.out)
   simp only [Prod.mk.injEq] at EA11
   obtain ⟨eA11_0, eA11_1, eA11_2, eA11_3, eA11_4, eA11_5, eA11_6, eA11_7⟩ := EA11
   subst eA11_0
   subst eA11_1
   subst eA11_2
   subst eA11_3
   subst eA11_4
   subst eA11_5
   subst eA11_6
   subst eA11_7
   replace H := Option.bind_eq_some_iff.mp H
   obtain ⟨⟨t874, t875, t876, t877, t878, t879, t880, t881, t882⟩, A120, H⟩ := H
   replace H : (if t864 = true then ((cell_Put.f k ([] : List Int) t856 t857 t858 t859 t860 t861 t862 t863).bind fun t884 => (if (t884.length : Int) ≤ (t845.length : Int) then (if t882 = true then ((cell_Put.f k ([] : List Int) t874 t875 t876 t877 t878 t879 t880 t881).bind fun t887 => (some (decide ((t887.length : Int) ≤ (t845.length : Int))))) else (some true)) else (none))) else (if t882 = true then ((cell_Put.f k ([] : List Int) t874 t875 t876 t877 t878 t879 t880 t881).bind fun t890 => (some (decide ((t890.length : Int) ≤ (t845.length : Int))))) else (some true))) = some r := H
   have A12 := Aside0.mk A120
   clear A120
   by_cases c13 : t864 = true
   ·subst c13
    have H1 : ((cell_Put.f k ([] : List Int) t856 t857 t858 t859 t860 t861 t862 t863).bind fun t884 => (if (t884.length : Int) ≤ (t845.length : Int) then (if t882 = true then ((cell_Put.f k ([] : List Int) t874 t875 t876 t877 t878 t879 t880 t881).bind fun t887 => (some (decide ((t887.length : Int) ≤ (t845.length : Int))))) else (some true)) else (none))) = some r := by rw [if_pos rfl] at H; exact H
    clear H
    have H := H1
    clear H1
    replace H := Option.bind_eq_some_iff.mp H
    obtain ⟨t884, A140, H⟩ := H
    replace H : (if (t884.length : Int) ≤ (t845.length : Int) then (if t882 = true then ((cell_Put.f k ([] : List Int) t874 t875 t876 t877 t878 t879 t880 t881).bind fun t887 => (some (decide ((t887.length : Int) ≤ (t845.length : Int))))) else (some true)) else (none)) = some r := H
    have A14 := Aside0.mk A140
    clear A140
    by_cases c15 : (t884.length : Int) ≤ (t845.length : Int)
    ·rw [if_pos c15] at H
     have c15b0 : decide ((t884.length : Int) ≤ (t845.length : Int)) = true := decide_eq_true c15
     have c15b1 : decide (t884.length ≤ t845.length) = true := decide_eq_true (Int.ofNat_le.mp c15)
     clear c15
     by_cases c16 : t882 = true
     ·subst c16
      have H1 : ((cell_Put.f k ([] : List Int) t874 t875 t876 t877 t878 t879 t880 t881).bind fun t887 => (some (decide ((t887.length : Int) ≤ (t845.length : Int))))) = some r := by rw [if_pos rfl] at H; exact H
      clear H
      have H := H1
      clear H1
      replace H := Option.bind_eq_some_iff.mp H
      obtain ⟨t887, A170, H⟩ := H
      replace H : (some (decide ((t887.length : Int) ≤ (t845.length : Int)))) = some r := H
      have A17 := Aside0.mk A170
      clear A170
      obtain rfl := Option.some.inj H
      go_enter Try.func6, Try.ntmps6
      go_wp2_with (first | ((with_reducible refine gate_dst (N := 1) rfl ?_); (try (refine gate_guard (by rfl) ?_; dsimp only)); refine box_event ?hg (N := 1) ?hd (cs := #[.string a0_0, .int .i64 a0_1, .float .f64 a0_2, .string a0_3, .int .i64 a0_4, .int .i64 a0_5, .float .f64 a0_6, .string a0_7]) (t := 26) ?hr ?_; (case hd => rfl); (case hg => rfl); (case hr => first | (go_simp; done) | (go_simp; rfl)); intro gb826 hg w18 hbox hb; have BK826 := Aside0.mk (hbox); have GW826 := bZ HB hg; have GE826 := bZ HB hg; replace HB := bW HB hb; clear hb hbox hg) | ((with_reducible refine gate_callee (f := 10) rfl ?_); refine goesL_ (some 9) rfl rfl Try.func10 (by kernel_rfl) rfl #[] rfl (by (try simp only [List.map_toArray, List.map_cons, List.map_nil]); first | done | rfl | (simp only [List.length_drop, List.length_take]; rfl)) ?_; (with_reducible refine (engrosslaw10_begun.calls k  true _ A2.out).mono ?_); rintro e w19 ⟨rfl, hb⟩; refine ⟨_, rfl, ?_⟩; replace BK826 := bB BK826 hb; replace HB := bW HB hb; (try clear hb); (try clear hb2); (try clear hk); (try clear hi); obtain ⟨hcz20_0, hcz20_1, hcz20_2, hcz20_3, hcz20_4, hcz20_5, hcz20_6, hcz20_7, hfz20_0, hfz20_1, hfz20_2, hfz20_3, hfz20_4, hfz20_5, hfz20_6, hfz20_7⟩ := bf8 (w := w19) BK826) | ((with_reducible refine gate_callee (f := 11) rfl ?_); refine goesL_ (some 13) rfl rfl Try.func11 (by kernel_rfl) rfl #[.agg #[.string a0_0, .int .i64 a0_1, .float .f64 a0_2, .string a0_3, .int .i64 a0_4, .int .i64 a0_5, .float .f64 a0_6, .string a0_7]] rfl (by (try simp only [List.map_toArray, List.map_cons, List.map_nil]); first | done | rfl | (simp only [List.length_drop, List.length_take]; rfl)) ?_; (with_reducible refine (engrosslaw10_Cut.calls a0_0 a0_1 a0_2 a0_3 a0_4 a0_5 a0_6 a0_7 t828 t829 t830 t831 t832 t833 t834 t835 _ A4.out).mono ?_); rintro e w21 ⟨rfl, hb⟩; refine ⟨_, rfl, ?_⟩; replace BK826 := bB BK826 hb; replace HB := bW HB hb; (try clear hb); (try clear hb2); (try clear hk); (try clear hi); obtain ⟨hcz22_0, hcz22_1, hcz22_2, hcz22_3, hcz22_4, hcz22_5, hcz22_6, hcz22_7, hfz22_0, hfz22_1, hfz22_2, hfz22_3, hfz22_4, hfz22_5, hfz22_6, hfz22_7⟩ := bf8 (w := w21) BK826) | ((with_reducible refine gate_callee (f := 15) rfl ?_); refine goesL_ (some 15) rfl rfl Try.func15 (by kernel_rfl) rfl #[.agg #[.string t828, .int .i64 t829, .float .f64 t830, .string t831, .int .i64 t832, .int .i64 t833, .float .f64 t834, .string t835]] rfl (by (try simp only [List.map_toArray, List.map_cons, List.map_nil]); first | done | rfl | (simp only [List.length_drop, List.length_take]; rfl)) ?_; (with_reducible refine (engrossref10_May.calls t828 t829 t830 t831 t832 t833 t834 t835 true _ A5.out).mono ?_); rintro e w23 ⟨rfl, hb⟩; refine ⟨_, rfl, ?_⟩; replace BK826 := Aside0.mk (blk_below (g := gb826) (o := .cells #[.string t828, .int .i64 t829, .float .f64 t830, .string t831, .int .i64 t832, .int .i64 t833, .float .f64 t834, .string t835] 26 (0, 0)) (bR BK826) hb); replace HB := bW HB hb; (try clear hb); (try clear hb2); (try clear hk); (try clear hi); obtain ⟨hcz24_0, hcz24_1, hcz24_2, hcz24_3, hcz24_4, hcz24_5, hcz24_6, hcz24_7, hfz24_0, hfz24_1, hfz24_2, hfz24_3, hfz24_4, hfz24_5, hfz24_6, hfz24_7⟩ := bf8 (w := w23) BK826) | ((with_reducible refine gate_callee (f := 14) rfl ?_); refine goesL_ (some 18) rfl rfl Try.func14 (by kernel_rfl) rfl #[.agg #[.string t828, .int .i64 t829, .float .f64 t830, .string t831, .int .i64 t832, .int .i64 t833, .float .f64 t834, .string t835]] rfl (by (try simp only [List.map_toArray, List.map_cons, List.map_nil]); first | done | rfl | (simp only [List.length_drop, List.length_take]; rfl)) ?_; (with_reducible refine (engrosslaw10_Of.calls t828 t829 t830 t831 t832 t833 t834 t835 t837 t838 t839 t840 t841 t842 t843 t844 _ A7.out).mono ?_); rintro e w25 ⟨rfl, hb⟩; refine ⟨_, rfl, ?_⟩; replace BK826 := bB BK826 hb; replace HB := bW HB hb; (try clear hb); (try clear hb2); (try clear hk); (try clear hi)) | ((with_reducible refine gate_callee (f := 29) rfl ?_); refine goesL_ (some 19) rfl rfl Try.func29 (by kernel_rfl) rfl #[.slice none 0 0, .agg #[.string t837, .int .i64 t838, .float .f64 t839, .string t840, .int .i64 t841, .int .i64 t842, .float .f64 t843, .string t844]] rfl (by (try simp only [List.map_toArray, List.map_cons, List.map_nil]); first | done | rfl | (simp only [List.length_drop, List.length_take]; rfl)) ?_; (with_reducible refine (cell_Put.calls k (fun k_ => some k_ = (.slice none 0 0 : Value).ownBlock) (.slice none 0 0) ([] : List Int) t837 t838 t839 t840 t841 t842 t843 t844 t845 w _ ?side1 ?side2 A8.out).mono ?_); (case side1 => repeat (first | (with_reducible first | exact HB.out | apply below_alloc | apply pw_below_drewN | apply below_drew1 | refine below_set ?_ GE826.out) | exact HB.out)); (case side2 => exact Kd.R_nil _ _ _ _ _); rintro e w26 ⟨v846, rfl, ho0, hb, hkp⟩; refine ⟨_, rfl, ?_⟩; have HO847 := Aside0.mk (Kd.R_mono (ok' := fun k_ => True) ho0 (fun k_ hk_ => trivial)); replace BK826 := Aside0.mk (blk_kept (bQ BK826) hkp (fun hs_ => (fun e_ => by simp [Value.ownBlock] at e_) hs_)); replace HB := Aside0.mk (hb); (try clear hb); (try clear hkp); (try clear ho0); obtain ⟨Ao27, co27, eo27⟩ := Kd.R_slice HO847.out; subst eo27; obtain ⟨hcz28_0, hcz28_1, hcz28_2, hcz28_3, hcz28_4, hcz28_5, hcz28_6, hcz28_7, hfz28_0, hfz28_1, hfz28_2, hfz28_3, hfz28_4, hfz28_5, hfz28_6, hfz28_7⟩ := bf8 (w := w26) BK826) | ((with_reducible refine gate_callee (f := 14) rfl ?_); refine goesL_ (some 23) rfl rfl Try.func14 (by kernel_rfl) rfl #[.agg #[.string t828, .int .i64 t829, .float .f64 t830, .string t831, .int .i64 t832, .int .i64 t833, .float .f64 t834, .string t835]] rfl (by (try simp only [List.map_toArray, List.map_cons, List.map_nil]); first | done | rfl | (simp only [List.length_drop, List.length_take]; rfl)) ?_; (with_reducible refine (engrosslaw10_Of.calls t828 t829 t830 t831 t832 t833 t834 t835 t837 t838 t839 t840 t841 t842 t843 t844 _ A9.out).mono ?_); rintro e w29 ⟨rfl, hb⟩; refine ⟨_, rfl, ?_⟩; replace HO847 := Aside0.mk (Kd.R_below (by (with_reducible repeat (first | apply Kd.R_alloc | apply Kd.R_drewN | apply Kd.R_drew)); exact HO847.out) hb); replace BK826 := bB BK826 hb; replace HB := bW HB hb; (try clear hb); (try clear hb2); (try clear hk); (try clear hi)) | ((with_reducible refine gate_callee (f := 21) rfl ?_); refine goesL_ (some 24) rfl rfl Try.func21 (by kernel_rfl) rfl #[.agg #[.string t837, .int .i64 t838, .float .f64 t839, .string t840, .int .i64 t841, .int .i64 t842, .float .f64 t843, .string t844]] rfl (by (try simp only [List.map_toArray, List.map_cons, List.map_nil]); first | done | rfl | (simp only [List.length_drop, List.length_take]; rfl)) ?_; (with_reducible refine (cell_Commit.calls t837 t838 t839 t840 t841 t842 t843 t844 t856 t857 t858 t859 t860 t861 t862 t863 true _ A10.out).mono ?_); rintro e w30 ⟨rfl, hb⟩; refine ⟨_, rfl, ?_⟩; replace HO847 := Aside0.mk (Kd.R_below (by (with_reducible repeat (first | apply Kd.R_alloc | apply Kd.R_drewN | apply Kd.R_drew)); exact HO847.out) hb); replace BK826 := bB BK826 hb; replace HB := bW HB hb; (try clear hb); (try clear hb2); (try clear hk); (try clear hi)) | ((with_reducible refine gate_dst (N := 5) rfl ?_); (try (refine gate_guard (by rfl) ?_; dsimp only)); refine box_event ?hg (N := 5) ?hd (cs := #[.string (⟨#[]⟩ : ByteArray), .int .i64 0, .float .f64 0, .string (⟨#[]⟩ : ByteArray), .int .i64 0, .int .i64 0, .float .f64 0, .string (⟨#[]⟩ : ByteArray)]) (t := 31) ?hr ?_; (case hd => rfl); (case hg => rfl); (case hr => first | (go_simp; done) | (go_simp; rfl)); intro gb865 hg w31 hbox hb; have BK865 := Aside0.mk (hbox); have GW865 := bZ HB hg; have GE865 := bZ HB hg; have NB826_865 := bL BK826 hg; have NB865_826 := bG BK826 hg; replace HO847 := Aside0.mk (Kd.R_below (by (with_reducible repeat (first | apply Kd.R_alloc | apply Kd.R_drewN | apply Kd.R_drew)); exact HO847.out) hb); replace BK826 := bB BK826 hb; replace HB := bW HB hb; clear hb hbox hg; have hnb32 := NB865_826.out; have hnc32 := NB826_865.out; obtain ⟨hcz33_0, hcz33_1, hcz33_2, hcz33_3, hcz33_4, hcz33_5, hcz33_6, hcz33_7, hfz33_0, hfz33_1, hfz33_2, hfz33_3, hfz33_4, hfz33_5, hfz33_6, hfz33_7⟩ := bf8 (w := w31) BK865; obtain ⟨hcz34_0, hcz34_1, hcz34_2, hcz34_3, hcz34_4, hcz34_5, hcz34_6, hcz34_7, hfz34_0, hfz34_1, hfz34_2, hfz34_3, hfz34_4, hfz34_5, hfz34_6, hfz34_7⟩ := bf8 (w := w31) BK826) | ((with_reducible refine gate_callee (f := 14) rfl ?_); refine goesL_ (some 29) rfl rfl Try.func14 (by kernel_rfl) rfl #[.agg #[.string t828, .int .i64 t829, .float .f64 t830, .string t831, .int .i64 t832, .int .i64 t833, .float .f64 t834, .string t835]] rfl (by (try simp only [List.map_toArray, List.map_cons, List.map_nil]); first | done | rfl | (simp only [List.length_drop, List.length_take]; rfl)) ?_; (with_reducible refine (engrosslaw10_Of.calls t828 t829 t830 t831 t832 t833 t834 t835 t837 t838 t839 t840 t841 t842 t843 t844 _ A11.out).mono ?_); rintro e w35 ⟨rfl, hb⟩; refine ⟨_, rfl, ?_⟩; replace HO847 := Aside0.mk (Kd.R_below (by (with_reducible repeat (first | apply Kd.R_alloc | apply Kd.R_drewN | apply Kd.R_drew)); exact (Kd.R_mono (Kd.R_far (p := ⟨gb865, 7, none⟩) (Kd.R_far (p := ⟨gb865, 6, none⟩) (Kd.R_far (p := ⟨gb865, 5, none⟩) (Kd.R_far (p := ⟨gb865, 4, none⟩) (Kd.R_far (p := ⟨gb865, 3, none⟩) (Kd.R_far (p := ⟨gb865, 2, none⟩) (Kd.R_far (p := ⟨gb865, 1, none⟩) (Kd.R_far (p := ⟨gb865, 0, none⟩) (Kd.R_types HO847.out BK865.out (by decide)) (fun _ hk => hk.2) (.string t856)) (fun _ hk => hk.2) (.int .i64 t857)) (fun _ hk => hk.2) (.float .f64 t858)) (fun _ hk => hk.2) (.string t859)) (fun _ hk => hk.2) (.int .i64 t860)) (fun _ hk => hk.2) (.int .i64 t861)) (fun _ hk => hk.2) (.float .f64 t862)) (fun _ hk => hk.2) (.string t863)) (fun _ h_ => h_.1))) hb); replace BK826 := bB BK826 hb; replace BK865 := Aside0.mk (blk_below (g := gb865) (o := .cells #[.string t856, .int .i64 t857, .float .f64 t858, .string t859, .int .i64 t860, .int .i64 t861, .float .f64 t862, .string t863] 31 (0, 0)) (bR BK865) hb); replace HB := bW HB hb; (try clear hb); (try clear hb2); (try clear hk); (try clear hi)) | ((with_reducible refine gate_callee (f := 23) rfl ?_); refine goesL_ (some 30) rfl rfl Try.func23 (by kernel_rfl) rfl #[.agg #[.string t837, .int .i64 t838, .float .f64 t839, .string t840, .int .i64 t841, .int .i64 t842, .float .f64 t843, .string t844]] rfl (by (try simp only [List.map_toArray, List.map_cons, List.map_nil]); first | done | rfl | (simp only [List.length_drop, List.length_take]; rfl)) ?_; (with_reducible refine (cell_Undo.calls t837 t838 t839 t840 t841 t842 t843 t844 t874 t875 t876 t877 t878 t879 t880 t881 true _ A12.out).mono ?_); rintro e w36 ⟨rfl, hb⟩; refine ⟨_, rfl, ?_⟩; replace HO847 := Aside0.mk (Kd.R_below (by (with_reducible repeat (first | apply Kd.R_alloc | apply Kd.R_drewN | apply Kd.R_drew)); exact HO847.out) hb); replace BK826 := bB BK826 hb; replace BK865 := bB BK865 hb; replace HB := bW HB hb; (try clear hb); (try clear hb2); (try clear hk); (try clear hi)) | ((with_reducible refine gate_dst (N := 7) rfl ?_); (try (refine gate_guard (by rfl) ?_; dsimp only)); refine box_event ?hg (N := 7) ?hd (cs := #[.string (⟨#[]⟩ : ByteArray), .int .i64 0, .float .f64 0, .string (⟨#[]⟩ : ByteArray), .int .i64 0, .int .i64 0, .float .f64 0, .string (⟨#[]⟩ : ByteArray)]) (t := 31) ?hr ?_; (case hd => rfl); (case hg => rfl); (case hr => first | (go_simp; done) | (go_simp; rfl)); intro gb883 hg w37 hbox hb; have BK883 := Aside0.mk (hbox); have GW883 := bZ HB hg; have GE883 := bZ HB hg; have NB826_883 := bL BK826 hg; have NB883_826 := bG BK826 hg; have NB865_883 := bL BK865 hg; have NB883_865 := bG BK865 hg; replace HO847 := Aside0.mk (Kd.R_below (by (with_reducible repeat (first | apply Kd.R_alloc | apply Kd.R_drewN | apply Kd.R_drew)); exact HO847.out) hb); replace BK826 := bB BK826 hb; replace BK865 := bB BK865 hb; replace HB := bW HB hb; clear hb hbox hg; have hnb38 := NB883_826.out; have hnc38 := NB826_883.out; have hnb39 := NB883_865.out; have hnc39 := NB865_883.out; obtain ⟨hcz40_0, hcz40_1, hcz40_2, hcz40_3, hcz40_4, hcz40_5, hcz40_6, hcz40_7, hfz40_0, hfz40_1, hfz40_2, hfz40_3, hfz40_4, hfz40_5, hfz40_6, hfz40_7⟩ := bf8 (w := w37) BK883) | ((with_reducible refine gate_store (t := 31) (p := 7) rfl ?_); refine store_event (t := 31) (p := 7) (v := ?vo_w41) (w1 := ((((((((w37.setCell ⟨gb883, 0, none⟩ (.string t874)).setCell ⟨gb883, 1, none⟩ (.int .i64 t875)).setCell ⟨gb883, 2, none⟩ (.float .f64 t876)).setCell ⟨gb883, 3, none⟩ (.string t877)).setCell ⟨gb883, 4, none⟩ (.int .i64 t878)).setCell ⟨gb883, 5, none⟩ (.int .i64 t879)).setCell ⟨gb883, 6, none⟩ (.float .f64 t880)).setCell ⟨gb883, 7, none⟩ (.string t881))) ?hg ?ho ?hn ?hr ?_; (case ho => rfl); (case hg => rfl); (case hn => rfl); (case hr => first | (go_simp; done) | (go_simp; rfl)); intro w41 hw; replace HO847 : Aside0 (Kd.R (Kd.int .u8) 5 w41 w.heap.size (fun _ => True) (.slice Ao27 t845.length co27) t845) := ⟨(by rw [hw]; exact (by (with_reducible repeat (first | apply Kd.R_alloc | apply Kd.R_drewN | apply Kd.R_drew)); exact Kd.R_mono (Kd.R_far (p := ⟨gb883, 7, none⟩) (Kd.R_far (p := ⟨gb883, 6, none⟩) (Kd.R_far (p := ⟨gb883, 5, none⟩) (Kd.R_far (p := ⟨gb883, 4, none⟩) (Kd.R_far (p := ⟨gb883, 3, none⟩) (Kd.R_far (p := ⟨gb883, 2, none⟩) (Kd.R_far (p := ⟨gb883, 1, none⟩) (Kd.R_far (p := ⟨gb883, 0, none⟩) (Kd.R_types HO847.out BK883.out (by decide)) (fun _ hk => hk.2) (.string t874)) (fun _ hk => hk.2) (.int .i64 t875)) (fun _ hk => hk.2) (.float .f64 t876)) (fun _ hk => hk.2) (.string t877)) (fun _ hk => hk.2) (.int .i64 t878)) (fun _ hk => hk.2) (.int .i64 t879)) (fun _ hk => hk.2) (.float .f64 t880)) (fun _ hk => hk.2) (.string t881)) (fun _ hk => trivial)))⟩; replace BK826 := bE BK826 hw; replace BK865 := bE BK865 hw; replace BK883 : Aside0 (w41.heap[gb883]? = some (.cells #[.string t874, .int .i64 t875, .float .f64 t876, .string t877, .int .i64 t878, .int .i64 t879, .float .f64 t880, .string t881] 31 (0, 0))) := bP BK883 hw; replace HB := bH HB hw; clear hw; obtain ⟨hcz42_0, hcz42_1, hcz42_2, hcz42_3, hcz42_4, hcz42_5, hcz42_6, hcz42_7, hfz42_0, hfz42_1, hfz42_2, hfz42_3, hfz42_4, hfz42_5, hfz42_6, hfz42_7⟩ := bf8 (w := w41) BK865) | (go_at_call 29; (with_reducible refine (cell_Put.calls k (fun k_ => some k_ = (.slice none 0 0 : Value).ownBlock) (.slice none 0 0) ([] : List Int) t856 t857 t858 t859 t860 t861 t862 t863 t884 w _ ?side1 ?side2 A14.out).mono ?_); (case side1 => repeat (first | (with_reducible first | exact HB.out | apply below_alloc | apply pw_below_drewN | apply below_drew1 | refine below_set ?_ GE826.out | refine below_set ?_ GE865.out | refine below_set ?_ GE883.out) | exact HB.out)); (case side2 => exact Kd.R_nil _ _ _ _ _); rintro e w43 ⟨v885, rfl, ho0, hb, hkp⟩; have HO886 := Aside0.mk (Kd.R_mono (ok' := fun k_ => some k_ ≠ (.slice Ao27 t845.length co27 : Value).ownBlock) ho0 (fun k_ hk_ => Or.elim hk_ (fun hs_ => absurd hs_ (by simp [Value.ownBlock])) (fun hn_ => (Kd.fresh' (Kd.R_lt (by (with_reducible repeat (first | apply Kd.R_alloc | apply Kd.R_drewN | apply Kd.R_drew)); exact HO847.out)) k_ hn_)))); replace BK826 := Aside0.mk (blk_kept (bQ BK826) hkp (fun hs_ => (fun e_ => by simp [Value.ownBlock] at e_) hs_)); replace HO847 := Aside0.mk (Kd.R_mono (ok' := fun k_ => some k_ ≠ (v885 : Value).ownBlock) (Kd.R_keptB (HO847.out) hkp (fun k_ hk_ hs_ => (fun e_ => by simp [Value.ownBlock] at e_) hs_)) (fun k_ hk_ => fun e_ => Or.elim (ho0.1 k_ e_.symm) (fun hs_ => hk_.2.1 hs_) (fun hn_ => Nat.not_le.2 hk_.2.2 hn_))); replace BK865 := Aside0.mk (blk_kept (bQ BK865) hkp (fun hs_ => (fun e_ => by simp [Value.ownBlock] at e_) hs_)); replace BK883 := Aside0.mk (blk_kept (bQ BK883) hkp (fun hs_ => (fun e_ => by simp [Value.ownBlock] at e_) hs_)); replace HB := Aside0.mk (hb); (try clear hb); (try clear hkp); (try clear ho0); obtain ⟨Ao44, co44, eo44⟩ := Kd.R_slice HO886.out; subst eo44; obtain ⟨hcz45_0, hcz45_1, hcz45_2, hcz45_3, hcz45_4, hcz45_5, hcz45_6, hcz45_7, hfz45_0, hfz45_1, hfz45_2, hfz45_3, hfz45_4, hfz45_5, hfz45_6, hfz45_7⟩ := bf8 (w := w43) BK883) | (go_at_call 29; (with_reducible refine (cell_Put.calls k (fun k_ => some k_ = (.slice none 0 0 : Value).ownBlock) (.slice none 0 0) ([] : List Int) t874 t875 t876 t877 t878 t879 t880 t881 t887 w _ ?side1 ?side2 A17.out).mono ?_); (case side1 => repeat (first | (with_reducible first | exact HB.out | apply below_alloc | apply pw_below_drewN | apply below_drew1 | refine below_set ?_ GE826.out | refine below_set ?_ GE865.out | refine below_set ?_ GE883.out) | exact HB.out)); (case side2 => exact Kd.R_nil _ _ _ _ _); rintro e w46 ⟨v888, rfl, ho0, hb, hkp⟩; have HO889 := Aside0.mk (Kd.R_mono (ok' := fun k_ => some k_ ≠ (.slice Ao27 t845.length co27 : Value).ownBlock ∧ some k_ ≠ (.slice Ao44 t884.length co44 : Value).ownBlock) ho0 (fun k_ hk_ => ⟨Or.elim hk_ (fun hs_ => absurd hs_ (by simp [Value.ownBlock])) (fun hn_ => (Kd.fresh' (Kd.R_lt (by (with_reducible repeat (first | apply Kd.R_alloc | apply Kd.R_drewN | apply Kd.R_drew)); exact HO847.out)) k_ hn_)), Or.elim hk_ (fun hs_ => absurd hs_ (by simp [Value.ownBlock])) (fun hn_ => (Kd.fresh' (Kd.R_lt (by (with_reducible repeat (first | apply Kd.R_alloc | apply Kd.R_drewN | apply Kd.R_drew)); exact HO886.out)) k_ hn_))⟩)); replace BK826 := Aside0.mk (blk_kept (bQ BK826) hkp (fun hs_ => (fun e_ => by simp [Value.ownBlock] at e_) hs_)); replace HO847 := Aside0.mk (Kd.R_mono (ok' := fun k_ => some k_ ≠ (.slice Ao44 t884.length co44 : Value).ownBlock ∧ some k_ ≠ (v888 : Value).ownBlock) (Kd.R_keptB (HO847.out) hkp (fun k_ hk_ hs_ => (fun e_ => by simp [Value.ownBlock] at e_) hs_)) (fun k_ hk_ => ⟨hk_.1, fun e_ => Or.elim (ho0.1 k_ e_.symm) (fun hs_ => hk_.2.1 hs_) (fun hn_ => Nat.not_le.2 hk_.2.2 hn_)⟩)); replace BK865 := Aside0.mk (blk_kept (bQ BK865) hkp (fun hs_ => (fun e_ => by simp [Value.ownBlock] at e_) hs_)); replace BK883 := Aside0.mk (blk_kept (bQ BK883) hkp (fun hs_ => (fun e_ => by simp [Value.ownBlock] at e_) hs_)); replace HO886 := Aside0.mk (Kd.R_mono (ok' := fun k_ => some k_ ≠ (.slice Ao27 t845.length co27 : Value).ownBlock ∧ some k_ ≠ (v888 : Value).ownBlock) (Kd.R_keptB (HO886.out) hkp (fun k_ hk_ hs_ => (fun e_ => by simp [Value.ownBlock] at e_) hs_)) (fun k_ hk_ => ⟨hk_.1, fun e_ => Or.elim (ho0.1 k_ e_.symm) (fun hs_ => hk_.2.1 hs_) (fun hn_ => Nat.not_le.2 hk_.2.2 hn_)⟩)); replace HB := Aside0.mk (hb); (try clear hb); (try clear hkp); (try clear ho0); obtain ⟨Ao47, co47, eo47⟩ := Kd.R_slice HO889.out; subst eo47))
      go_ret
      exact ⟨by first | rfl | (simp [errW_none, errW_some] <;> rfl) | (simp [*, errW_none, errW_some] <;> rfl), by repeat (first | (with_reducible first | exact HB.out | apply below_alloc | apply pw_below_drewN | apply below_drew1 | refine below_set ?_ GE826.out | refine below_set ?_ GE865.out | refine below_set ?_ GE883.out) | exact HB.out)⟩
     ·replace c16 := Bool.eq_false_iff.mpr c16
      subst c16
      have H1 : (some true) = some r := by rw [if_neg (show ¬ (false = true) by decide)] at H; exact H
      clear H
      have H := H1
      clear H1
      obtain rfl := Option.some.inj H
      go_enter Try.func6, Try.ntmps6
      go_wp2_with (first | ((with_reducible refine gate_dst (N := 1) rfl ?_); (try (refine gate_guard (by rfl) ?_; dsimp only)); refine box_event ?hg (N := 1) ?hd (cs := #[.string a0_0, .int .i64 a0_1, .float .f64 a0_2, .string a0_3, .int .i64 a0_4, .int .i64 a0_5, .float .f64 a0_6, .string a0_7]) (t := 26) ?hr ?_; (case hd => rfl); (case hg => rfl); (case hr => first | (go_simp; done) | (go_simp; rfl)); intro gb826 hg w48 hbox hb; have BK826 := Aside0.mk (hbox); have GW826 := bZ HB hg; have GE826 := bZ HB hg; replace HB := bW HB hb; clear hb hbox hg) | ((with_reducible refine gate_callee (f := 10) rfl ?_); refine goesL_ (some 9) rfl rfl Try.func10 (by kernel_rfl) rfl #[] rfl (by (try simp only [List.map_toArray, List.map_cons, List.map_nil]); first | done | rfl | (simp only [List.length_drop, List.length_take]; rfl)) ?_; (with_reducible refine (engrosslaw10_begun.calls k  true _ A2.out).mono ?_); rintro e w49 ⟨rfl, hb⟩; refine ⟨_, rfl, ?_⟩; replace BK826 := bB BK826 hb; replace HB := bW HB hb; (try clear hb); (try clear hb2); (try clear hk); (try clear hi); obtain ⟨hcz50_0, hcz50_1, hcz50_2, hcz50_3, hcz50_4, hcz50_5, hcz50_6, hcz50_7, hfz50_0, hfz50_1, hfz50_2, hfz50_3, hfz50_4, hfz50_5, hfz50_6, hfz50_7⟩ := bf8 (w := w49) BK826) | ((with_reducible refine gate_callee (f := 11) rfl ?_); refine goesL_ (some 13) rfl rfl Try.func11 (by kernel_rfl) rfl #[.agg #[.string a0_0, .int .i64 a0_1, .float .f64 a0_2, .string a0_3, .int .i64 a0_4, .int .i64 a0_5, .float .f64 a0_6, .string a0_7]] rfl (by (try simp only [List.map_toArray, List.map_cons, List.map_nil]); first | done | rfl | (simp only [List.length_drop, List.length_take]; rfl)) ?_; (with_reducible refine (engrosslaw10_Cut.calls a0_0 a0_1 a0_2 a0_3 a0_4 a0_5 a0_6 a0_7 t828 t829 t830 t831 t832 t833 t834 t835 _ A4.out).mono ?_); rintro e w51 ⟨rfl, hb⟩; refine ⟨_, rfl, ?_⟩; replace BK826 := bB BK826 hb; replace HB := bW HB hb; (try clear hb); (try clear hb2); (try clear hk); (try clear hi); obtain ⟨hcz52_0, hcz52_1, hcz52_2, hcz52_3, hcz52_4, hcz52_5, hcz52_6, hcz52_7, hfz52_0, hfz52_1, hfz52_2, hfz52_3, hfz52_4, hfz52_5, hfz52_6, hfz52_7⟩ := bf8 (w := w51) BK826) | ((with_reducible refine gate_callee (f := 15) rfl ?_); refine goesL_ (some 15) rfl rfl Try.func15 (by kernel_rfl) rfl #[.agg #[.string t828, .int .i64 t829, .float .f64 t830, .string t831, .int .i64 t832, .int .i64 t833, .float .f64 t834, .string t835]] rfl (by (try simp only [List.map_toArray, List.map_cons, List.map_nil]); first | done | rfl | (simp only [List.length_drop, List.length_take]; rfl)) ?_; (with_reducible refine (engrossref10_May.calls t828 t829 t830 t831 t832 t833 t834 t835 true _ A5.out).mono ?_); rintro e w53 ⟨rfl, hb⟩; refine ⟨_, rfl, ?_⟩; replace BK826 := Aside0.mk (blk_below (g := gb826) (o := .cells #[.string t828, .int .i64 t829, .float .f64 t830, .string t831, .int .i64 t832, .int .i64 t833, .float .f64 t834, .string t835] 26 (0, 0)) (bR BK826) hb); replace HB := bW HB hb; (try clear hb); (try clear hb2); (try clear hk); (try clear hi); obtain ⟨hcz54_0, hcz54_1, hcz54_2, hcz54_3, hcz54_4, hcz54_5, hcz54_6, hcz54_7, hfz54_0, hfz54_1, hfz54_2, hfz54_3, hfz54_4, hfz54_5, hfz54_6, hfz54_7⟩ := bf8 (w := w53) BK826) | ((with_reducible refine gate_callee (f := 14) rfl ?_); refine goesL_ (some 18) rfl rfl Try.func14 (by kernel_rfl) rfl #[.agg #[.string t828, .int .i64 t829, .float .f64 t830, .string t831, .int .i64 t832, .int .i64 t833, .float .f64 t834, .string t835]] rfl (by (try simp only [List.map_toArray, List.map_cons, List.map_nil]); first | done | rfl | (simp only [List.length_drop, List.length_take]; rfl)) ?_; (with_reducible refine (engrosslaw10_Of.calls t828 t829 t830 t831 t832 t833 t834 t835 t837 t838 t839 t840 t841 t842 t843 t844 _ A7.out).mono ?_); rintro e w55 ⟨rfl, hb⟩; refine ⟨_, rfl, ?_⟩; replace BK826 := bB BK826 hb; replace HB := bW HB hb; (try clear hb); (try clear hb2); (try clear hk); (try clear hi)) | ((with_reducible refine gate_callee (f := 29) rfl ?_); refine goesL_ (some 19) rfl rfl Try.func29 (by kernel_rfl) rfl #[.slice none 0 0, .agg #[.string t837, .int .i64 t838, .float .f64 t839, .string t840, .int .i64 t841, .int .i64 t842, .float .f64 t843, .string t844]] rfl (by (try simp only [List.map_toArray, List.map_cons, List.map_nil]); first | done | rfl | (simp only [List.length_drop, List.length_take]; rfl)) ?_; (with_reducible refine (cell_Put.calls k (fun k_ => some k_ = (.slice none 0 0 : Value).ownBlock) (.slice none 0 0) ([] : List Int) t837 t838 t839 t840 t841 t842 t843 t844 t845 w _ ?side1 ?side2 A8.out).mono ?_); (case side1 => repeat (first | (with_reducible first | exact HB.out | apply below_alloc | apply pw_below_drewN | apply below_drew1 | refine below_set ?_ GE826.out) | exact HB.out)); (case side2 => exact Kd.R_nil _ _ _ _ _); rintro e w56 ⟨v846, rfl, ho0, hb, hkp⟩; refine ⟨_, rfl, ?_⟩; have HO847 := Aside0.mk (Kd.R_mono (ok' := fun k_ => True) ho0 (fun k_ hk_ => trivial)); replace BK826 := Aside0.mk (blk_kept (bQ BK826) hkp (fun hs_ => (fun e_ => by simp [Value.ownBlock] at e_) hs_)); replace HB := Aside0.mk (hb); (try clear hb); (try clear hkp); (try clear ho0); obtain ⟨Ao57, co57, eo57⟩ := Kd.R_slice HO847.out; subst eo57; obtain ⟨hcz58_0, hcz58_1, hcz58_2, hcz58_3, hcz58_4, hcz58_5, hcz58_6, hcz58_7, hfz58_0, hfz58_1, hfz58_2, hfz58_3, hfz58_4, hfz58_5, hfz58_6, hfz58_7⟩ := bf8 (w := w56) BK826) | ((with_reducible refine gate_callee (f := 14) rfl ?_); refine goesL_ (some 23) rfl rfl Try.func14 (by kernel_rfl) rfl #[.agg #[.string t828, .int .i64 t829, .float .f64 t830, .string t831, .int .i64 t832, .int .i64 t833, .float .f64 t834, .string t835]] rfl (by (try simp only [List.map_toArray, List.map_cons, List.map_nil]); first | done | rfl | (simp only [List.length_drop, List.length_take]; rfl)) ?_; (with_reducible refine (engrosslaw10_Of.calls t828 t829 t830 t831 t832 t833 t834 t835 t837 t838 t839 t840 t841 t842 t843 t844 _ A9.out).mono ?_); rintro e w59 ⟨rfl, hb⟩; refine ⟨_, rfl, ?_⟩; replace HO847 := Aside0.mk (Kd.R_below (by (with_reducible repeat (first | apply Kd.R_alloc | apply Kd.R_drewN | apply Kd.R_drew)); exact HO847.out) hb); replace BK826 := bB BK826 hb; replace HB := bW HB hb; (try clear hb); (try clear hb2); (try clear hk); (try clear hi)) | ((with_reducible refine gate_callee (f := 21) rfl ?_); refine goesL_ (some 24) rfl rfl Try.func21 (by kernel_rfl) rfl #[.agg #[.string t837, .int .i64 t838, .float .f64 t839, .string t840, .int .i64 t841, .int .i64 t842, .float .f64 t843, .string t844]] rfl (by (try simp only [List.map_toArray, List.map_cons, List.map_nil]); first | done | rfl | (simp only [List.length_drop, List.length_take]; rfl)) ?_; (with_reducible refine (cell_Commit.calls t837 t838 t839 t840 t841 t842 t843 t844 t856 t857 t858 t859 t860 t861 t862 t863 true _ A10.out).mono ?_); rintro e w60 ⟨rfl, hb⟩; refine ⟨_, rfl, ?_⟩; replace HO847 := Aside0.mk (Kd.R_below (by (with_reducible repeat (first | apply Kd.R_alloc | apply Kd.R_drewN | apply Kd.R_drew)); exact HO847.out) hb); replace BK826 := bB BK826 hb; replace HB := bW HB hb; (try clear hb); (try clear hb2); (try clear hk); (try clear hi)) | ((with_reducible refine gate_dst (N := 5) rfl ?_); (try (refine gate_guard (by rfl) ?_; dsimp only)); refine box_event ?hg (N := 5) ?hd (cs := #[.string (⟨#[]⟩ : ByteArray), .int .i64 0, .float .f64 0, .string (⟨#[]⟩ : ByteArray), .int .i64 0, .int .i64 0, .float .f64 0, .string (⟨#[]⟩ : ByteArray)]) (t := 31) ?hr ?_; (case hd => rfl); (case hg => rfl); (case hr => first | (go_simp; done) | (go_simp; rfl)); intro gb865 hg w61 hbox hb; have BK865 := Aside0.mk (hbox); have GW865 := bZ HB hg; have GE865 := bZ HB hg; have NB826_865 := bL BK826 hg; have NB865_826 := bG BK826 hg; replace HO847 := Aside0.mk (Kd.R_below (by (with_reducible repeat (first | apply Kd.R_alloc | apply Kd.R_drewN | apply Kd.R_drew)); exact HO847.out) hb); replace BK826 := bB BK826 hb; replace HB := bW HB hb; clear hb hbox hg; have hnb62 := NB865_826.out; have hnc62 := NB826_865.out; obtain ⟨hcz63_0, hcz63_1, hcz63_2, hcz63_3, hcz63_4, hcz63_5, hcz63_6, hcz63_7, hfz63_0, hfz63_1, hfz63_2, hfz63_3, hfz63_4, hfz63_5, hfz63_6, hfz63_7⟩ := bf8 (w := w61) BK865; obtain ⟨hcz64_0, hcz64_1, hcz64_2, hcz64_3, hcz64_4, hcz64_5, hcz64_6, hcz64_7, hfz64_0, hfz64_1, hfz64_2, hfz64_3, hfz64_4, hfz64_5, hfz64_6, hfz64_7⟩ := bf8 (w := w61) BK826) | ((with_reducible refine gate_callee (f := 14) rfl ?_); refine goesL_ (some 29) rfl rfl Try.func14 (by kernel_rfl) rfl #[.agg #[.string t828, .int .i64 t829, .float .f64 t830, .string t831, .int .i64 t832, .int .i64 t833, .float .f64 t834, .string t835]] rfl (by (try simp only [List.map_toArray, List.map_cons, List.map_nil]); first | done | rfl | (simp only [List.length_drop, List.length_take]; rfl)) ?_; (with_reducible refine (engrosslaw10_Of.calls t828 t829 t830 t831 t832 t833 t834 t835 t837 t838 t839 t840 t841 t842 t843 t844 _ A11.out).mono ?_); rintro e w65 ⟨rfl, hb⟩; refine ⟨_, rfl, ?_⟩; replace HO847 := Aside0.mk (Kd.R_below (by (with_reducible repeat (first | apply Kd.R_alloc | apply Kd.R_drewN | apply Kd.R_drew)); exact (Kd.R_mono (Kd.R_far (p := ⟨gb865, 7, none⟩) (Kd.R_far (p := ⟨gb865, 6, none⟩) (Kd.R_far (p := ⟨gb865, 5, none⟩) (Kd.R_far (p := ⟨gb865, 4, none⟩) (Kd.R_far (p := ⟨gb865, 3, none⟩) (Kd.R_far (p := ⟨gb865, 2, none⟩) (Kd.R_far (p := ⟨gb865, 1, none⟩) (Kd.R_far (p := ⟨gb865, 0, none⟩) (Kd.R_types HO847.out BK865.out (by decide)) (fun _ hk => hk.2) (.string t856)) (fun _ hk => hk.2) (.int .i64 t857)) (fun _ hk => hk.2) (.float .f64 t858)) (fun _ hk => hk.2) (.string t859)) (fun _ hk => hk.2) (.int .i64 t860)) (fun _ hk => hk.2) (.int .i64 t861)) (fun _ hk => hk.2) (.float .f64 t862)) (fun _ hk => hk.2) (.string t863)) (fun _ h_ => h_.1))) hb); replace BK826 := bB BK826 hb; replace BK865 := Aside0.mk (blk_below (g := gb865) (o := .cells #[.string t856, .int .i64 t857, .float .f64 t858, .string t859, .int .i64 t860, .int .i64 t861, .float .f64 t862, .string t863] 31 (0, 0)) (bR BK865) hb); replace HB := bW HB hb; (try clear hb); (try clear hb2); (try clear hk); (try clear hi)) | ((with_reducible refine gate_callee (f := 23) rfl ?_); refine goesL_ (some 30) rfl rfl Try.func23 (by kernel_rfl) rfl #[.agg #[.string t837, .int .i64 t838, .float .f64 t839, .string t840, .int .i64 t841, .int .i64 t842, .float .f64 t843, .string t844]] rfl (by (try simp only [List.map_toArray, List.map_cons, List.map_nil]); first | done | rfl | (simp only [List.length_drop, List.length_take]; rfl)) ?_; (with_reducible refine (cell_Undo.calls t837 t838 t839 t840 t841 t842 t843 t844 t874 t875 t876 t877 t878 t879 t880 t881 false _ A12.out).mono ?_); rintro e w66 ⟨rfl, hb⟩; refine ⟨_, rfl, ?_⟩; replace HO847 := Aside0.mk (Kd.R_below (by (with_reducible repeat (first | apply Kd.R_alloc | apply Kd.R_drewN | apply Kd.R_drew)); exact HO847.out) hb); replace BK826 := bB BK826 hb; replace BK865 := bB BK865 hb; replace HB := bW HB hb; (try clear hb); (try clear hb2); (try clear hk); (try clear hi)) | ((with_reducible refine gate_dst (N := 7) rfl ?_); (try (refine gate_guard (by rfl) ?_; dsimp only)); refine box_event ?hg (N := 7) ?hd (cs := #[.string (⟨#[]⟩ : ByteArray), .int .i64 0, .float .f64 0, .string (⟨#[]⟩ : ByteArray), .int .i64 0, .int .i64 0, .float .f64 0, .string (⟨#[]⟩ : ByteArray)]) (t := 31) ?hr ?_; (case hd => rfl); (case hg => rfl); (case hr => first | (go_simp; done) | (go_simp; rfl)); intro gb883 hg w67 hbox hb; have BK883 := Aside0.mk (hbox); have GW883 := bZ HB hg; have GE883 := bZ HB hg; have NB826_883 := bL BK826 hg; have NB883_826 := bG BK826 hg; have NB865_883 := bL BK865 hg; have NB883_865 := bG BK865 hg; replace HO847 := Aside0.mk (Kd.R_below (by (with_reducible repeat (first | apply Kd.R_alloc | apply Kd.R_drewN | apply Kd.R_drew)); exact HO847.out) hb); replace BK826 := bB BK826 hb; replace BK865 := bB BK865 hb; replace HB := bW HB hb; clear hb hbox hg; have hnb68 := NB883_826.out; have hnc68 := NB826_883.out; have hnb69 := NB883_865.out; have hnc69 := NB865_883.out; obtain ⟨hcz70_0, hcz70_1, hcz70_2, hcz70_3, hcz70_4, hcz70_5, hcz70_6, hcz70_7, hfz70_0, hfz70_1, hfz70_2, hfz70_3, hfz70_4, hfz70_5, hfz70_6, hfz70_7⟩ := bf8 (w := w67) BK883) | ((with_reducible refine gate_store (t := 31) (p := 7) rfl ?_); refine store_event (t := 31) (p := 7) (v := ?vo_w71) (w1 := ((((((((w67.setCell ⟨gb883, 0, none⟩ (.string t874)).setCell ⟨gb883, 1, none⟩ (.int .i64 t875)).setCell ⟨gb883, 2, none⟩ (.float .f64 t876)).setCell ⟨gb883, 3, none⟩ (.string t877)).setCell ⟨gb883, 4, none⟩ (.int .i64 t878)).setCell ⟨gb883, 5, none⟩ (.int .i64 t879)).setCell ⟨gb883, 6, none⟩ (.float .f64 t880)).setCell ⟨gb883, 7, none⟩ (.string t881))) ?hg ?ho ?hn ?hr ?_; (case ho => rfl); (case hg => rfl); (case hn => rfl); (case hr => first | (go_simp; done) | (go_simp; rfl)); intro w71 hw; replace HO847 : Aside0 (Kd.R (Kd.int .u8) 5 w71 w.heap.size (fun _ => True) (.slice Ao57 t845.length co57) t845) := ⟨(by rw [hw]; exact (by (with_reducible repeat (first | apply Kd.R_alloc | apply Kd.R_drewN | apply Kd.R_drew)); exact Kd.R_mono (Kd.R_far (p := ⟨gb883, 7, none⟩) (Kd.R_far (p := ⟨gb883, 6, none⟩) (Kd.R_far (p := ⟨gb883, 5, none⟩) (Kd.R_far (p := ⟨gb883, 4, none⟩) (Kd.R_far (p := ⟨gb883, 3, none⟩) (Kd.R_far (p := ⟨gb883, 2, none⟩) (Kd.R_far (p := ⟨gb883, 1, none⟩) (Kd.R_far (p := ⟨gb883, 0, none⟩) (Kd.R_types HO847.out BK883.out (by decide)) (fun _ hk => hk.2) (.string t874)) (fun _ hk => hk.2) (.int .i64 t875)) (fun _ hk => hk.2) (.float .f64 t876)) (fun _ hk => hk.2) (.string t877)) (fun _ hk => hk.2) (.int .i64 t878)) (fun _ hk => hk.2) (.int .i64 t879)) (fun _ hk => hk.2) (.float .f64 t880)) (fun _ hk => hk.2) (.string t881)) (fun _ hk => trivial)))⟩; replace BK826 := bE BK826 hw; replace BK865 := bE BK865 hw; replace BK883 : Aside0 (w71.heap[gb883]? = some (.cells #[.string t874, .int .i64 t875, .float .f64 t876, .string t877, .int .i64 t878, .int .i64 t879, .float .f64 t880, .string t881] 31 (0, 0))) := bP BK883 hw; replace HB := bH HB hw; clear hw; obtain ⟨hcz72_0, hcz72_1, hcz72_2, hcz72_3, hcz72_4, hcz72_5, hcz72_6, hcz72_7, hfz72_0, hfz72_1, hfz72_2, hfz72_3, hfz72_4, hfz72_5, hfz72_6, hfz72_7⟩ := bf8 (w := w71) BK865) | (go_at_call 29; (with_reducible refine (cell_Put.calls k (fun k_ => some k_ = (.slice none 0 0 : Value).ownBlock) (.slice none 0 0) ([] : List Int) t856 t857 t858 t859 t860 t861 t862 t863 t884 w _ ?side1 ?side2 A14.out).mono ?_); (case side1 => repeat (first | (with_reducible first | exact HB.out | apply below_alloc | apply pw_below_drewN | apply below_drew1 | refine below_set ?_ GE826.out | refine below_set ?_ GE865.out | refine below_set ?_ GE883.out) | exact HB.out)); (case side2 => exact Kd.R_nil _ _ _ _ _); rintro e w73 ⟨v885, rfl, ho0, hb, hkp⟩; have HO886 := Aside0.mk (Kd.R_mono (ok' := fun k_ => some k_ ≠ (.slice Ao57 t845.length co57 : Value).ownBlock) ho0 (fun k_ hk_ => Or.elim hk_ (fun hs_ => absurd hs_ (by simp [Value.ownBlock])) (fun hn_ => (Kd.fresh' (Kd.R_lt (by (with_reducible repeat (first | apply Kd.R_alloc | apply Kd.R_drewN | apply Kd.R_drew)); exact HO847.out)) k_ hn_)))); replace BK826 := Aside0.mk (blk_kept (bQ BK826) hkp (fun hs_ => (fun e_ => by simp [Value.ownBlock] at e_) hs_)); replace HO847 := Aside0.mk (Kd.R_mono (ok' := fun k_ => some k_ ≠ (v885 : Value).ownBlock) (Kd.R_keptB (HO847.out) hkp (fun k_ hk_ hs_ => (fun e_ => by simp [Value.ownBlock] at e_) hs_)) (fun k_ hk_ => fun e_ => Or.elim (ho0.1 k_ e_.symm) (fun hs_ => hk_.2.1 hs_) (fun hn_ => Nat.not_le.2 hk_.2.2 hn_))); replace BK865 := Aside0.mk (blk_kept (bQ BK865) hkp (fun hs_ => (fun e_ => by simp [Value.ownBlock] at e_) hs_)); replace BK883 := Aside0.mk (blk_kept (bQ BK883) hkp (fun hs_ => (fun e_ => by simp [Value.ownBlock] at e_) hs_)); replace HB := Aside0.mk (hb); (try clear hb); (try clear hkp); (try clear ho0); obtain ⟨Ao74, co74, eo74⟩ := Kd.R_slice HO886.out; subst eo74))
      go_ret
      exact ⟨by first | rfl | (simp [errW_none, errW_some] <;> rfl) | (simp [*, errW_none, errW_some] <;> rfl), by repeat (first | (with_reducible first | exact HB.out | apply below_alloc | apply pw_below_drewN | apply below_drew1 | refine below_set ?_ GE826.out | refine below_set ?_ GE865.out | refine below_set ?_ GE883.out) | exact HB.out)⟩
    ·rw [if_neg c15] at H
     exact absurd H (by simp)
   ·replace c13 := Bool.eq_false_iff.mpr c13
    subst c13
    have H1 : (if t882 = true then ((cell_Put.f k ([] : List Int) t874 t875 t876 t877 t878 t879 t880 t881).bind fun t890 => (some (decide ((t890.length : Int) ≤ (t845.length : Int))))) else (some true)) = some r := by rw [if_neg (show ¬ (false = true) by decide)] at H; exact H
    clear H
    have H := H1
    clear H1
    by_cases c75 : t882 = true
    ·subst c75
     have H1 : ((cell_Put.f k ([] : List Int) t874 t875 t876 t877 t878 t879 t880 t881).bind fun t890 => (some (decide ((t890.length : Int) ≤ (t845.length : Int))))) = some r := by rw [if_pos rfl] at H; exact H
     clear H
     have H := H1
     clear H1
     replace H := Option.bind_eq_some_iff.mp H
     obtain ⟨t890, A760, H⟩ := H
     replace H : (some (decide ((t890.length : Int) ≤ (t845.length : Int)))) = some r := H
     have A76 := Aside0.mk A760
     clear A760
     obtain rfl := Option.some.inj H
     go_enter Try.func6, Try.ntmps6
     go_wp2_with (first | ((with_reducible refine gate_dst (N := 1) rfl ?_); (try (refine gate_guard (by rfl) ?_; dsimp only)); refine box_event ?hg (N := 1) ?hd (cs := #[.string a0_0, .int .i64 a0_1, .float .f64 a0_2, .string a0_3, .int .i64 a0_4, .int .i64 a0_5, .float .f64 a0_6, .string a0_7]) (t := 26) ?hr ?_; (case hd => rfl); (case hg => rfl); (case hr => first | (go_simp; done) | (go_simp; rfl)); intro gb826 hg w77 hbox hb; have BK826 := Aside0.mk (hbox); have GW826 := bZ HB hg; have GE826 := bZ HB hg; replace HB := bW HB hb; clear hb hbox hg) | ((with_reducible refine gate_callee (f := 10) rfl ?_); refine goesL_ (some 9) rfl rfl Try.func10 (by kernel_rfl) rfl #[] rfl (by (try simp only [List.map_toArray, List.map_cons, List.map_nil]); first | done | rfl | (simp only [List.length_drop, List.length_take]; rfl)) ?_; (with_reducible refine (engrosslaw10_begun.calls k  true _ A2.out).mono ?_); rintro e w78 ⟨rfl, hb⟩; refine ⟨_, rfl, ?_⟩; replace BK826 := bB BK826 hb; replace HB := bW HB hb; (try clear hb); (try clear hb2); (try clear hk); (try clear hi); obtain ⟨hcz79_0, hcz79_1, hcz79_2, hcz79_3, hcz79_4, hcz79_5, hcz79_6, hcz79_7, hfz79_0, hfz79_1, hfz79_2, hfz79_3, hfz79_4, hfz79_5, hfz79_6, hfz79_7⟩ := bf8 (w := w78) BK826) | ((with_reducible refine gate_callee (f := 11) rfl ?_); refine goesL_ (some 13) rfl rfl Try.func11 (by kernel_rfl) rfl #[.agg #[.string a0_0, .int .i64 a0_1, .float .f64 a0_2, .string a0_3, .int .i64 a0_4, .int .i64 a0_5, .float .f64 a0_6, .string a0_7]] rfl (by (try simp only [List.map_toArray, List.map_cons, List.map_nil]); first | done | rfl | (simp only [List.length_drop, List.length_take]; rfl)) ?_; (with_reducible refine (engrosslaw10_Cut.calls a0_0 a0_1 a0_2 a0_3 a0_4 a0_5 a0_6 a0_7 t828 t829 t830 t831 t832 t833 t834 t835 _ A4.out).mono ?_); rintro e w80 ⟨rfl, hb⟩; refine ⟨_, rfl, ?_⟩; replace BK826 := bB BK826 hb; replace HB := bW HB hb; (try clear hb); (try clear hb2); (try clear hk); (try clear hi); obtain ⟨hcz81_0, hcz81_1, hcz81_2, hcz81_3, hcz81_4, hcz81_5, hcz81_6, hcz81_7, hfz81_0, hfz81_1, hfz81_2, hfz81_3, hfz81_4, hfz81_5, hfz81_6, hfz81_7⟩ := bf8 (w := w80) BK826) | ((with_reducible refine gate_callee (f := 15) rfl ?_); refine goesL_ (some 15) rfl rfl Try.func15 (by kernel_rfl) rfl #[.agg #[.string t828, .int .i64 t829, .float .f64 t830, .string t831, .int .i64 t832, .int .i64 t833, .float .f64 t834, .string t835]] rfl (by (try simp only [List.map_toArray, List.map_cons, List.map_nil]); first | done | rfl | (simp only [List.length_drop, List.length_take]; rfl)) ?_; (with_reducible refine (engrossref10_May.calls t828 t829 t830 t831 t832 t833 t834 t835 true _ A5.out).mono ?_); rintro e w82 ⟨rfl, hb⟩; refine ⟨_, rfl, ?_⟩; replace BK826 := Aside0.mk (blk_below (g := gb826) (o := .cells #[.string t828, .int .i64 t829, .float .f64 t830, .string t831, .int .i64 t832, .int .i64 t833, .float .f64 t834, .string t835] 26 (0, 0)) (bR BK826) hb); replace HB := bW HB hb; (try clear hb); (try clear hb2); (try clear hk); (try clear hi); obtain ⟨hcz83_0, hcz83_1, hcz83_2, hcz83_3, hcz83_4, hcz83_5, hcz83_6, hcz83_7, hfz83_0, hfz83_1, hfz83_2, hfz83_3, hfz83_4, hfz83_5, hfz83_6, hfz83_7⟩ := bf8 (w := w82) BK826) | ((with_reducible refine gate_callee (f := 14) rfl ?_); refine goesL_ (some 18) rfl rfl Try.func14 (by kernel_rfl) rfl #[.agg #[.string t828, .int .i64 t829, .float .f64 t830, .string t831, .int .i64 t832, .int .i64 t833, .float .f64 t834, .string t835]] rfl (by (try simp only [List.map_toArray, List.map_cons, List.map_nil]); first | done | rfl | (simp only [List.length_drop, List.length_take]; rfl)) ?_; (with_reducible refine (engrosslaw10_Of.calls t828 t829 t830 t831 t832 t833 t834 t835 t837 t838 t839 t840 t841 t842 t843 t844 _ A7.out).mono ?_); rintro e w84 ⟨rfl, hb⟩; refine ⟨_, rfl, ?_⟩; replace BK826 := bB BK826 hb; replace HB := bW HB hb; (try clear hb); (try clear hb2); (try clear hk); (try clear hi)) | ((with_reducible refine gate_callee (f := 29) rfl ?_); refine goesL_ (some 19) rfl rfl Try.func29 (by kernel_rfl) rfl #[.slice none 0 0, .agg #[.string t837, .int .i64 t838, .float .f64 t839, .string t840, .int .i64 t841, .int .i64 t842, .float .f64 t843, .string t844]] rfl (by (try simp only [List.map_toArray, List.map_cons, List.map_nil]); first | done | rfl | (simp only [List.length_drop, List.length_take]; rfl)) ?_; (with_reducible refine (cell_Put.calls k (fun k_ => some k_ = (.slice none 0 0 : Value).ownBlock) (.slice none 0 0) ([] : List Int) t837 t838 t839 t840 t841 t842 t843 t844 t845 w _ ?side1 ?side2 A8.out).mono ?_); (case side1 => repeat (first | (with_reducible first | exact HB.out | apply below_alloc | apply pw_below_drewN | apply below_drew1 | refine below_set ?_ GE826.out) | exact HB.out)); (case side2 => exact Kd.R_nil _ _ _ _ _); rintro e w85 ⟨v846, rfl, ho0, hb, hkp⟩; refine ⟨_, rfl, ?_⟩; have HO847 := Aside0.mk (Kd.R_mono (ok' := fun k_ => True) ho0 (fun k_ hk_ => trivial)); replace BK826 := Aside0.mk (blk_kept (bQ BK826) hkp (fun hs_ => (fun e_ => by simp [Value.ownBlock] at e_) hs_)); replace HB := Aside0.mk (hb); (try clear hb); (try clear hkp); (try clear ho0); obtain ⟨Ao86, co86, eo86⟩ := Kd.R_slice HO847.out; subst eo86; obtain ⟨hcz87_0, hcz87_1, hcz87_2, hcz87_3, hcz87_4, hcz87_5, hcz87_6, hcz87_7, hfz87_0, hfz87_1, hfz87_2, hfz87_3, hfz87_4, hfz87_5, hfz87_6, hfz87_7⟩ := bf8 (w := w85) BK826) | ((with_reducible refine gate_callee (f := 14) rfl ?_); refine goesL_ (some 23) rfl rfl Try.func14 (by kernel_rfl) rfl #[.agg #[.string t828, .int .i64 t829, .float .f64 t830, .string t831, .int .i64 t832, .int .i64 t833, .float .f64 t834, .string t835]] rfl (by (try simp only [List.map_toArray, List.map_cons, List.map_nil]); first | done | rfl | (simp only [List.length_drop, List.length_take]; rfl)) ?_; (with_reducible refine (engrosslaw10_Of.calls t828 t829 t830 t831 t832 t833 t834 t835 t837 t838 t839 t840 t841 t842 t843 t844 _ A9.out).mono ?_); rintro e w88 ⟨rfl, hb⟩; refine ⟨_, rfl, ?_⟩; replace HO847 := Aside0.mk (Kd.R_below (by (with_reducible repeat (first | apply Kd.R_alloc | apply Kd.R_drewN | apply Kd.R_drew)); exact HO847.out) hb); replace BK826 := bB BK826 hb; replace HB := bW HB hb; (try clear hb); (try clear hb2); (try clear hk); (try clear hi)) | ((with_reducible refine gate_callee (f := 21) rfl ?_); refine goesL_ (some 24) rfl rfl Try.func21 (by kernel_rfl) rfl #[.agg #[.string t837, .int .i64 t838, .float .f64 t839, .string t840, .int .i64 t841, .int .i64 t842, .float .f64 t843, .string t844]] rfl (by (try simp only [List.map_toArray, List.map_cons, List.map_nil]); first | done | rfl | (simp only [List.length_drop, List.length_take]; rfl)) ?_; (with_reducible refine (cell_Commit.calls t837 t838 t839 t840 t841 t842 t843 t844 t856 t857 t858 t859 t860 t861 t862 t863 false _ A10.out).mono ?_); rintro e w89 ⟨rfl, hb⟩; refine ⟨_, rfl, ?_⟩; replace HO847 := Aside0.mk (Kd.R_below (by (with_reducible repeat (first | apply Kd.R_alloc | apply Kd.R_drewN | apply Kd.R_drew)); exact HO847.out) hb); replace BK826 := bB BK826 hb; replace HB := bW HB hb; (try clear hb); (try clear hb2); (try clear hk); (try clear hi)) | ((with_reducible refine gate_dst (N := 5) rfl ?_); (try (refine gate_guard (by rfl) ?_; dsimp only)); refine box_event ?hg (N := 5) ?hd (cs := #[.string (⟨#[]⟩ : ByteArray), .int .i64 0, .float .f64 0, .string (⟨#[]⟩ : ByteArray), .int .i64 0, .int .i64 0, .float .f64 0, .string (⟨#[]⟩ : ByteArray)]) (t := 31) ?hr ?_; (case hd => rfl); (case hg => rfl); (case hr => first | (go_simp; done) | (go_simp; rfl)); intro gb865 hg w90 hbox hb; have BK865 := Aside0.mk (hbox); have GW865 := bZ HB hg; have GE865 := bZ HB hg; have NB826_865 := bL BK826 hg; have NB865_826 := bG BK826 hg; replace HO847 := Aside0.mk (Kd.R_below (by (with_reducible repeat (first | apply Kd.R_alloc | apply Kd.R_drewN | apply Kd.R_drew)); exact HO847.out) hb); replace BK826 := bB BK826 hb; replace HB := bW HB hb; clear hb hbox hg; have hnb91 := NB865_826.out; have hnc91 := NB826_865.out; obtain ⟨hcz92_0, hcz92_1, hcz92_2, hcz92_3, hcz92_4, hcz92_5, hcz92_6, hcz92_7, hfz92_0, hfz92_1, hfz92_2, hfz92_3, hfz92_4, hfz92_5, hfz92_6, hfz92_7⟩ := bf8 (w := w90) BK865; obtain ⟨hcz93_0, hcz93_1, hcz93_2, hcz93_3, hcz93_4, hcz93_5, hcz93_6, hcz93_7, hfz93_0, hfz93_1, hfz93_2, hfz93_3, hfz93_4, hfz93_5, hfz93_6, hfz93_7⟩ := bf8 (w := w90) BK826) | ((with_reducible refine gate_callee (f := 14) rfl ?_); refine goesL_ (some 29) rfl rfl Try.func14 (by kernel_rfl) rfl #[.agg #[.string t828, .int .i64 t829, .float .f64 t830, .string t831, .int .i64 t832, .int .i64 t833, .float .f64 t834, .string t835]] rfl (by (try simp only [List.map_toArray, List.map_cons, List.map_nil]); first | done | rfl | (simp only [List.length_drop, List.length_take]; rfl)) ?_; (with_reducible refine (engrosslaw10_Of.calls t828 t829 t830 t831 t832 t833 t834 t835 t837 t838 t839 t840 t841 t842 t843 t844 _ A11.out).mono ?_); rintro e w94 ⟨rfl, hb⟩; refine ⟨_, rfl, ?_⟩; replace HO847 := Aside0.mk (Kd.R_below (by (with_reducible repeat (first | apply Kd.R_alloc | apply Kd.R_drewN | apply Kd.R_drew)); exact (Kd.R_mono (Kd.R_far (p := ⟨gb865, 7, none⟩) (Kd.R_far (p := ⟨gb865, 6, none⟩) (Kd.R_far (p := ⟨gb865, 5, none⟩) (Kd.R_far (p := ⟨gb865, 4, none⟩) (Kd.R_far (p := ⟨gb865, 3, none⟩) (Kd.R_far (p := ⟨gb865, 2, none⟩) (Kd.R_far (p := ⟨gb865, 1, none⟩) (Kd.R_far (p := ⟨gb865, 0, none⟩) (Kd.R_types HO847.out BK865.out (by decide)) (fun _ hk => hk.2) (.string t856)) (fun _ hk => hk.2) (.int .i64 t857)) (fun _ hk => hk.2) (.float .f64 t858)) (fun _ hk => hk.2) (.string t859)) (fun _ hk => hk.2) (.int .i64 t860)) (fun _ hk => hk.2) (.int .i64 t861)) (fun _ hk => hk.2) (.float .f64 t862)) (fun _ hk => hk.2) (.string t863)) (fun _ h_ => h_.1))) hb); replace BK826 := bB BK826 hb; replace BK865 := Aside0.mk (blk_below (g := gb865) (o := .cells #[.string t856, .int .i64 t857, .float .f64 t858, .string t859, .int .i64 t860, .int .i64 t861, .float .f64 t862, .string t863] 31 (0, 0)) (bR BK865) hb); replace HB := bW HB hb; (try clear hb); (try clear hb2); (try clear hk); (try clear hi)) | ((with_reducible refine gate_callee (f := 23) rfl ?_); refine goesL_ (some 30) rfl rfl Try.func23 (by kernel_rfl) rfl #[.agg #[.string t837, .int .i64 t838, .float .f64 t839, .string t840, .int .i64 t841, .int .i64 t842, .float .f64 t843, .string t844]] rfl (by (try simp only [List.map_toArray, List.map_cons, List.map_nil]); first | done | rfl | (simp only [List.length_drop, List.length_take]; rfl)) ?_; (with_reducible refine (cell_Undo.calls t837 t838 t839 t840 t841 t842 t843 t844 t874 t875 t876 t877 t878 t879 t880 t881 true _ A12.out).mono ?_); rintro e w95 ⟨rfl, hb⟩; refine ⟨_, rfl, ?_⟩; replace HO847 := Aside0.mk (Kd.R_below (by (with_reducible repeat (first | apply Kd.R_alloc | apply Kd.R_drewN | apply Kd.R_drew)); exact HO847.out) hb); replace BK826 := bB BK826 hb; replace BK865 := bB BK865 hb; replace HB := bW HB hb; (try clear hb); (try clear hb2); (try clear hk); (try clear hi)) | ((with_reducible refine gate_dst (N := 7) rfl ?_); (try (refine gate_guard (by rfl) ?_; dsimp only)); refine box_event ?hg (N := 7) ?hd (cs := #[.string (⟨#[]⟩ : ByteArray), .int .i64 0, .float .f64 0, .string (⟨#[]⟩ : ByteArray), .int .i64 0, .int .i64 0, .float .f64 0, .string (⟨#[]⟩ : ByteArray)]) (t := 31) ?hr ?_; (case hd => rfl); (case hg => rfl); (case hr => first | (go_simp; done) | (go_simp; rfl)); intro gb883 hg w96 hbox hb; have BK883 := Aside0.mk (hbox); have GW883 := bZ HB hg; have GE883 := bZ HB hg; have NB826_883 := bL BK826 hg; have NB883_826 := bG BK826 hg; have NB865_883 := bL BK865 hg; have NB883_865 := bG BK865 hg; replace HO847 := Aside0.mk (Kd.R_below (by (with_reducible repeat (first | apply Kd.R_alloc | apply Kd.R_drewN | apply Kd.R_drew)); exact HO847.out) hb); replace BK826 := bB BK826 hb; replace BK865 := bB BK865 hb; replace HB := bW HB hb; clear hb hbox hg; have hnb97 := NB883_826.out; have hnc97 := NB826_883.out; have hnb98 := NB883_865.out; have hnc98 := NB865_883.out; obtain ⟨hcz99_0, hcz99_1, hcz99_2, hcz99_3, hcz99_4, hcz99_5, hcz99_6, hcz99_7, hfz99_0, hfz99_1, hfz99_2, hfz99_3, hfz99_4, hfz99_5, hfz99_6, hfz99_7⟩ := bf8 (w := w96) BK883) | ((with_reducible refine gate_store (t := 31) (p := 7) rfl ?_); refine store_event (t := 31) (p := 7) (v := ?vo_w100) (w1 := ((((((((w96.setCell ⟨gb883, 0, none⟩ (.string t874)).setCell ⟨gb883, 1, none⟩ (.int .i64 t875)).setCell ⟨gb883, 2, none⟩ (.float .f64 t876)).setCell ⟨gb883, 3, none⟩ (.string t877)).setCell ⟨gb883, 4, none⟩ (.int .i64 t878)).setCell ⟨gb883, 5, none⟩ (.int .i64 t879)).setCell ⟨gb883, 6, none⟩ (.float .f64 t880)).setCell ⟨gb883, 7, none⟩ (.string t881))) ?hg ?ho ?hn ?hr ?_; (case ho => rfl); (case hg => rfl); (case hn => rfl); (case hr => first | (go_simp; done) | (go_simp; rfl)); intro w100 hw; replace HO847 : Aside0 (Kd.R (Kd.int .u8) 5 w100 w.heap.size (fun _ => True) (.slice Ao86 t845.length co86) t845) := ⟨(by rw [hw]; exact (by (with_reducible repeat (first | apply Kd.R_alloc | apply Kd.R_drewN | apply Kd.R_drew)); exact Kd.R_mono (Kd.R_far (p := ⟨gb883, 7, none⟩) (Kd.R_far (p := ⟨gb883, 6, none⟩) (Kd.R_far (p := ⟨gb883, 5, none⟩) (Kd.R_far (p := ⟨gb883, 4, none⟩) (Kd.R_far (p := ⟨gb883, 3, none⟩) (Kd.R_far (p := ⟨gb883, 2, none⟩) (Kd.R_far (p := ⟨gb883, 1, none⟩) (Kd.R_far (p := ⟨gb883, 0, none⟩) (Kd.R_types HO847.out BK883.out (by decide)) (fun _ hk => hk.2) (.string t874)) (fun _ hk => hk.2) (.int .i64 t875)) (fun _ hk => hk.2) (.float .f64 t876)) (fun _ hk => hk.2) (.string t877)) (fun _ hk => hk.2) (.int .i64 t878)) (fun _ hk => hk.2) (.int .i64 t879)) (fun _ hk => hk.2) (.float .f64 t880)) (fun _ hk => hk.2) (.string t881)) (fun _ hk => trivial)))⟩; replace BK826 := bE BK826 hw; replace BK865 := bE BK865 hw; replace BK883 : Aside0 (w100.heap[gb883]? = some (.cells #[.string t874, .int .i64 t875, .float .f64 t876, .string t877, .int .i64 t878, .int .i64 t879, .float .f64 t880, .string t881] 31 (0, 0))) := bP BK883 hw; replace HB := bH HB hw; clear hw; obtain ⟨hcz101_0, hcz101_1, hcz101_2, hcz101_3, hcz101_4, hcz101_5, hcz101_6, hcz101_7, hfz101_0, hfz101_1, hfz101_2, hfz101_3, hfz101_4, hfz101_5, hfz101_6, hfz101_7⟩ := bf8 (w := w100) BK883) | (go_at_call 29; (with_reducible refine (cell_Put.calls k (fun k_ => some k_ = (.slice none 0 0 : Value).ownBlock) (.slice none 0 0) ([] : List Int) t874 t875 t876 t877 t878 t879 t880 t881 t890 w _ ?side1 ?side2 A76.out).mono ?_); (case side1 => repeat (first | (with_reducible first | exact HB.out | apply below_alloc | apply pw_below_drewN | apply below_drew1 | refine below_set ?_ GE826.out | refine below_set ?_ GE865.out | refine below_set ?_ GE883.out) | exact HB.out)); (case side2 => exact Kd.R_nil _ _ _ _ _); rintro e w102 ⟨v891, rfl, ho0, hb, hkp⟩; have HO892 := Aside0.mk (Kd.R_mono (ok' := fun k_ => some k_ ≠ (.slice Ao86 t845.length co86 : Value).ownBlock) ho0 (fun k_ hk_ => Or.elim hk_ (fun hs_ => absurd hs_ (by simp [Value.ownBlock])) (fun hn_ => (Kd.fresh' (Kd.R_lt (by (with_reducible repeat (first | apply Kd.R_alloc | apply Kd.R_drewN | apply Kd.R_drew)); exact HO847.out)) k_ hn_)))); replace BK826 := Aside0.mk (blk_kept (bQ BK826) hkp (fun hs_ => (fun e_ => by simp [Value.ownBlock] at e_) hs_)); replace HO847 := Aside0.mk (Kd.R_mono (ok' := fun k_ => some k_ ≠ (v891 : Value).ownBlock) (Kd.R_keptB (HO847.out) hkp (fun k_ hk_ hs_ => (fun e_ => by simp [Value.ownBlock] at e_) hs_)) (fun k_ hk_ => fun e_ => Or.elim (ho0.1 k_ e_.symm) (fun hs_ => hk_.2.1 hs_) (fun hn_ => Nat.not_le.2 hk_.2.2 hn_))); replace BK865 := Aside0.mk (blk_kept (bQ BK865) hkp (fun hs_ => (fun e_ => by simp [Value.ownBlock] at e_) hs_)); replace BK883 := Aside0.mk (blk_kept (bQ BK883) hkp (fun hs_ => (fun e_ => by simp [Value.ownBlock] at e_) hs_)); replace HB := Aside0.mk (hb); (try clear hb); (try clear hkp); (try clear ho0); obtain ⟨Ao103, co103, eo103⟩ := Kd.R_slice HO892.out; subst eo103))
     go_ret
     exact ⟨by first | rfl | (simp [errW_none, errW_some] <;> rfl) | (simp [*, errW_none, errW_some] <;> rfl), by repeat (first | (with_reducible first | exact HB.out | apply below_alloc | apply pw_below_drewN | apply below_drew1 | refine below_set ?_ GE826.out | refine below_set ?_ GE865.out | refine below_set ?_ GE883.out) | exact HB.out)⟩
    ·replace c75 := Bool.eq_false_iff.mpr c75
     subst c75
     have H1 : (some true) = some r := by rw [if_neg (show ¬ (false = true) by decide)] at H; exact H
     clear H
     have H := H1
     clear H1
     obtain rfl := Option.some.inj H
     go_enter Try.func6, Try.ntmps6
     go_wp2_with (first | ((with_reducible refine gate_dst (N := 1) rfl ?_); (try (refine gate_guard (by rfl) ?_; dsimp only)); refine box_event ?hg (N := 1) ?hd (cs := #[.string a0_0, .int .i64 a0_1, .float .f64 a0_2, .string a0_3, .int .i64 a0_4, .int .i64 a0_5, .float .f64 a0_6, .string a0_7]) (t := 26) ?hr ?_; (case hd => rfl); (case hg => rfl); (case hr => first | (go_simp; done) | (go_simp; rfl)); intro gb826 hg w104 hbox hb; have BK826 := Aside0.mk (hbox); have GW826 := bZ HB hg; have GE826 := bZ HB hg; replace HB := bW HB hb; clear hb hbox hg) | ((with_reducible refine gate_callee (f := 10) rfl ?_); refine goesL_ (some 9) rfl rfl Try.func10 (by kernel_rfl) rfl #[] rfl (by (try simp only [List.map_toArray, List.map_cons, List.map_nil]); first | done | rfl | (simp only [List.length_drop, List.length_take]; rfl)) ?_; (with_reducible refine (engrosslaw10_begun.calls k  true _ A2.out).mono ?_); rintro e w105 ⟨rfl, hb⟩; refine ⟨_, rfl, ?_⟩; replace BK826 := bB BK826 hb; replace HB := bW HB hb; (try clear hb); (try clear hb2); (try clear hk); (try clear hi); obtain ⟨hcz106_0, hcz106_1, hcz106_2, hcz106_3, hcz106_4, hcz106_5, hcz106_6, hcz106_7, hfz106_0, hfz106_1, hfz106_2, hfz106_3, hfz106_4, hfz106_5, hfz106_6, hfz106_7⟩ := bf8 (w := w105) BK826) | ((with_reducible refine gate_callee (f := 11) rfl ?_); refine goesL_ (some 13) rfl rfl Try.func11 (by kernel_rfl) rfl #[.agg #[.string a0_0, .int .i64 a0_1, .float .f64 a0_2, .string a0_3, .int .i64 a0_4, .int .i64 a0_5, .float .f64 a0_6, .string a0_7]] rfl (by (try simp only [List.map_toArray, List.map_cons, List.map_nil]); first | done | rfl | (simp only [List.length_drop, List.length_take]; rfl)) ?_; (with_reducible refine (engrosslaw10_Cut.calls a0_0 a0_1 a0_2 a0_3 a0_4 a0_5 a0_6 a0_7 t828 t829 t830 t831 t832 t833 t834 t835 _ A4.out).mono ?_); rintro e w107 ⟨rfl, hb⟩; refine ⟨_, rfl, ?_⟩; replace BK826 := bB BK826 hb; replace HB := bW HB hb; (try clear hb); (try clear hb2); (try clear hk); (try clear hi); obtain ⟨hcz108_0, hcz108_1, hcz108_2, hcz108_3, hcz108_4, hcz108_5, hcz108_6, hcz108_7, hfz108_0, hfz108_1, hfz108_2, hfz108_3, hfz108_4, hfz108_5, hfz108_6, hfz108_7⟩ := bf8 (w := w107) BK826) | ((with_reducible refine gate_callee (f := 15) rfl ?_); refine goesL_ (some 15) rfl rfl Try.func15 (by kernel_rfl) rfl #[.agg #[.string t828, .int .i64 t829, .float .f64 t830, .string t831, .int .i64 t832, .int .i64 t833, .float .f64 t834, .string t835]] rfl (by (try simp only [List.map_toArray, List.map_cons, List.map_nil]); first | done | rfl | (simp only [List.length_drop, List.length_take]; rfl)) ?_; (with_reducible refine (engrossref10_May.calls t828 t829 t830 t831 t832 t833 t834 t835 true _ A5.out).mono ?_); rintro e w109 ⟨rfl, hb⟩; refine ⟨_, rfl, ?_⟩; replace BK826 := Aside0.mk (blk_below (g := gb826) (o := .cells #[.string t828, .int .i64 t829, .float .f64 t830, .string t831, .int .i64 t832, .int .i64 t833, .float .f64 t834, .string t835] 26 (0, 0)) (bR BK826) hb); replace HB := bW HB hb; (try clear hb); (try clear hb2); (try clear hk); (try clear hi); obtain ⟨hcz110_0, hcz110_1, hcz110_2, hcz110_3, hcz110_4, hcz110_5, hcz110_6, hcz110_7, hfz110_0, hfz110_1, hfz110_2, hfz110_3, hfz110_4, hfz110_5, hfz110_6, hfz110_7⟩ := bf8 (w := w109) BK826) | ((with_reducible refine gate_callee (f := 14) rfl ?_); refine goesL_ (some 18) rfl rfl Try.func14 (by kernel_rfl) rfl #[.agg #[.string t828, .int .i64 t829, .float .f64 t830, .string t831, .int .i64 t832, .int .i64 t833, .float .f64 t834, .string t835]] rfl (by (try simp only [List.map_toArray, List.map_cons, List.map_nil]); first | done | rfl | (simp only [List.length_drop, List.length_take]; rfl)) ?_; (with_reducible refine (engrosslaw10_Of.calls t828 t829 t830 t831 t832 t833 t834 t835 t837 t838 t839 t840 t841 t842 t843 t844 _ A7.out).mono ?_); rintro e w111 ⟨rfl, hb⟩; refine ⟨_, rfl, ?_⟩; replace BK826 := bB BK826 hb; replace HB := bW HB hb; (try clear hb); (try clear hb2); (try clear hk); (try clear hi)) | ((with_reducible refine gate_callee (f := 29) rfl ?_); refine goesL_ (some 19) rfl rfl Try.func29 (by kernel_rfl) rfl #[.slice none 0 0, .agg #[.string t837, .int .i64 t838, .float .f64 t839, .string t840, .int .i64 t841, .int .i64 t842, .float .f64 t843, .string t844]] rfl (by (try simp only [List.map_toArray, List.map_cons, List.map_nil]); first | done | rfl | (simp only [List.length_drop, List.length_take]; rfl)) ?_; (with_reducible refine (cell_Put.calls k (fun k_ => some k_ = (.slice none 0 0 : Value).ownBlock) (.slice none 0 0) ([] : List Int) t837 t838 t839 t840 t841 t842 t843 t844 t845 w _ ?side1 ?side2 A8.out).mono ?_); (case side1 => repeat (first | (with_reducible first | exact HB.out | apply below_alloc | apply pw_below_drewN | apply below_drew1 | refine below_set ?_ GE826.out) | exact HB.out)); (case side2 => exact Kd.R_nil _ _ _ _ _); rintro e w112 ⟨v846, rfl, ho0, hb, hkp⟩; refine ⟨_, rfl, ?_⟩; have HO847 := Aside0.mk (Kd.R_mono (ok' := fun k_ => True) ho0 (fun k_ hk_ => trivial)); replace BK826 := Aside0.mk (blk_kept (bQ BK826) hkp (fun hs_ => (fun e_ => by simp [Value.ownBlock] at e_) hs_)); replace HB := Aside0.mk (hb); (try clear hb); (try clear hkp); (try clear ho0); obtain ⟨Ao113, co113, eo113⟩ := Kd.R_slice HO847.out; subst eo113; obtain ⟨hcz114_0, hcz114_1, hcz114_2, hcz114_3, hcz114_4, hcz114_5, hcz114_6, hcz114_7, hfz114_0, hfz114_1, hfz114_2, hfz114_3, hfz114_4, hfz114_5, hfz114_6, hfz114_7⟩ := bf8 (w := w112) BK826) | ((with_reducible refine gate_callee (f := 14) rfl ?_); refine goesL_ (some 23) rfl rfl Try.func14 (by kernel_rfl) rfl #[.agg #[.string t828, .int .i64 t829, .float .f64 t830, .string t831, .int .i64 t832, .int .i64 t833, .float .f64 t834, .string t835]] rfl (by (try simp only [List.map_toArray, List.map_cons, List.map_nil]); first | done | rfl | (simp only [List.length_drop, List.length_take]; rfl)) ?_; (with_reducible refine (engrosslaw10_Of.calls t828 t829 t830 t831 t832 t833 t834 t835 t837 t838 t839 t840 t841 t842 t843 t844 _ A9.out).mono ?_); rintro e w115 ⟨rfl, hb⟩; refine ⟨_, rfl, ?_⟩; replace HO847 := Aside0.mk (Kd.R_below (by (with_reducible repeat (first | apply Kd.R_alloc | apply Kd.R_drewN | apply Kd.R_drew)); exact HO847.out) hb); replace BK826 := bB BK826 hb; replace HB := bW HB hb; (try clear hb); (try clear hb2); (try clear hk); (try clear hi)) | ((with_reducible refine gate_callee (f := 21) rfl ?_); refine goesL_ (some 24) rfl rfl Try.func21 (by kernel_rfl) rfl #[.agg #[.string t837, .int .i64 t838, .float .f64 t839, .string t840, .int .i64 t841, .int .i64 t842, .float .f64 t843, .string t844]] rfl (by (try simp only [List.map_toArray, List.map_cons, List.map_nil]); first | done | rfl | (simp only [List.length_drop, List.length_take]; rfl)) ?_; (with_reducible refine (cell_Commit.calls t837 t838 t839 t840 t841 t842 t843 t844 t856 t857 t858 t859 t860 t861 t862 t863 false _ A10.out).mono ?_); rintro e w116 ⟨rfl, hb⟩; refine ⟨_, rfl, ?_⟩; replace HO847 := Aside0.mk (Kd.R_below (by (with_reducible repeat (first | apply Kd.R_alloc | apply Kd.R_drewN | apply Kd.R_drew)); exact HO847.out) hb); replace BK826 := bB BK826 hb; replace HB := bW HB hb; (try clear hb); (try clear hb2); (try clear hk); (try clear hi)) | ((with_reducible refine gate_dst (N := 5) rfl ?_); (try (refine gate_guard (by rfl) ?_; dsimp only)); refine box_event ?hg (N := 5) ?hd (cs := #[.string (⟨#[]⟩ : ByteArray), .int .i64 0, .float .f64 0, .string (⟨#[]⟩ : ByteArray), .int .i64 0, .int .i64 0, .float .f64 0, .string (⟨#[]⟩ : ByteArray)]) (t := 31) ?hr ?_; (case hd => rfl); (case hg => rfl); (case hr => first | (go_simp; done) | (go_simp; rfl)); intro gb865 hg w117 hbox hb; have BK865 := Aside0.mk (hbox); have GW865 := bZ HB hg; have GE865 := bZ HB hg; have NB826_865 := bL BK826 hg; have NB865_826 := bG BK826 hg; replace HO847 := Aside0.mk (Kd.R_below (by (with_reducible repeat (first | apply Kd.R_alloc | apply Kd.R_drewN | apply Kd.R_drew)); exact HO847.out) hb); replace BK826 := bB BK826 hb; replace HB := bW HB hb; clear hb hbox hg; have hnb118 := NB865_826.out; have hnc118 := NB826_865.out; obtain ⟨hcz119_0, hcz119_1, hcz119_2, hcz119_3, hcz119_4, hcz119_5, hcz119_6, hcz119_7, hfz119_0, hfz119_1, hfz119_2, hfz119_3, hfz119_4, hfz119_5, hfz119_6, hfz119_7⟩ := bf8 (w := w117) BK865; obtain ⟨hcz120_0, hcz120_1, hcz120_2, hcz120_3, hcz120_4, hcz120_5, hcz120_6, hcz120_7, hfz120_0, hfz120_1, hfz120_2, hfz120_3, hfz120_4, hfz120_5, hfz120_6, hfz120_7⟩ := bf8 (w := w117) BK826) | ((with_reducible refine gate_callee (f := 14) rfl ?_); refine goesL_ (some 29) rfl rfl Try.func14 (by kernel_rfl) rfl #[.agg #[.string t828, .int .i64 t829, .float .f64 t830, .string t831, .int .i64 t832, .int .i64 t833, .float .f64 t834, .string t835]] rfl (by (try simp only [List.map_toArray, List.map_cons, List.map_nil]); first | done | rfl | (simp only [List.length_drop, List.length_take]; rfl)) ?_; (with_reducible refine (engrosslaw10_Of.calls t828 t829 t830 t831 t832 t833 t834 t835 t837 t838 t839 t840 t841 t842 t843 t844 _ A11.out).mono ?_); rintro e w121 ⟨rfl, hb⟩; refine ⟨_, rfl, ?_⟩; replace HO847 := Aside0.mk (Kd.R_below (by (with_reducible repeat (first | apply Kd.R_alloc | apply Kd.R_drewN | apply Kd.R_drew)); exact (Kd.R_mono (Kd.R_far (p := ⟨gb865, 7, none⟩) (Kd.R_far (p := ⟨gb865, 6, none⟩) (Kd.R_far (p := ⟨gb865, 5, none⟩) (Kd.R_far (p := ⟨gb865, 4, none⟩) (Kd.R_far (p := ⟨gb865, 3, none⟩) (Kd.R_far (p := ⟨gb865, 2, none⟩) (Kd.R_far (p := ⟨gb865, 1, none⟩) (Kd.R_far (p := ⟨gb865, 0, none⟩) (Kd.R_types HO847.out BK865.out (by decide)) (fun _ hk => hk.2) (.string t856)) (fun _ hk => hk.2) (.int .i64 t857)) (fun _ hk => hk.2) (.float .f64 t858)) (fun _ hk => hk.2) (.string t859)) (fun _ hk => hk.2) (.int .i64 t860)) (fun _ hk => hk.2) (.int .i64 t861)) (fun _ hk => hk.2) (.float .f64 t862)) (fun _ hk => hk.2) (.string t863)) (fun _ h_ => h_.1))) hb); replace BK826 := bB BK826 hb; replace BK865 := Aside0.mk (blk_below (g := gb865) (o := .cells #[.string t856, .int .i64 t857, .float .f64 t858, .string t859, .int .i64 t860, .int .i64 t861, .float .f64 t862, .string t863] 31 (0, 0)) (bR BK865) hb); replace HB := bW HB hb; (try clear hb); (try clear hb2); (try clear hk); (try clear hi)) | ((with_reducible refine gate_callee (f := 23) rfl ?_); refine goesL_ (some 30) rfl rfl Try.func23 (by kernel_rfl) rfl #[.agg #[.string t837, .int .i64 t838, .float .f64 t839, .string t840, .int .i64 t841, .int .i64 t842, .float .f64 t843, .string t844]] rfl (by (try simp only [List.map_toArray, List.map_cons, List.map_nil]); first | done | rfl | (simp only [List.length_drop, List.length_take]; rfl)) ?_; (with_reducible refine (cell_Undo.calls t837 t838 t839 t840 t841 t842 t843 t844 t874 t875 t876 t877 t878 t879 t880 t881 false _ A12.out).mono ?_); rintro e w122 ⟨rfl, hb⟩; refine ⟨_, rfl, ?_⟩; replace HO847 := Aside0.mk (Kd.R_below (by (with_reducible repeat (first | apply Kd.R_alloc | apply Kd.R_drewN | apply Kd.R_drew)); exact HO847.out) hb); replace BK826 := bB BK826 hb; replace BK865 := bB BK865 hb; replace HB := bW HB hb; (try clear hb); (try clear hb2); (try clear hk); (try clear hi)) | ((with_reducible refine gate_dst (N := 7) rfl ?_); (try (refine gate_guard (by rfl) ?_; dsimp only)); refine box_event ?hg (N := 7) ?hd (cs := #[.string (⟨#[]⟩ : ByteArray), .int .i64 0, .float .f64 0, .string (⟨#[]⟩ : ByteArray), .int .i64 0, .int .i64 0, .float .f64 0, .string (⟨#[]⟩ : ByteArray)]) (t := 31) ?hr ?_; (case hd => rfl); (case hg => rfl); (case hr => first | (go_simp; done) | (go_simp; rfl)); intro gb883 hg w123 hbox hb; have BK883 := Aside0.mk (hbox); have GW883 := bZ HB hg; have GE883 := bZ HB hg; have NB826_883 := bL BK826 hg; have NB883_826 := bG BK826 hg; have NB865_883 := bL BK865 hg; have NB883_865 := bG BK865 hg; replace HO847 := Aside0.mk (Kd.R_below (by (with_reducible repeat (first | apply Kd.R_alloc | apply Kd.R_drewN | apply Kd.R_drew)); exact HO847.out) hb); replace BK826 := bB BK826 hb; replace BK865 := bB BK865 hb; replace HB := bW HB hb; clear hb hbox hg; have hnb124 := NB883_826.out; have hnc124 := NB826_883.out; have hnb125 := NB883_865.out; have hnc125 := NB865_883.out; obtain ⟨hcz126_0, hcz126_1, hcz126_2, hcz126_3, hcz126_4, hcz126_5, hcz126_6, hcz126_7, hfz126_0, hfz126_1, hfz126_2, hfz126_3, hfz126_4, hfz126_5, hfz126_6, hfz126_7⟩ := bf8 (w := w123) BK883))
     go_ret
     exact ⟨by first | rfl | (simp [errW_none, errW_some] <;> rfl) | (simp [*, errW_none, errW_some] <;> rfl), by repeat (first | (with_reducible first | exact HB.out | apply below_alloc | apply pw_below_drewN | apply below_drew1 | refine below_set ?_ GE826.out | refine below_set ?_ GE865.out | refine below_set ?_ GE883.out) | exact HB.out)⟩
  ·replace c6 := Bool.eq_false_iff.mpr c6
   subst c6
   have H1 : (some true) = some r := by rw [if_neg (show ¬ (false = true) by decide)] at H; exact H
   clear H
   have H := H1
   clear H1
   obtain rfl := Option.some.inj H
   go_enter Try.func6, Try.ntmps6
   go_wp2_with (first | ((with_reducible refine gate_dst (N := 1) rfl ?_); (try (refine gate_guard (by rfl) ?_; dsimp only)); refine box_event ?hg (N := 1) ?hd (cs := #[.string a0_0, .int .i64 a0_1, .float .f64 a0_2, .string a0_3, .int .i64 a0_4, .int .i64 a0_5, .float .f64 a0_6, .string a0_7]) (t := 26) ?hr ?_; (case hd => rfl); (case hg => rfl); (case hr => first | (go_simp; done) | (go_simp; rfl)); intro gb826 hg w127 hbox hb; have BK826 := Aside0.mk (hbox); have GW826 := bZ HB hg; have GE826 := bZ HB hg; replace HB := bW HB hb; clear hb hbox hg) | ((with_reducible refine gate_callee (f := 10) rfl ?_); refine goesL_ (some 9) rfl rfl Try.func10 (by kernel_rfl) rfl #[] rfl (by (try simp only [List.map_toArray, List.map_cons, List.map_nil]); first | done | rfl | (simp only [List.length_drop, List.length_take]; rfl)) ?_; (with_reducible refine (engrosslaw10_begun.calls k  true _ A2.out).mono ?_); rintro e w128 ⟨rfl, hb⟩; refine ⟨_, rfl, ?_⟩; replace BK826 := bB BK826 hb; replace HB := bW HB hb; (try clear hb); (try clear hb2); (try clear hk); (try clear hi); obtain ⟨hcz129_0, hcz129_1, hcz129_2, hcz129_3, hcz129_4, hcz129_5, hcz129_6, hcz129_7, hfz129_0, hfz129_1, hfz129_2, hfz129_3, hfz129_4, hfz129_5, hfz129_6, hfz129_7⟩ := bf8 (w := w128) BK826) | ((with_reducible refine gate_callee (f := 11) rfl ?_); refine goesL_ (some 13) rfl rfl Try.func11 (by kernel_rfl) rfl #[.agg #[.string a0_0, .int .i64 a0_1, .float .f64 a0_2, .string a0_3, .int .i64 a0_4, .int .i64 a0_5, .float .f64 a0_6, .string a0_7]] rfl (by (try simp only [List.map_toArray, List.map_cons, List.map_nil]); first | done | rfl | (simp only [List.length_drop, List.length_take]; rfl)) ?_; (with_reducible refine (engrosslaw10_Cut.calls a0_0 a0_1 a0_2 a0_3 a0_4 a0_5 a0_6 a0_7 t828 t829 t830 t831 t832 t833 t834 t835 _ A4.out).mono ?_); rintro e w130 ⟨rfl, hb⟩; refine ⟨_, rfl, ?_⟩; replace BK826 := bB BK826 hb; replace HB := bW HB hb; (try clear hb); (try clear hb2); (try clear hk); (try clear hi); obtain ⟨hcz131_0, hcz131_1, hcz131_2, hcz131_3, hcz131_4, hcz131_5, hcz131_6, hcz131_7, hfz131_0, hfz131_1, hfz131_2, hfz131_3, hfz131_4, hfz131_5, hfz131_6, hfz131_7⟩ := bf8 (w := w130) BK826) | ((with_reducible refine gate_callee (f := 15) rfl ?_); refine goesL_ (some 15) rfl rfl Try.func15 (by kernel_rfl) rfl #[.agg #[.string t828, .int .i64 t829, .float .f64 t830, .string t831, .int .i64 t832, .int .i64 t833, .float .f64 t834, .string t835]] rfl (by (try simp only [List.map_toArray, List.map_cons, List.map_nil]); first | done | rfl | (simp only [List.length_drop, List.length_take]; rfl)) ?_; (with_reducible refine (engrossref10_May.calls t828 t829 t830 t831 t832 t833 t834 t835 false _ A5.out).mono ?_); rintro e w132 ⟨rfl, hb⟩; refine ⟨_, rfl, ?_⟩; replace BK826 := Aside0.mk (blk_below (g := gb826) (o := .cells #[.string t828, .int .i64 t829, .float .f64 t830, .string t831, .int .i64 t832, .int .i64 t833, .float .f64 t834, .string t835] 26 (0, 0)) (bR BK826) hb); replace HB := bW HB hb; (try clear hb); (try clear hb2); (try clear hk); (try clear hi)))
   go_ret
   exact ⟨by first | rfl | (simp [errW_none, errW_some] <;> rfl) | (simp [*, errW_none, errW_some] <;> rfl), by repeat (first | (with_reducible first | exact HB.out | apply below_alloc | apply pw_below_drewN | apply below_drew1 | refine below_set ?_ GE826.out) | exact HB.out)⟩
 ·replace c3 := Bool.eq_false_iff.mpr c3
  subst c3
  have H1 : (none) = some r := by rw [if_neg (show ¬ (false = true) by decide)] at H; exact H
  clear H
  have H := H1
  clear H1
  exact absurd H (by simp)

/-- THE ONE PURE STATEMENT of engrosslaw10_CellShort. -/
def engrosslaw10_CellShort.Pure : Prop := ∀ (x0 : S26), wf26 x0 → ∃ k, engrosslaw10_CellShort.f k x0.f0 x0.f1.f0 x0.f1.f1 x0.f1.f2 x0.f2 x0.f3.f0 x0.f3.f1 x0.f3.f2 = some true

end Go.Proofs.Ytjhbeaffcdkhcaa.P
