/- Functions of the program as Lean functions, and that each call answers as its function does. No condition. (Lines written by a generator of this session.) -/
import Derived.Test.YthfpmpnedaliaaaPx0
import Derived.Test.YthfpmpnedaliaaaPx1
import Derived.Test.YthfpmpnedaliaaaPx2
namespace Go.Proofs.Ythfpmpnedaliaaa.P
open Go.RowKit Go.Proofs.YthfpmpnedaliaaaW.PrintWords Go.Proofs.YthfpmpnedaliaaaW.PrintLast Go.Proofs.YthfpmpnedaliaaaW.PrintMore
attribute [local go_sem] max2_int min2_int max_two min_two max_three min_three max_four min_four   -- for this text's walks alone
attribute [local go_sem] x_str_gtr x_str_leq x_str_geq ext_bits ext_frombits ext_neg x_store_float Instr.field asAgg
set_option linter.unusedVariables false
set_option linter.unusedSimpArgs false

/-! ### datum_Get: function 17 -/
def datum_Get.f (k : Nat) (l0 : List Int) : Option (Int × Nat × ByteArray × Int × Int) := (num_Get.f k l0).bind fun bt150 => (if bt150.2.2 = 0 then (if bt150.1 = 0 then ((datum_May.f bt150.1 0 (⟨#[]⟩ : ByteArray)).bind fun t154 => (if t154 = true then (some (bt150.1, 0, (⟨#[]⟩ : ByteArray), wrap64 (bt150.2.1 + 0), 0)) else (some (0, 0, (⟨#[]⟩ : ByteArray), 0, 1)))) else (if bt150.1 = 1 then (if (wrap64 ((l0.length : Int) - bt150.2.1)) < 8 then (some (0, 0, (⟨#[]⟩ : ByteArray), 0, 2)) else (if 0 ≤ bt150.2.1 then (if bt150.2.1 ≤ (wrap64 (bt150.2.1 + 8)) then (if (wrap64 (bt150.2.1 + 8)) ≤ (l0.length : Int) then ((float_Of.f k ((l0.take ((wrap64 (bt150.2.1 + 8)) : Int).toNat).drop (bt150.2.1 : Int).toNat)).bind fun bt159 => (if bt159.2 = true then ((datum_May.f bt150.1 bt159.1 (⟨#[]⟩ : ByteArray)).bind fun t161 => (if t161 = true then (some (bt150.1, bt159.1, (⟨#[]⟩ : ByteArray), wrap64 (bt150.2.1 + 8), 0)) else (some (0, 0, (⟨#[]⟩ : ByteArray), 0, 1)))) else (some (0, 0, (⟨#[]⟩ : ByteArray), 0, 1)))) else (none)) else (none)) else (none))) else (if bt150.1 = 2 then (if 0 ≤ bt150.2.1 then (if bt150.2.1 ≤ (l0.length : Int) then ((num_GetText.f k (l0.drop (bt150.2.1 : Int).toNat)).bind fun bt166 => (if bt166.2.2 = 0 then ((datum_May.f bt150.1 0 bt166.1).bind fun t169 => (if t169 = true then (some (bt150.1, 0, bt166.1, wrap64 (bt150.2.1 + bt166.2.1), 0)) else (some (0, 0, (⟨#[]⟩ : ByteArray), 0, 1)))) else (some (0, 0, (⟨#[]⟩ : ByteArray), 0, bt166.2.2)))) else (none)) else (none)) else (some (0, 0, (⟨#[]⟩ : ByteArray), 0, 1))))) else (some (0, 0, (⟨#[]⟩ : ByteArray), 0, bt150.2.2)))
theorem datum_Get.mono : ∀ a0 k, LeO (datum_Get.f k a0) (datum_Get.f (k + 1) a0) := by
 intro a0 k
 unfold datum_Get.f
 repeat' first
   | (with_reducible exact float_Of.mono _ _)
   | (with_reducible exact num_Get.mono _ _)
   | (with_reducible exact num_GetText.mono _ _)
   | (with_reducible exact LeO.refl _)
   | (with_reducible exact LeO.none _)
   | (with_reducible refine LeO.ite ?_ ?_)
   | (with_reducible refine LeO.bind ?_ (fun _ => ?_))
   | exact float_Of.mono _ _
   | exact num_Get.mono _ _
   | exact num_GetText.mono _ _
   | exact LeO.none _
   | refine LeO.ite ?_ ?_
   | refine LeO.bind ?_ (fun _ => ?_)
set_option maxHeartbeats 8000000 in
set_option maxRecDepth 100000 in
theorem datum_Get.calls (k : Nat) (A0 : Option Addr) (c0 : Nat) (l0 : List Int) (r1 : Int) (r2 : Nat) (r3 : ByteArray) (r4 : Int) (r5 : Int) (w : World) (hr0 : Kd.C (Kd.int .u8) w A0 l0.length l0) (hc0 : l0.length ≤ c0) (h : datum_Get.f k l0 = some (r1, r2, r3, r4, r5)) :
  Calls Try.prog 17 #[.slice A0 l0.length c0] w fun e w' => e = .returned (.tuple #[.agg #[.int .i64 r1, .float .f64 r2, .string r3], .int .i64 r4, .int .i64 r5]) ∧ Below w.heap.size w w' := by
 have hu27 := Try.underlying27
 have HR0 := Aside0.mk hr0
 have HC0 := Aside0.mk hc0
 clear hr0 hc0
 have HB := Aside0.mk (Below.refl w.heap.size w)
 have H : ((num_Get.f k l0).bind fun bt150 => (if bt150.2.2 = 0 then (if bt150.1 = 0 then ((datum_May.f bt150.1 0 (⟨#[]⟩ : ByteArray)).bind fun t154 => (if t154 = true then (some (bt150.1, 0, (⟨#[]⟩ : ByteArray), wrap64 (bt150.2.1 + 0), 0)) else (some (0, 0, (⟨#[]⟩ : ByteArray), 0, 1)))) else (if bt150.1 = 1 then (if (wrap64 ((l0.length : Int) - bt150.2.1)) < 8 then (some (0, 0, (⟨#[]⟩ : ByteArray), 0, 2)) else (if 0 ≤ bt150.2.1 then (if bt150.2.1 ≤ (wrap64 (bt150.2.1 + 8)) then (if (wrap64 (bt150.2.1 + 8)) ≤ (l0.length : Int) then ((float_Of.f k ((l0.take ((wrap64 (bt150.2.1 + 8)) : Int).toNat).drop (bt150.2.1 : Int).toNat)).bind fun bt159 => (if bt159.2 = true then ((datum_May.f bt150.1 bt159.1 (⟨#[]⟩ : ByteArray)).bind fun t161 => (if t161 = true then (some (bt150.1, bt159.1, (⟨#[]⟩ : ByteArray), wrap64 (bt150.2.1 + 8), 0)) else (some (0, 0, (⟨#[]⟩ : ByteArray), 0, 1)))) else (some (0, 0, (⟨#[]⟩ : ByteArray), 0, 1)))) else (none)) else (none)) else (none))) else (if bt150.1 = 2 then (if 0 ≤ bt150.2.1 then (if bt150.2.1 ≤ (l0.length : Int) then ((num_GetText.f k (l0.drop (bt150.2.1 : Int).toNat)).bind fun bt166 => (if bt166.2.2 = 0 then ((datum_May.f bt150.1 0 bt166.1).bind fun t169 => (if t169 = true then (some (bt150.1, 0, bt166.1, wrap64 (bt150.2.1 + bt166.2.1), 0)) else (some (0, 0, (⟨#[]⟩ : ByteArray), 0, 1)))) else (some (0, 0, (⟨#[]⟩ : ByteArray), 0, bt166.2.2)))) else (none)) else (none)) else (some (0, 0, (⟨#[]⟩ : ByteArray), 0, 1))))) else (some (0, 0, (⟨#[]⟩ : ByteArray), 0, bt150.2.2)))) = some (r1, r2, r3, r4, r5) := h
 clear h
 replace H := Option.bind_eq_some_iff.mp H
 obtain ⟨⟨t150, t151, t152⟩, A20, H⟩ := H
 replace H : (if t152 = 0 then (if t150 = 0 then ((datum_May.f t150 0 (⟨#[]⟩ : ByteArray)).bind fun t154 => (if t154 = true then (some (t150, 0, (⟨#[]⟩ : ByteArray), wrap64 (t151 + 0), 0)) else (some (0, 0, (⟨#[]⟩ : ByteArray), 0, 1)))) else (if t150 = 1 then (if (wrap64 ((l0.length : Int) - t151)) < 8 then (some (0, 0, (⟨#[]⟩ : ByteArray), 0, 2)) else (if 0 ≤ t151 then (if t151 ≤ (wrap64 (t151 + 8)) then (if (wrap64 (t151 + 8)) ≤ (l0.length : Int) then ((float_Of.f k ((l0.take ((wrap64 (t151 + 8)) : Int).toNat).drop (t151 : Int).toNat)).bind fun bt159 => (if bt159.2 = true then ((datum_May.f t150 bt159.1 (⟨#[]⟩ : ByteArray)).bind fun t161 => (if t161 = true then (some (t150, bt159.1, (⟨#[]⟩ : ByteArray), wrap64 (t151 + 8), 0)) else (some (0, 0, (⟨#[]⟩ : ByteArray), 0, 1)))) else (some (0, 0, (⟨#[]⟩ : ByteArray), 0, 1)))) else (none)) else (none)) else (none))) else (if t150 = 2 then (if 0 ≤ t151 then (if t151 ≤ (l0.length : Int) then ((num_GetText.f k (l0.drop (t151 : Int).toNat)).bind fun bt166 => (if bt166.2.2 = 0 then ((datum_May.f t150 0 bt166.1).bind fun t169 => (if t169 = true then (some (t150, 0, bt166.1, wrap64 (t151 + bt166.2.1), 0)) else (some (0, 0, (⟨#[]⟩ : ByteArray), 0, 1)))) else (some (0, 0, (⟨#[]⟩ : ByteArray), 0, bt166.2.2)))) else (none)) else (none)) else (some (0, 0, (⟨#[]⟩ : ByteArray), 0, 1))))) else (some (0, 0, (⟨#[]⟩ : ByteArray), 0, t152))) = some (r1, r2, r3, r4, r5) := H
 have A2 := Aside0.mk A20
 clear A20
 by_cases c3 : t152 = 0
 ·rw [if_pos c3] at H
  have c3b0 : (t152 == 0) = true := beq_iff_eq.mpr c3
  have c3b1 : (t152 != 0) = false := bne_eq_false_iff_eq.mpr c3
  clear c3
  by_cases c4 : t150 = 0
  ·rw [if_pos c4] at H
   have c4b0 : (t150 == 0) = true := beq_iff_eq.mpr c4
   have c4b1 : (t150 != 0) = false := bne_eq_false_iff_eq.mpr c4
   clear c4
   replace H := Option.bind_eq_some_iff.mp H
   obtain ⟨t154, A50, H⟩ := H
   replace H : (if t154 = true then (some (t150, 0, (⟨#[]⟩ : ByteArray), wrap64 (t151 + 0), 0)) else (some (0, 0, (⟨#[]⟩ : ByteArray), 0, 1))) = some (r1, r2, r3, r4, r5) := H
   have A5 := Aside0.mk A50
   clear A50
   by_cases c6 : t154 = true
   ·subst c6
    have H1 : (some (t150, 0, (⟨#[]⟩ : ByteArray), wrap64 (t151 + 0), 0)) = some (r1, r2, r3, r4, r5) := by rw [if_pos rfl] at H; exact H
    clear H
    have H := H1
    clear H1
    simp only [Option.some.injEq, Prod.mk.injEq] at H
    obtain ⟨rfl, rfl, rfl, rfl, rfl⟩ := H
    go_enter Try.func17, Try.ntmps17
    go_wp2_with (first | ((with_reducible refine gate_dst (N := 2) rfl ?_); refine box_event ?hg (N := 2) ?hd (cs := #[.int .i64 0, .float .f64 0, .string (⟨#[]⟩ : ByteArray)]) (t := 27) ?hr ?_; (case hd => rfl); (case hg => rfl); (case hr => first | (go_simp; done) | (go_simp; rfl)); intro gb149 hg w7 hbox hb; have BK149 := Aside0.mk (hbox); have GW149 := bZ HB hg; have GE149 := bZ HB hg; replace HB := bW HB hb; clear hb hbox hg) | ((with_reducible refine gate_callee (f := 36) rfl ?_); refine goesL_ (some 13) rfl rfl Try.func36 (by kernel_rfl) rfl #[.slice A0 l0.length c0] rfl (by (try simp only [List.map_toArray, List.map_cons, List.map_nil]); first | done | rfl | (simp only [List.length_drop, List.length_take]; rfl)) ?_; (with_reducible refine (num_Get.calls k _ _ l0 t150 t151 t152 _ ?side1 ?side2 A2.out).mono ?_); (case side1 => repeat (first | exact (Kd.C_below HR0.out HB.out) | (with_reducible refine Kd.C_alloc ?_ _) | (with_reducible refine Kd.C_drewN ?_ _) | (with_reducible refine Kd.C_drew ?_))); (case side2 => exact HC0.out); rintro e w' ⟨rfl, ⟨nd, rfl⟩⟩; refine ⟨_, rfl, ?_⟩; (try (rw [drewN_self w7]; generalize hq_ : World.drewN w7 _ = w7; have n0_ := bE BK149 hq_.symm; have n1_ := bH HB hq_.symm; clear BK149 HB hq_; have BK149 := n0_; have HB := n1_; clear n0_ n1_))) | ((with_reducible refine gate_dst (N := 8) rfl ?_); refine box_event ?hg (N := 8) ?hd (cs := #[.int .i64 0, .float .f64 0, .string (⟨#[]⟩ : ByteArray)]) (t := 27) ?hr ?_; (case hd => rfl); (case hg => rfl); (case hr => first | (go_simp; done) | (go_simp; rfl)); intro gb153 hg w8 hbox hb; have BK153 := Aside0.mk (hbox); have GW153 := bZ HB hg; have GE153 := bZ HB hg; have NB149_153 := bL BK149 hg; have NB153_149 := bG BK149 hg; replace BK149 := bB BK149 hb; replace HB := bW HB hb; clear hb hbox hg; have hnb9 := NB153_149.out; have hnc9 := NB149_153.out; obtain ⟨hcz10_0, hcz10_1, hcz10_2, hfz10_0, hfz10_1, hfz10_2⟩ := bf3 (w := w8) BK153) | ((with_reducible refine gate_callee (f := 13) rfl ?_); refine goesL_ (some 64) rfl rfl Try.func13 (by kernel_rfl) rfl #[.agg #[.int .i64 t150, .float .f64 0, .string (⟨#[]⟩ : ByteArray)]] rfl (by (try simp only [List.map_toArray, List.map_cons, List.map_nil]); first | done | rfl | (simp only [List.length_drop, List.length_take]; rfl)) ?_; (with_reducible refine (datum_May.calls t150 0 (⟨#[]⟩ : ByteArray) true _ A5.out).mono ?_); rintro e w11 ⟨rfl, hb⟩; refine ⟨_, rfl, ?_⟩; replace BK149 := bB BK149 hb; replace BK153 := Aside0.mk (blk_below (g := gb153) (o := .cells #[.int .i64 t150, .float .f64 0, .string (⟨#[]⟩ : ByteArray)] 27 (0, 0)) (bR BK153) hb); replace HB := bW HB hb; (try clear hb); (try clear hb2); (try clear hk); (try clear hi); obtain ⟨hcz12_0, hcz12_1, hcz12_2, hfz12_0, hfz12_1, hfz12_2⟩ := bf3 (w := w11) BK153; obtain ⟨hcz13_0, hcz13_1, hcz13_2, hfz13_0, hfz13_1, hfz13_2⟩ := bf3 (w := w11) BK149))
    refine bodyPost_ret (results_ctt rfl _ _ gb149 27 #[.int .i64 t150, .float .f64 0, .string (⟨#[]⟩ : ByteArray)] (0, 0) _ rfl (bR BK149) Try.underlying27 rfl (by kernel_rfl)) rfl ?_
    exact ⟨by first | rfl | (simp [errW_none, errW_some] <;> rfl) | (simp [*, errW_none, errW_some] <;> rfl), by repeat (first | (with_reducible first | exact HB.out | apply below_alloc | apply pw_below_drewN | apply below_drew1 | refine below_set ?_ GE149.out | refine below_set ?_ GE153.out) | exact HB.out)⟩
   ·replace c6 := Bool.eq_false_iff.mpr c6
    subst c6
    have H1 : (some (0, 0, (⟨#[]⟩ : ByteArray), 0, 1)) = some (r1, r2, r3, r4, r5) := by rw [if_neg (show ¬ (false = true) by decide)] at H; exact H
    clear H
    have H := H1
    clear H1
    simp only [Option.some.injEq, Prod.mk.injEq] at H
    obtain ⟨rfl, rfl, rfl, rfl, rfl⟩ := H
    go_enter Try.func17, Try.ntmps17
    go_wp2_with (first | ((with_reducible refine gate_dst (N := 2) rfl ?_); refine box_event ?hg (N := 2) ?hd (cs := #[.int .i64 0, .float .f64 0, .string (⟨#[]⟩ : ByteArray)]) (t := 27) ?hr ?_; (case hd => rfl); (case hg => rfl); (case hr => first | (go_simp; done) | (go_simp; rfl)); intro gb149 hg w14 hbox hb; have BK149 := Aside0.mk (hbox); have GW149 := bZ HB hg; have GE149 := bZ HB hg; replace HB := bW HB hb; clear hb hbox hg) | ((with_reducible refine gate_callee (f := 36) rfl ?_); refine goesL_ (some 13) rfl rfl Try.func36 (by kernel_rfl) rfl #[.slice A0 l0.length c0] rfl (by (try simp only [List.map_toArray, List.map_cons, List.map_nil]); first | done | rfl | (simp only [List.length_drop, List.length_take]; rfl)) ?_; (with_reducible refine (num_Get.calls k _ _ l0 t150 t151 t152 _ ?side1 ?side2 A2.out).mono ?_); (case side1 => repeat (first | exact (Kd.C_below HR0.out HB.out) | (with_reducible refine Kd.C_alloc ?_ _) | (with_reducible refine Kd.C_drewN ?_ _) | (with_reducible refine Kd.C_drew ?_))); (case side2 => exact HC0.out); rintro e w' ⟨rfl, ⟨nd, rfl⟩⟩; refine ⟨_, rfl, ?_⟩; (try (rw [drewN_self w14]; generalize hq_ : World.drewN w14 _ = w14; have n0_ := bE BK149 hq_.symm; have n1_ := bH HB hq_.symm; clear BK149 HB hq_; have BK149 := n0_; have HB := n1_; clear n0_ n1_))) | ((with_reducible refine gate_dst (N := 8) rfl ?_); refine box_event ?hg (N := 8) ?hd (cs := #[.int .i64 0, .float .f64 0, .string (⟨#[]⟩ : ByteArray)]) (t := 27) ?hr ?_; (case hd => rfl); (case hg => rfl); (case hr => first | (go_simp; done) | (go_simp; rfl)); intro gb153 hg w15 hbox hb; have BK153 := Aside0.mk (hbox); have GW153 := bZ HB hg; have GE153 := bZ HB hg; have NB149_153 := bL BK149 hg; have NB153_149 := bG BK149 hg; replace BK149 := bB BK149 hb; replace HB := bW HB hb; clear hb hbox hg; have hnb16 := NB153_149.out; have hnc16 := NB149_153.out; obtain ⟨hcz17_0, hcz17_1, hcz17_2, hfz17_0, hfz17_1, hfz17_2⟩ := bf3 (w := w15) BK153) | ((with_reducible refine gate_callee (f := 13) rfl ?_); refine goesL_ (some 64) rfl rfl Try.func13 (by kernel_rfl) rfl #[.agg #[.int .i64 t150, .float .f64 0, .string (⟨#[]⟩ : ByteArray)]] rfl (by (try simp only [List.map_toArray, List.map_cons, List.map_nil]); first | done | rfl | (simp only [List.length_drop, List.length_take]; rfl)) ?_; (with_reducible refine (datum_May.calls t150 0 (⟨#[]⟩ : ByteArray) false _ A5.out).mono ?_); rintro e w18 ⟨rfl, hb⟩; refine ⟨_, rfl, ?_⟩; replace BK149 := bB BK149 hb; replace BK153 := Aside0.mk (blk_below (g := gb153) (o := .cells #[.int .i64 t150, .float .f64 0, .string (⟨#[]⟩ : ByteArray)] 27 (0, 0)) (bR BK153) hb); replace HB := bW HB hb; (try clear hb); (try clear hb2); (try clear hk); (try clear hi); obtain ⟨hcz19_0, hcz19_1, hcz19_2, hfz19_0, hfz19_1, hfz19_2⟩ := bf3 (w := w18) BK149))
    refine bodyPost_ret (results_ctt rfl _ _ gb149 27 #[.int .i64 0, .float .f64 0, .string (⟨#[]⟩ : ByteArray)] (0, 0) _ rfl (bR BK149) Try.underlying27 rfl (by kernel_rfl)) rfl ?_
    exact ⟨by first | rfl | (simp [errW_none, errW_some] <;> rfl) | (simp [*, errW_none, errW_some] <;> rfl), by repeat (first | (with_reducible first | exact HB.out | apply below_alloc | apply pw_below_drewN | apply below_drew1 | refine below_set ?_ GE149.out | refine below_set ?_ GE153.out) | exact HB.out)⟩
  ·rw [if_neg c4] at H
   have c4b0 : (t150 == 0) = false := beq_eq_false_iff_ne.mpr c4
   have c4b1 : (t150 != 0) = true := bne_iff_ne.mpr c4
   by_cases c20 : t150 = 1
   ·rw [if_pos c20] at H
    have c20b0 : (t150 == 1) = true := beq_iff_eq.mpr c20
    have c20b1 : (t150 != 1) = false := bne_eq_false_iff_eq.mpr c20
    clear c20
    by_cases c21 : (wrap64 ((l0.length : Int) - t151)) < 8
    ·rw [if_pos c21] at H
     have c21b0 : decide ((wrap64 ((l0.length : Int) - t151)) < 8) = true := decide_eq_true c21
     clear c21
     simp only [Option.some.injEq, Prod.mk.injEq] at H
     obtain ⟨rfl, rfl, rfl, rfl, rfl⟩ := H
     go_enter Try.func17, Try.ntmps17
     go_wp2_with (first | ((with_reducible refine gate_dst (N := 2) rfl ?_); refine box_event ?hg (N := 2) ?hd (cs := #[.int .i64 0, .float .f64 0, .string (⟨#[]⟩ : ByteArray)]) (t := 27) ?hr ?_; (case hd => rfl); (case hg => rfl); (case hr => first | (go_simp; done) | (go_simp; rfl)); intro gb149 hg w22 hbox hb; have BK149 := Aside0.mk (hbox); have GW149 := bZ HB hg; have GE149 := bZ HB hg; replace HB := bW HB hb; clear hb hbox hg) | ((with_reducible refine gate_callee (f := 36) rfl ?_); refine goesL_ (some 13) rfl rfl Try.func36 (by kernel_rfl) rfl #[.slice A0 l0.length c0] rfl (by (try simp only [List.map_toArray, List.map_cons, List.map_nil]); first | done | rfl | (simp only [List.length_drop, List.length_take]; rfl)) ?_; (with_reducible refine (num_Get.calls k _ _ l0 t150 t151 t152 _ ?side1 ?side2 A2.out).mono ?_); (case side1 => repeat (first | exact (Kd.C_below HR0.out HB.out) | (with_reducible refine Kd.C_alloc ?_ _) | (with_reducible refine Kd.C_drewN ?_ _) | (with_reducible refine Kd.C_drew ?_))); (case side2 => exact HC0.out); rintro e w' ⟨rfl, ⟨nd, rfl⟩⟩; refine ⟨_, rfl, ?_⟩; (try (rw [drewN_self w22]; generalize hq_ : World.drewN w22 _ = w22; have n0_ := bE BK149 hq_.symm; have n1_ := bH HB hq_.symm; clear BK149 HB hq_; have BK149 := n0_; have HB := n1_; clear n0_ n1_))) | ((with_reducible refine gate_dst (N := 8) rfl ?_); refine box_event ?hg (N := 8) ?hd (cs := #[.int .i64 0, .float .f64 0, .string (⟨#[]⟩ : ByteArray)]) (t := 27) ?hr ?_; (case hd => rfl); (case hg => rfl); (case hr => first | (go_simp; done) | (go_simp; rfl)); intro gb153 hg w23 hbox hb; have BK153 := Aside0.mk (hbox); have GW153 := bZ HB hg; have GE153 := bZ HB hg; have NB149_153 := bL BK149 hg; have NB153_149 := bG BK149 hg; replace BK149 := bB BK149 hb; replace HB := bW HB hb; clear hb hbox hg; have hnb24 := NB153_149.out; have hnc24 := NB149_153.out; obtain ⟨hcz25_0, hcz25_1, hcz25_2, hfz25_0, hfz25_1, hfz25_2⟩ := bf3 (w := w23) BK153; obtain ⟨hcz26_0, hcz26_1, hcz26_2, hfz26_0, hfz26_1, hfz26_2⟩ := bf3 (w := w23) BK149))
     refine bodyPost_ret (results_ctt rfl _ _ gb149 27 #[.int .i64 0, .float .f64 0, .string (⟨#[]⟩ : ByteArray)] (0, 0) _ rfl (bR BK149) Try.underlying27 rfl (by kernel_rfl)) rfl ?_
     exact ⟨by first | rfl | (simp [errW_none, errW_some] <;> rfl) | (simp [*, errW_none, errW_some] <;> rfl), by repeat (first | (with_reducible first | exact HB.out | apply below_alloc | apply pw_below_drewN | apply below_drew1 | refine below_set ?_ GE149.out | refine below_set ?_ GE153.out) | exact HB.out)⟩
    ·rw [if_neg c21] at H
     have c21b0 : decide ((wrap64 ((l0.length : Int) - t151)) < 8) = false := decide_eq_false c21
     clear c21
     by_cases c27 : 0 ≤ t151
     ·rw [if_pos c27] at H
      have c27b0 := eq_true c27
      have c27b1 : decide (0 ≤ t151) = true := decide_eq_true c27
      clear c27
      by_cases c28 : t151 ≤ (wrap64 (t151 + 8))
      ·rw [if_pos c28] at H
       have c28b0 := eq_true c28
       have c28b1 : decide (t151 ≤ (wrap64 (t151 + 8))) = true := decide_eq_true c28
       by_cases c29 : (wrap64 (t151 + 8)) ≤ (l0.length : Int)
       ·rw [if_pos c29] at H
        have c29b0 := eq_true c29
        have c29b1 : decide ((wrap64 (t151 + 8)) ≤ (l0.length : Int)) = true := decide_eq_true c29
        obtain ⟨y155, hy155⟩ : ∃ y_ : List Int, y_ = ((l0.take ((wrap64 (t151 + 8)) : Int).toNat).drop (t151 : Int).toNat) := ⟨_, rfl⟩
        replace H : ((float_Of.f k y155).bind fun bt159 => (if bt159.2 = true then ((datum_May.f t150 bt159.1 (⟨#[]⟩ : ByteArray)).bind fun t161 => (if t161 = true then (some (t150, bt159.1, (⟨#[]⟩ : ByteArray), wrap64 (t151 + 8), 0)) else (some (0, 0, (⟨#[]⟩ : ByteArray), 0, 1)))) else (some (0, 0, (⟨#[]⟩ : ByteArray), 0, 1)))) = some (r1, r2, r3, r4, r5) := by first | (rw [hy155]; with_reducible exact H) | (have H2_ := (Option.bind_some _ _).symm.trans H; rw [hy155]; with_reducible exact H2_) | (have H2_ := (Option.bind_some _ _).symm.trans H; with_reducible exact H2_) | with_reducible exact H | (rw [hy155]; exact H) | exact H
        have Ny155 := Aside0.mk hy155
        clear hy155
        replace H := Option.bind_eq_some_iff.mp H
        obtain ⟨⟨t159, t160⟩, A300, H⟩ := H
        replace H : (if t160 = true then ((datum_May.f t150 t159 (⟨#[]⟩ : ByteArray)).bind fun t161 => (if t161 = true then (some (t150, t159, (⟨#[]⟩ : ByteArray), wrap64 (t151 + 8), 0)) else (some (0, 0, (⟨#[]⟩ : ByteArray), 0, 1)))) else (some (0, 0, (⟨#[]⟩ : ByteArray), 0, 1))) = some (r1, r2, r3, r4, r5) := H
        have A30 := Aside0.mk A300
        clear A300
        by_cases c31 : t160 = true
        ·subst c31
         have H1 : ((datum_May.f t150 t159 (⟨#[]⟩ : ByteArray)).bind fun t161 => (if t161 = true then (some (t150, t159, (⟨#[]⟩ : ByteArray), wrap64 (t151 + 8), 0)) else (some (0, 0, (⟨#[]⟩ : ByteArray), 0, 1)))) = some (r1, r2, r3, r4, r5) := by rw [if_pos rfl] at H; exact H
         clear H
         have H := H1
         clear H1
         replace H := Option.bind_eq_some_iff.mp H
         obtain ⟨t161, A320, H⟩ := H
         replace H : (if t161 = true then (some (t150, t159, (⟨#[]⟩ : ByteArray), wrap64 (t151 + 8), 0)) else (some (0, 0, (⟨#[]⟩ : ByteArray), 0, 1))) = some (r1, r2, r3, r4, r5) := H
         have A32 := Aside0.mk A320
         clear A320
         by_cases c33 : t161 = true
         ·subst c33
          have H1 : (some (t150, t159, (⟨#[]⟩ : ByteArray), wrap64 (t151 + 8), 0)) = some (r1, r2, r3, r4, r5) := by rw [if_pos rfl] at H; exact H
          clear H
          have H := H1
          clear H1
          simp only [Option.some.injEq, Prod.mk.injEq] at H
          obtain ⟨rfl, rfl, rfl, rfl, rfl⟩ := H
          go_enter Try.func17, Try.ntmps17
          go_wp2_with (first | ((with_reducible refine gate_dst (N := 2) rfl ?_); refine box_event ?hg (N := 2) ?hd (cs := #[.int .i64 0, .float .f64 0, .string (⟨#[]⟩ : ByteArray)]) (t := 27) ?hr ?_; (case hd => rfl); (case hg => rfl); (case hr => first | (go_simp; done) | (go_simp; rfl)); intro gb149 hg w34 hbox hb; have BK149 := Aside0.mk (hbox); have GW149 := bZ HB hg; have GE149 := bZ HB hg; replace HB := bW HB hb; clear hb hbox hg) | ((with_reducible refine gate_callee (f := 36) rfl ?_); refine goesL_ (some 13) rfl rfl Try.func36 (by kernel_rfl) rfl #[.slice A0 l0.length c0] rfl (by (try simp only [List.map_toArray, List.map_cons, List.map_nil]); first | done | rfl | (simp only [List.length_drop, List.length_take]; rfl)) ?_; (with_reducible refine (num_Get.calls k _ _ l0 t150 t151 t152 _ ?side1 ?side2 A2.out).mono ?_); (case side1 => repeat (first | exact (Kd.C_below HR0.out HB.out) | (with_reducible refine Kd.C_alloc ?_ _) | (with_reducible refine Kd.C_drewN ?_ _) | (with_reducible refine Kd.C_drew ?_))); (case side2 => exact HC0.out); rintro e w' ⟨rfl, ⟨nd, rfl⟩⟩; refine ⟨_, rfl, ?_⟩; (try (rw [drewN_self w34]; generalize hq_ : World.drewN w34 _ = w34; have n0_ := bE BK149 hq_.symm; have n1_ := bH HB hq_.symm; clear BK149 HB hq_; have BK149 := n0_; have HB := n1_; clear n0_ n1_))) | ((with_reducible refine gate_dst (N := 8) rfl ?_); refine box_event ?hg (N := 8) ?hd (cs := #[.int .i64 0, .float .f64 0, .string (⟨#[]⟩ : ByteArray)]) (t := 27) ?hr ?_; (case hd => rfl); (case hg => rfl); (case hr => first | (go_simp; done) | (go_simp; rfl)); intro gb153 hg w35 hbox hb; have BK153 := Aside0.mk (hbox); have GW153 := bZ HB hg; have GE153 := bZ HB hg; have NB149_153 := bL BK149 hg; have NB153_149 := bG BK149 hg; replace BK149 := bB BK149 hb; replace HB := bW HB hb; clear hb hbox hg; have hnb36 := NB153_149.out; have hnc36 := NB149_153.out; obtain ⟨hcz37_0, hcz37_1, hcz37_2, hfz37_0, hfz37_1, hfz37_2⟩ := bf3 (w := w35) BK153) | ((with_reducible refine gate_store (t := 27) (p := 8) rfl ?_); refine store_event (t := 27) (p := 8) (v := ?vo_w38) (w1 := (((w35.setCell ⟨gb153, 0, none⟩ (.int .i64 t150)).setCell ⟨gb153, 1, none⟩ (.float .f64 0)).setCell ⟨gb153, 2, none⟩ (.string (⟨#[]⟩ : ByteArray)))) ?hg ?ho ?hn ?hr ?_; (case ho => rfl); (case hg => rfl); (case hn => rfl); (case hr => first | (go_simp; done) | (go_simp; rfl)); intro w38 hw; replace BK149 := bE BK149 hw; replace BK153 : Aside0 (w38.heap[gb153]? = some (.cells #[.int .i64 t150, .float .f64 0, .string (⟨#[]⟩ : ByteArray)] 27 (0, 0))) := bP BK153 hw; replace HB := bH HB hw; clear hw; have q39 : ((wrap64 (t151 + 8)) : Int) ≤ ((l0.length : Int) : Int) := of_decide_eq_true (by first | (with_reducible assumption) | assumption); obtain ⟨i039, hi039, _, hsz39, _⟩ := info_parts info5; have hroom39 : l0.length ≤ c0 := HC0.out; have hC39 : Kd.C (Kd.int .u8) _ A0 l0.length l0 := HR0.out; have ql39 : (t151 : Int) ≤ ((wrap64 (t151 + 8)) : Int) := of_decide_eq_true (by first | (with_reducible assumption) | assumption); have q039 : (0 : Int) ≤ (t151 : Int) := of_decide_eq_true (by first | (with_reducible assumption) | assumption); have hcut39 := cut_mid (P := Try.prog) 23 5 .i64 .i64 Try.underlying23 hi039 1 hsz39 A0 l0.length c0 t151 (wrap64 (t151 + 8)) q039 ql39 q39 hroom39; have hr39 := Kd.C_mid (lo := (t151 : Int).toNat) (hi := ((wrap64 (t151 + 8)) : Int).toNat) (c := c0) hC39 (by omega) (by omega) hroom39; obtain ⟨A39, hA39⟩ : ∃ A1, A1 = (if c0 = (t151 : Int).toNat then A0 else (A0 : Option Addr).map (·.add ((t151 : Int).toNat * 1))) := ⟨_, rfl⟩; obtain ⟨c39, hc39⟩ : ∃ c1, c1 = c0 - (t151 : Int).toNat := ⟨_, rfl⟩; have hy39 : y155.length = ((wrap64 (t151 + 8)) : Int).toNat - (t151 : Int).toNat := (by rw [Ny155.out, List.length_drop, List.length_take] <;> omega); rw [show ((l0).take ((wrap64 (t151 + 8)) : Int).toNat).drop (t151 : Int).toNat = y155 from Ny155.out.symm] at hr39; replace hr39 : Kd.C (Kd.int .u8) _ A39 y155.length y155 := (by rw [hA39]; exact hr39); rw [← hy39, ← hA39, ← hc39] at hcut39; have HR158 := Aside0.mk hr39; have HC158 := Aside0.mk (show y155.length ≤ c39 from by rw [hy39, hc39]; exact Nat.sub_le_sub_right (Nat.le_trans (by omega) hroom39) _); clear hr39 hC39 hroom39 hi039 hsz39 hc39; have KY39 := Aside0.mk hy39; have KA39 := Aside0.mk hA39; clear hy39 hA39; replace q39 := eq_true q39) | ((with_reducible refine gate_callee (f := 37) rfl ?_); refine goesL_ (some 41) rfl rfl Try.func37 (by kernel_rfl) rfl #[.slice A39 y155.length c39] rfl (by (try simp only [List.map_toArray, List.map_cons, List.map_nil]); first | done | rfl | (simp only [List.length_drop, List.length_take]; rfl)) ?_; (with_reducible refine (float_Of.calls k _ _ y155 t159 true _ ?side1 ?side2 A30.out).mono ?_); (case side1 => repeat (first | exact (Kd.C_below HR158.out HB.out) | (with_reducible refine Kd.C_alloc ?_ _) | (with_reducible refine Kd.C_drewN ?_ _) | (with_reducible refine Kd.C_drew ?_))); (case side2 => exact HC158.out); rintro e w' ⟨rfl, ⟨nd, rfl⟩⟩; refine ⟨_, rfl, ?_⟩; (try (rw [drewN_self w38]; generalize hq_ : World.drewN w38 _ = w38; have n0_ := bE BK149 hq_.symm; have n1_ := bE BK153 hq_.symm; have n2_ := bH HB hq_.symm; clear BK149 BK153 HB hq_; have BK149 := n0_; have BK153 := n1_; have HB := n2_; clear n0_ n1_ n2_)); obtain ⟨hcz40_0, hcz40_1, hcz40_2, hfz40_0, hfz40_1, hfz40_2⟩ := bf3 (w := w38) BK153) | ((with_reducible refine gate_callee (f := 13) rfl ?_); refine goesL_ (some 64) rfl rfl Try.func13 (by kernel_rfl) rfl #[.agg #[.int .i64 t150, .float .f64 t159, .string (⟨#[]⟩ : ByteArray)]] rfl (by (try simp only [List.map_toArray, List.map_cons, List.map_nil]); first | done | rfl | (simp only [List.length_drop, List.length_take]; rfl)) ?_; (with_reducible refine (datum_May.calls t150 t159 (⟨#[]⟩ : ByteArray) true _ A32.out).mono ?_); rintro e w41 ⟨rfl, hb⟩; refine ⟨_, rfl, ?_⟩; replace BK149 := bB BK149 hb; replace BK153 := Aside0.mk (blk_below (g := gb153) (o := .cells #[.int .i64 t150, .float .f64 t159, .string (⟨#[]⟩ : ByteArray)] 27 (0, 0)) (bR BK153) hb); replace HB := bW HB hb; (try clear hb); (try clear hb2); (try clear hk); (try clear hi); obtain ⟨hcz42_0, hcz42_1, hcz42_2, hfz42_0, hfz42_1, hfz42_2⟩ := bf3 (w := w41) BK153; obtain ⟨hcz43_0, hcz43_1, hcz43_2, hfz43_0, hfz43_1, hfz43_2⟩ := bf3 (w := w41) BK149))
          refine bodyPost_ret (results_ctt rfl _ _ gb149 27 #[.int .i64 t150, .float .f64 t159, .string (⟨#[]⟩ : ByteArray)] (0, 0) _ rfl (bR BK149) Try.underlying27 rfl (by kernel_rfl)) rfl ?_
          exact ⟨by first | rfl | (simp [errW_none, errW_some] <;> rfl) | (simp [*, errW_none, errW_some] <;> rfl), by repeat (first | (with_reducible first | exact HB.out | apply below_alloc | apply pw_below_drewN | apply below_drew1 | refine below_set ?_ GE149.out | refine below_set ?_ GE153.out) | exact HB.out)⟩
         ·replace c33 := Bool.eq_false_iff.mpr c33
          subst c33
          have H1 : (some (0, 0, (⟨#[]⟩ : ByteArray), 0, 1)) = some (r1, r2, r3, r4, r5) := by rw [if_neg (show ¬ (false = true) by decide)] at H; exact H
          clear H
          have H := H1
          clear H1
          simp only [Option.some.injEq, Prod.mk.injEq] at H
          obtain ⟨rfl, rfl, rfl, rfl, rfl⟩ := H
          go_enter Try.func17, Try.ntmps17
          go_wp2_with (first | ((with_reducible refine gate_dst (N := 2) rfl ?_); refine box_event ?hg (N := 2) ?hd (cs := #[.int .i64 0, .float .f64 0, .string (⟨#[]⟩ : ByteArray)]) (t := 27) ?hr ?_; (case hd => rfl); (case hg => rfl); (case hr => first | (go_simp; done) | (go_simp; rfl)); intro gb149 hg w44 hbox hb; have BK149 := Aside0.mk (hbox); have GW149 := bZ HB hg; have GE149 := bZ HB hg; replace HB := bW HB hb; clear hb hbox hg) | ((with_reducible refine gate_callee (f := 36) rfl ?_); refine goesL_ (some 13) rfl rfl Try.func36 (by kernel_rfl) rfl #[.slice A0 l0.length c0] rfl (by (try simp only [List.map_toArray, List.map_cons, List.map_nil]); first | done | rfl | (simp only [List.length_drop, List.length_take]; rfl)) ?_; (with_reducible refine (num_Get.calls k _ _ l0 t150 t151 t152 _ ?side1 ?side2 A2.out).mono ?_); (case side1 => repeat (first | exact (Kd.C_below HR0.out HB.out) | (with_reducible refine Kd.C_alloc ?_ _) | (with_reducible refine Kd.C_drewN ?_ _) | (with_reducible refine Kd.C_drew ?_))); (case side2 => exact HC0.out); rintro e w' ⟨rfl, ⟨nd, rfl⟩⟩; refine ⟨_, rfl, ?_⟩; (try (rw [drewN_self w44]; generalize hq_ : World.drewN w44 _ = w44; have n0_ := bE BK149 hq_.symm; have n1_ := bH HB hq_.symm; clear BK149 HB hq_; have BK149 := n0_; have HB := n1_; clear n0_ n1_))) | ((with_reducible refine gate_dst (N := 8) rfl ?_); refine box_event ?hg (N := 8) ?hd (cs := #[.int .i64 0, .float .f64 0, .string (⟨#[]⟩ : ByteArray)]) (t := 27) ?hr ?_; (case hd => rfl); (case hg => rfl); (case hr => first | (go_simp; done) | (go_simp; rfl)); intro gb153 hg w45 hbox hb; have BK153 := Aside0.mk (hbox); have GW153 := bZ HB hg; have GE153 := bZ HB hg; have NB149_153 := bL BK149 hg; have NB153_149 := bG BK149 hg; replace BK149 := bB BK149 hb; replace HB := bW HB hb; clear hb hbox hg; have hnb46 := NB153_149.out; have hnc46 := NB149_153.out; obtain ⟨hcz47_0, hcz47_1, hcz47_2, hfz47_0, hfz47_1, hfz47_2⟩ := bf3 (w := w45) BK153) | ((with_reducible refine gate_store (t := 27) (p := 8) rfl ?_); refine store_event (t := 27) (p := 8) (v := ?vo_w48) (w1 := (((w45.setCell ⟨gb153, 0, none⟩ (.int .i64 t150)).setCell ⟨gb153, 1, none⟩ (.float .f64 0)).setCell ⟨gb153, 2, none⟩ (.string (⟨#[]⟩ : ByteArray)))) ?hg ?ho ?hn ?hr ?_; (case ho => rfl); (case hg => rfl); (case hn => rfl); (case hr => first | (go_simp; done) | (go_simp; rfl)); intro w48 hw; replace BK149 := bE BK149 hw; replace BK153 : Aside0 (w48.heap[gb153]? = some (.cells #[.int .i64 t150, .float .f64 0, .string (⟨#[]⟩ : ByteArray)] 27 (0, 0))) := bP BK153 hw; replace HB := bH HB hw; clear hw; have q49 : ((wrap64 (t151 + 8)) : Int) ≤ ((l0.length : Int) : Int) := of_decide_eq_true (by first | (with_reducible assumption) | assumption); obtain ⟨i049, hi049, _, hsz49, _⟩ := info_parts info5; have hroom49 : l0.length ≤ c0 := HC0.out; have hC49 : Kd.C (Kd.int .u8) _ A0 l0.length l0 := HR0.out; have ql49 : (t151 : Int) ≤ ((wrap64 (t151 + 8)) : Int) := of_decide_eq_true (by first | (with_reducible assumption) | assumption); have q049 : (0 : Int) ≤ (t151 : Int) := of_decide_eq_true (by first | (with_reducible assumption) | assumption); have hcut49 := cut_mid (P := Try.prog) 23 5 .i64 .i64 Try.underlying23 hi049 1 hsz49 A0 l0.length c0 t151 (wrap64 (t151 + 8)) q049 ql49 q49 hroom49; have hr49 := Kd.C_mid (lo := (t151 : Int).toNat) (hi := ((wrap64 (t151 + 8)) : Int).toNat) (c := c0) hC49 (by omega) (by omega) hroom49; obtain ⟨A49, hA49⟩ : ∃ A1, A1 = (if c0 = (t151 : Int).toNat then A0 else (A0 : Option Addr).map (·.add ((t151 : Int).toNat * 1))) := ⟨_, rfl⟩; obtain ⟨c49, hc49⟩ : ∃ c1, c1 = c0 - (t151 : Int).toNat := ⟨_, rfl⟩; have hy49 : y155.length = ((wrap64 (t151 + 8)) : Int).toNat - (t151 : Int).toNat := (by rw [Ny155.out, List.length_drop, List.length_take] <;> omega); rw [show ((l0).take ((wrap64 (t151 + 8)) : Int).toNat).drop (t151 : Int).toNat = y155 from Ny155.out.symm] at hr49; replace hr49 : Kd.C (Kd.int .u8) _ A49 y155.length y155 := (by rw [hA49]; exact hr49); rw [← hy49, ← hA49, ← hc49] at hcut49; have HR158 := Aside0.mk hr49; have HC158 := Aside0.mk (show y155.length ≤ c49 from by rw [hy49, hc49]; exact Nat.sub_le_sub_right (Nat.le_trans (by omega) hroom49) _); clear hr49 hC49 hroom49 hi049 hsz49 hc49; have KY49 := Aside0.mk hy49; have KA49 := Aside0.mk hA49; clear hy49 hA49; replace q49 := eq_true q49) | ((with_reducible refine gate_callee (f := 37) rfl ?_); refine goesL_ (some 41) rfl rfl Try.func37 (by kernel_rfl) rfl #[.slice A49 y155.length c49] rfl (by (try simp only [List.map_toArray, List.map_cons, List.map_nil]); first | done | rfl | (simp only [List.length_drop, List.length_take]; rfl)) ?_; (with_reducible refine (float_Of.calls k _ _ y155 t159 true _ ?side1 ?side2 A30.out).mono ?_); (case side1 => repeat (first | exact (Kd.C_below HR158.out HB.out) | (with_reducible refine Kd.C_alloc ?_ _) | (with_reducible refine Kd.C_drewN ?_ _) | (with_reducible refine Kd.C_drew ?_))); (case side2 => exact HC158.out); rintro e w' ⟨rfl, ⟨nd, rfl⟩⟩; refine ⟨_, rfl, ?_⟩; (try (rw [drewN_self w48]; generalize hq_ : World.drewN w48 _ = w48; have n0_ := bE BK149 hq_.symm; have n1_ := bE BK153 hq_.symm; have n2_ := bH HB hq_.symm; clear BK149 BK153 HB hq_; have BK149 := n0_; have BK153 := n1_; have HB := n2_; clear n0_ n1_ n2_)); obtain ⟨hcz50_0, hcz50_1, hcz50_2, hfz50_0, hfz50_1, hfz50_2⟩ := bf3 (w := w48) BK153) | ((with_reducible refine gate_callee (f := 13) rfl ?_); refine goesL_ (some 64) rfl rfl Try.func13 (by kernel_rfl) rfl #[.agg #[.int .i64 t150, .float .f64 t159, .string (⟨#[]⟩ : ByteArray)]] rfl (by (try simp only [List.map_toArray, List.map_cons, List.map_nil]); first | done | rfl | (simp only [List.length_drop, List.length_take]; rfl)) ?_; (with_reducible refine (datum_May.calls t150 t159 (⟨#[]⟩ : ByteArray) false _ A32.out).mono ?_); rintro e w51 ⟨rfl, hb⟩; refine ⟨_, rfl, ?_⟩; replace BK149 := bB BK149 hb; replace BK153 := Aside0.mk (blk_below (g := gb153) (o := .cells #[.int .i64 t150, .float .f64 t159, .string (⟨#[]⟩ : ByteArray)] 27 (0, 0)) (bR BK153) hb); replace HB := bW HB hb; (try clear hb); (try clear hb2); (try clear hk); (try clear hi); obtain ⟨hcz52_0, hcz52_1, hcz52_2, hfz52_0, hfz52_1, hfz52_2⟩ := bf3 (w := w51) BK149))
          refine bodyPost_ret (results_ctt rfl _ _ gb149 27 #[.int .i64 0, .float .f64 0, .string (⟨#[]⟩ : ByteArray)] (0, 0) _ rfl (bR BK149) Try.underlying27 rfl (by kernel_rfl)) rfl ?_
          exact ⟨by first | rfl | (simp [errW_none, errW_some] <;> rfl) | (simp [*, errW_none, errW_some] <;> rfl), by repeat (first | (with_reducible first | exact HB.out | apply below_alloc | apply pw_below_drewN | apply below_drew1 | refine below_set ?_ GE149.out | refine below_set ?_ GE153.out) | exact HB.out)⟩
        ·replace c31 := Bool.eq_false_iff.mpr c31
         subst c31
         have H1 : (some (0, 0, (⟨#[]⟩ : ByteArray), 0, 1)) = some (r1, r2, r3, r4, r5) := by rw [if_neg (show ¬ (false = true) by decide)] at H; exact H
         clear H
         have H := H1
         clear H1
         simp only [Option.some.injEq, Prod.mk.injEq] at H
         obtain ⟨rfl, rfl, rfl, rfl, rfl⟩ := H
         go_enter Try.func17, Try.ntmps17
         go_wp2_with (first | ((with_reducible refine gate_dst (N := 2) rfl ?_); refine box_event ?hg (N := 2) ?hd (cs := #[.int .i64 0, .float .f64 0, .string (⟨#[]⟩ : ByteArray)]) (t := 27) ?hr ?_; (case hd => rfl); (case hg => rfl); (case hr => first | (go_simp; done) | (go_simp; rfl)); intro gb149 hg w53 hbox hb; have BK149 := Aside0.mk (hbox); have GW149 := bZ HB hg; have GE149 := bZ HB hg; replace HB := bW HB hb; clear hb hbox hg) | ((with_reducible refine gate_callee (f := 36) rfl ?_); refine goesL_ (some 13) rfl rfl Try.func36 (by kernel_rfl) rfl #[.slice A0 l0.length c0] rfl (by (try simp only [List.map_toArray, List.map_cons, List.map_nil]); first | done | rfl | (simp only [List.length_drop, List.length_take]; rfl)) ?_; (with_reducible refine (num_Get.calls k _ _ l0 t150 t151 t152 _ ?side1 ?side2 A2.out).mono ?_); (case side1 => repeat (first | exact (Kd.C_below HR0.out HB.out) | (with_reducible refine Kd.C_alloc ?_ _) | (with_reducible refine Kd.C_drewN ?_ _) | (with_reducible refine Kd.C_drew ?_))); (case side2 => exact HC0.out); rintro e w' ⟨rfl, ⟨nd, rfl⟩⟩; refine ⟨_, rfl, ?_⟩; (try (rw [drewN_self w53]; generalize hq_ : World.drewN w53 _ = w53; have n0_ := bE BK149 hq_.symm; have n1_ := bH HB hq_.symm; clear BK149 HB hq_; have BK149 := n0_; have HB := n1_; clear n0_ n1_))) | ((with_reducible refine gate_dst (N := 8) rfl ?_); refine box_event ?hg (N := 8) ?hd (cs := #[.int .i64 0, .float .f64 0, .string (⟨#[]⟩ : ByteArray)]) (t := 27) ?hr ?_; (case hd => rfl); (case hg => rfl); (case hr => first | (go_simp; done) | (go_simp; rfl)); intro gb153 hg w54 hbox hb; have BK153 := Aside0.mk (hbox); have GW153 := bZ HB hg; have GE153 := bZ HB hg; have NB149_153 := bL BK149 hg; have NB153_149 := bG BK149 hg; replace BK149 := bB BK149 hb; replace HB := bW HB hb; clear hb hbox hg; have hnb55 := NB153_149.out; have hnc55 := NB149_153.out; obtain ⟨hcz56_0, hcz56_1, hcz56_2, hfz56_0, hfz56_1, hfz56_2⟩ := bf3 (w := w54) BK153) | ((with_reducible refine gate_store (t := 27) (p := 8) rfl ?_); refine store_event (t := 27) (p := 8) (v := ?vo_w57) (w1 := (((w54.setCell ⟨gb153, 0, none⟩ (.int .i64 t150)).setCell ⟨gb153, 1, none⟩ (.float .f64 0)).setCell ⟨gb153, 2, none⟩ (.string (⟨#[]⟩ : ByteArray)))) ?hg ?ho ?hn ?hr ?_; (case ho => rfl); (case hg => rfl); (case hn => rfl); (case hr => first | (go_simp; done) | (go_simp; rfl)); intro w57 hw; replace BK149 := bE BK149 hw; replace BK153 : Aside0 (w57.heap[gb153]? = some (.cells #[.int .i64 t150, .float .f64 0, .string (⟨#[]⟩ : ByteArray)] 27 (0, 0))) := bP BK153 hw; replace HB := bH HB hw; clear hw; have q58 : ((wrap64 (t151 + 8)) : Int) ≤ ((l0.length : Int) : Int) := of_decide_eq_true (by first | (with_reducible assumption) | assumption); obtain ⟨i058, hi058, _, hsz58, _⟩ := info_parts info5; have hroom58 : l0.length ≤ c0 := HC0.out; have hC58 : Kd.C (Kd.int .u8) _ A0 l0.length l0 := HR0.out; have ql58 : (t151 : Int) ≤ ((wrap64 (t151 + 8)) : Int) := of_decide_eq_true (by first | (with_reducible assumption) | assumption); have q058 : (0 : Int) ≤ (t151 : Int) := of_decide_eq_true (by first | (with_reducible assumption) | assumption); have hcut58 := cut_mid (P := Try.prog) 23 5 .i64 .i64 Try.underlying23 hi058 1 hsz58 A0 l0.length c0 t151 (wrap64 (t151 + 8)) q058 ql58 q58 hroom58; have hr58 := Kd.C_mid (lo := (t151 : Int).toNat) (hi := ((wrap64 (t151 + 8)) : Int).toNat) (c := c0) hC58 (by omega) (by omega) hroom58; obtain ⟨A58, hA58⟩ : ∃ A1, A1 = (if c0 = (t151 : Int).toNat then A0 else (A0 : Option Addr).map (·.add ((t151 : Int).toNat * 1))) := ⟨_, rfl⟩; obtain ⟨c58, hc58⟩ : ∃ c1, c1 = c0 - (t151 : Int).toNat := ⟨_, rfl⟩; have hy58 : y155.length = ((wrap64 (t151 + 8)) : Int).toNat - (t151 : Int).toNat := (by rw [Ny155.out, List.length_drop, List.length_take] <;> omega); rw [show ((l0).take ((wrap64 (t151 + 8)) : Int).toNat).drop (t151 : Int).toNat = y155 from Ny155.out.symm] at hr58; replace hr58 : Kd.C (Kd.int .u8) _ A58 y155.length y155 := (by rw [hA58]; exact hr58); rw [← hy58, ← hA58, ← hc58] at hcut58; have HR158 := Aside0.mk hr58; have HC158 := Aside0.mk (show y155.length ≤ c58 from by rw [hy58, hc58]; exact Nat.sub_le_sub_right (Nat.le_trans (by omega) hroom58) _); clear hr58 hC58 hroom58 hi058 hsz58 hc58; have KY58 := Aside0.mk hy58; have KA58 := Aside0.mk hA58; clear hy58 hA58; replace q58 := eq_true q58) | ((with_reducible refine gate_callee (f := 37) rfl ?_); refine goesL_ (some 41) rfl rfl Try.func37 (by kernel_rfl) rfl #[.slice A58 y155.length c58] rfl (by (try simp only [List.map_toArray, List.map_cons, List.map_nil]); first | done | rfl | (simp only [List.length_drop, List.length_take]; rfl)) ?_; (with_reducible refine (float_Of.calls k _ _ y155 t159 false _ ?side1 ?side2 A30.out).mono ?_); (case side1 => repeat (first | exact (Kd.C_below HR158.out HB.out) | (with_reducible refine Kd.C_alloc ?_ _) | (with_reducible refine Kd.C_drewN ?_ _) | (with_reducible refine Kd.C_drew ?_))); (case side2 => exact HC158.out); rintro e w' ⟨rfl, ⟨nd, rfl⟩⟩; refine ⟨_, rfl, ?_⟩; (try (rw [drewN_self w57]; generalize hq_ : World.drewN w57 _ = w57; have n0_ := bE BK149 hq_.symm; have n1_ := bE BK153 hq_.symm; have n2_ := bH HB hq_.symm; clear BK149 BK153 HB hq_; have BK149 := n0_; have BK153 := n1_; have HB := n2_; clear n0_ n1_ n2_)); obtain ⟨hcz59_0, hcz59_1, hcz59_2, hfz59_0, hfz59_1, hfz59_2⟩ := bf3 (w := w57) BK153; obtain ⟨hcz60_0, hcz60_1, hcz60_2, hfz60_0, hfz60_1, hfz60_2⟩ := bf3 (w := w57) BK149))
         refine bodyPost_ret (results_ctt rfl _ _ gb149 27 #[.int .i64 0, .float .f64 0, .string (⟨#[]⟩ : ByteArray)] (0, 0) _ rfl (bR BK149) Try.underlying27 rfl (by kernel_rfl)) rfl ?_
         exact ⟨by first | rfl | (simp [errW_none, errW_some] <;> rfl) | (simp [*, errW_none, errW_some] <;> rfl), by repeat (first | (with_reducible first | exact HB.out | apply below_alloc | apply pw_below_drewN | apply below_drew1 | refine below_set ?_ GE149.out | refine below_set ?_ GE153.out) | exact HB.out)⟩
       ·rw [if_neg c29] at H
        exact absurd H (by simp)
      ·rw [if_neg c28] at H
       exact absurd H (by simp)
     ·rw [if_neg c27] at H
      exact absurd H (by simp)
   ·rw [if_neg c20] at H
    have c20b0 : (t150 == 1) = false := beq_eq_false_iff_ne.mpr c20
    have c20b1 : (t150 != 1) = true := bne_iff_ne.mpr c20
    by_cases c61 : t150 = 2
    ·rw [if_pos c61] at H
     have c61b0 : (t150 == 2) = true := beq_iff_eq.mpr c61
     have c61b1 : (t150 != 2) = false := bne_eq_false_iff_eq.mpr c61
     clear c61
     by_cases c62 : 0 ≤ t151
     ·rw [if_pos c62] at H
      have c62b0 := eq_true c62
      have c62b1 : decide (0 ≤ t151) = true := decide_eq_true c62
      clear c62
      by_cases c63 : t151 ≤ (l0.length : Int)
      ·rw [if_pos c63] at H
       have c63b0 := eq_true c63
       have c63b1 : decide (t151 ≤ (l0.length : Int)) = true := decide_eq_true c63
       clear c63
       obtain ⟨y162, hy162⟩ : ∃ y_ : List Int, y_ = (l0.drop (t151 : Int).toNat) := ⟨_, rfl⟩
       replace H : ((num_GetText.f k y162).bind fun bt166 => (if bt166.2.2 = 0 then ((datum_May.f t150 0 bt166.1).bind fun t169 => (if t169 = true then (some (t150, 0, bt166.1, wrap64 (t151 + bt166.2.1), 0)) else (some (0, 0, (⟨#[]⟩ : ByteArray), 0, 1)))) else (some (0, 0, (⟨#[]⟩ : ByteArray), 0, bt166.2.2)))) = some (r1, r2, r3, r4, r5) := by first | (rw [hy162]; with_reducible exact H) | (have H2_ := (Option.bind_some _ _).symm.trans H; rw [hy162]; with_reducible exact H2_) | (have H2_ := (Option.bind_some _ _).symm.trans H; with_reducible exact H2_) | with_reducible exact H | (rw [hy162]; exact H) | exact H
       have Ny162 := Aside0.mk hy162
       clear hy162
       replace H := Option.bind_eq_some_iff.mp H
       obtain ⟨⟨t166, t167, t168⟩, A640, H⟩ := H
       replace H : (if t168 = 0 then ((datum_May.f t150 0 t166).bind fun t169 => (if t169 = true then (some (t150, 0, t166, wrap64 (t151 + t167), 0)) else (some (0, 0, (⟨#[]⟩ : ByteArray), 0, 1)))) else (some (0, 0, (⟨#[]⟩ : ByteArray), 0, t168))) = some (r1, r2, r3, r4, r5) := H
       have A64 := Aside0.mk A640
       clear A640
       by_cases c65 : t168 = 0
       ·rw [if_pos c65] at H
        have c65b0 : (t168 == 0) = true := beq_iff_eq.mpr c65
        have c65b1 : (t168 != 0) = false := bne_eq_false_iff_eq.mpr c65
        clear c65
        replace H := Option.bind_eq_some_iff.mp H
        obtain ⟨t169, A660, H⟩ := H
        replace H : (if t169 = true then (some (t150, 0, t166, wrap64 (t151 + t167), 0)) else (some (0, 0, (⟨#[]⟩ : ByteArray), 0, 1))) = some (r1, r2, r3, r4, r5) := H
        have A66 := Aside0.mk A660
        clear A660
        by_cases c67 : t169 = true
        ·subst c67
         have H1 : (some (t150, 0, t166, wrap64 (t151 + t167), 0)) = some (r1, r2, r3, r4, r5) := by rw [if_pos rfl] at H; exact H
         clear H
         have H := H1
         clear H1
         simp only [Option.some.injEq, Prod.mk.injEq] at H
         obtain ⟨rfl, rfl, rfl, rfl, rfl⟩ := H
         go_enter Try.func17, Try.ntmps17
         go_wp2_with (first | ((with_reducible refine gate_dst (N := 2) rfl ?_); refine box_event ?hg (N := 2) ?hd (cs := #[.int .i64 0, .float .f64 0, .string (⟨#[]⟩ : ByteArray)]) (t := 27) ?hr ?_; (case hd => rfl); (case hg => rfl); (case hr => first | (go_simp; done) | (go_simp; rfl)); intro gb149 hg w68 hbox hb; have BK149 := Aside0.mk (hbox); have GW149 := bZ HB hg; have GE149 := bZ HB hg; replace HB := bW HB hb; clear hb hbox hg) | ((with_reducible refine gate_callee (f := 36) rfl ?_); refine goesL_ (some 13) rfl rfl Try.func36 (by kernel_rfl) rfl #[.slice A0 l0.length c0] rfl (by (try simp only [List.map_toArray, List.map_cons, List.map_nil]); first | done | rfl | (simp only [List.length_drop, List.length_take]; rfl)) ?_; (with_reducible refine (num_Get.calls k _ _ l0 t150 t151 t152 _ ?side1 ?side2 A2.out).mono ?_); (case side1 => repeat (first | exact (Kd.C_below HR0.out HB.out) | (with_reducible refine Kd.C_alloc ?_ _) | (with_reducible refine Kd.C_drewN ?_ _) | (with_reducible refine Kd.C_drew ?_))); (case side2 => exact HC0.out); rintro e w' ⟨rfl, ⟨nd, rfl⟩⟩; refine ⟨_, rfl, ?_⟩; (try (rw [drewN_self w68]; generalize hq_ : World.drewN w68 _ = w68; have n0_ := bE BK149 hq_.symm; have n1_ := bH HB hq_.symm; clear BK149 HB hq_; have BK149 := n0_; have HB := n1_; clear n0_ n1_))) | ((with_reducible refine gate_dst (N := 8) rfl ?_); refine box_event ?hg (N := 8) ?hd (cs := #[.int .i64 0, .float .f64 0, .string (⟨#[]⟩ : ByteArray)]) (t := 27) ?hr ?_; (case hd => rfl); (case hg => rfl); (case hr => first | (go_simp; done) | (go_simp; rfl)); intro gb153 hg w69 hbox hb; have BK153 := Aside0.mk (hbox); have GW153 := bZ HB hg; have GE153 := bZ HB hg; have NB149_153 := bL BK149 hg; have NB153_149 := bG BK149 hg; replace BK149 := bB BK149 hb; replace HB := bW HB hb; clear hb hbox hg; have hnb70 := NB153_149.out; have hnc70 := NB149_153.out; obtain ⟨hcz71_0, hcz71_1, hcz71_2, hfz71_0, hfz71_1, hfz71_2⟩ := bf3 (w := w69) BK153) | ((with_reducible refine gate_store (t := 27) (p := 8) rfl ?_); refine store_event (t := 27) (p := 8) (v := ?vo_w72) (w1 := (((w69.setCell ⟨gb153, 0, none⟩ (.int .i64 t150)).setCell ⟨gb153, 1, none⟩ (.float .f64 0)).setCell ⟨gb153, 2, none⟩ (.string (⟨#[]⟩ : ByteArray)))) ?hg ?ho ?hn ?hr ?_; (case ho => rfl); (case hg => rfl); (case hn => rfl); (case hr => first | (go_simp; done) | (go_simp; rfl)); intro w72 hw; replace BK149 := bE BK149 hw; replace BK153 : Aside0 (w72.heap[gb153]? = some (.cells #[.int .i64 t150, .float .f64 0, .string (⟨#[]⟩ : ByteArray)] 27 (0, 0))) := bP BK153 hw; replace HB := bH HB hw; clear hw; have q73 : (t151 : Int) ≤ ((l0.length : Int) : Int) := of_decide_eq_true (by first | (with_reducible assumption) | assumption); obtain ⟨i073, hi073, _, hsz73, _⟩ := info_parts info5; have hroom73 : l0.length ≤ c0 := HC0.out; have hC73 : Kd.C (Kd.int .u8) _ A0 l0.length l0 := HR0.out; have q073 : (0 : Int) ≤ (t151 : Int) := of_decide_eq_true (by first | (with_reducible assumption) | assumption); have hcut73 := cut_from (P := Try.prog) 23 5 .i64 Try.underlying23 hi073 1 hsz73 A0 l0.length c0 t151 q073 q73; have hr73 := Kd.C_drop (m := (t151 : Int).toNat) (c := c0) hC73 (by omega) hroom73; obtain ⟨A73, hA73⟩ : ∃ A1, A1 = (if c0 = (t151 : Int).toNat then A0 else (A0 : Option Addr).map (·.add ((t151 : Int).toNat * 1))) := ⟨_, rfl⟩; obtain ⟨c73, hc73⟩ : ∃ c1, c1 = c0 - (t151 : Int).toNat := ⟨_, rfl⟩; have hy73 : y162.length = l0.length - (t151 : Int).toNat := (by rw [Ny162.out, List.length_drop] <;> omega); rw [show (l0).drop (t151 : Int).toNat = y162 from Ny162.out.symm] at hr73; replace hr73 : Kd.C (Kd.int .u8) _ A73 y162.length y162 := (by rw [hA73]; exact hr73); rw [← hy73, ← hA73, ← hc73] at hcut73; have HR165 := Aside0.mk hr73; have HC165 := Aside0.mk (show y162.length ≤ c73 from by rw [hy73, hc73]; exact Nat.sub_le_sub_right hroom73 _); clear hr73 hC73 hroom73 hi073 hsz73 hc73; have KY73 := Aside0.mk hy73; have KA73 := Aside0.mk hA73; clear hy73 hA73; replace q73 := eq_true q73) | ((with_reducible refine gate_callee (f := 38) rfl ?_); refine goesL_ (some 54) rfl rfl Try.func38 (by kernel_rfl) rfl #[.slice A73 y162.length c73] rfl (by (try simp only [List.map_toArray, List.map_cons, List.map_nil]); first | done | rfl | (simp only [List.length_drop, List.length_take]; rfl)) ?_; (with_reducible refine (num_GetText.calls k _ _ y162 t166 t167 t168 _ ?side1 ?side2 A64.out).mono ?_); (case side1 => repeat (first | exact (Kd.C_below HR165.out HB.out) | (with_reducible refine Kd.C_alloc ?_ _) | (with_reducible refine Kd.C_drewN ?_ _) | (with_reducible refine Kd.C_drew ?_))); (case side2 => exact HC165.out); rintro e w' ⟨rfl, ⟨nd, rfl⟩⟩; refine ⟨_, rfl, ?_⟩; (try (rw [drewN_self w72]; generalize hq_ : World.drewN w72 _ = w72; have n0_ := bE BK149 hq_.symm; have n1_ := bE BK153 hq_.symm; have n2_ := bH HB hq_.symm; clear BK149 BK153 HB hq_; have BK149 := n0_; have BK153 := n1_; have HB := n2_; clear n0_ n1_ n2_)); obtain ⟨hcz74_0, hcz74_1, hcz74_2, hfz74_0, hfz74_1, hfz74_2⟩ := bf3 (w := w72) BK153) | ((with_reducible refine gate_callee (f := 13) rfl ?_); refine goesL_ (some 64) rfl rfl Try.func13 (by kernel_rfl) rfl #[.agg #[.int .i64 t150, .float .f64 0, .string t166]] rfl (by (try simp only [List.map_toArray, List.map_cons, List.map_nil]); first | done | rfl | (simp only [List.length_drop, List.length_take]; rfl)) ?_; (with_reducible refine (datum_May.calls t150 0 t166 true _ A66.out).mono ?_); rintro e w75 ⟨rfl, hb⟩; refine ⟨_, rfl, ?_⟩; replace BK149 := bB BK149 hb; replace BK153 := Aside0.mk (blk_below (g := gb153) (o := .cells #[.int .i64 t150, .float .f64 0, .string t166] 27 (0, 0)) (bR BK153) hb); replace HB := bW HB hb; (try clear hb); (try clear hb2); (try clear hk); (try clear hi); obtain ⟨hcz76_0, hcz76_1, hcz76_2, hfz76_0, hfz76_1, hfz76_2⟩ := bf3 (w := w75) BK153; obtain ⟨hcz77_0, hcz77_1, hcz77_2, hfz77_0, hfz77_1, hfz77_2⟩ := bf3 (w := w75) BK149))
         refine bodyPost_ret (results_ctt rfl _ _ gb149 27 #[.int .i64 t150, .float .f64 0, .string t166] (0, 0) _ rfl (bR BK149) Try.underlying27 rfl (by kernel_rfl)) rfl ?_
         exact ⟨by first | rfl | (simp [errW_none, errW_some] <;> rfl) | (simp [*, errW_none, errW_some] <;> rfl), by repeat (first | (with_reducible first | exact HB.out | apply below_alloc | apply pw_below_drewN | apply below_drew1 | refine below_set ?_ GE149.out | refine below_set ?_ GE153.out) | exact HB.out)⟩
        ·replace c67 := Bool.eq_false_iff.mpr c67
         subst c67
         have H1 : (some (0, 0, (⟨#[]⟩ : ByteArray), 0, 1)) = some (r1, r2, r3, r4, r5) := by rw [if_neg (show ¬ (false = true) by decide)] at H; exact H
         clear H
         have H := H1
         clear H1
         simp only [Option.some.injEq, Prod.mk.injEq] at H
         obtain ⟨rfl, rfl, rfl, rfl, rfl⟩ := H
         go_enter Try.func17, Try.ntmps17
         go_wp2_with (first | ((with_reducible refine gate_dst (N := 2) rfl ?_); refine box_event ?hg (N := 2) ?hd (cs := #[.int .i64 0, .float .f64 0, .string (⟨#[]⟩ : ByteArray)]) (t := 27) ?hr ?_; (case hd => rfl); (case hg => rfl); (case hr => first | (go_simp; done) | (go_simp; rfl)); intro gb149 hg w78 hbox hb; have BK149 := Aside0.mk (hbox); have GW149 := bZ HB hg; have GE149 := bZ HB hg; replace HB := bW HB hb; clear hb hbox hg) | ((with_reducible refine gate_callee (f := 36) rfl ?_); refine goesL_ (some 13) rfl rfl Try.func36 (by kernel_rfl) rfl #[.slice A0 l0.length c0] rfl (by (try simp only [List.map_toArray, List.map_cons, List.map_nil]); first | done | rfl | (simp only [List.length_drop, List.length_take]; rfl)) ?_; (with_reducible refine (num_Get.calls k _ _ l0 t150 t151 t152 _ ?side1 ?side2 A2.out).mono ?_); (case side1 => repeat (first | exact (Kd.C_below HR0.out HB.out) | (with_reducible refine Kd.C_alloc ?_ _) | (with_reducible refine Kd.C_drewN ?_ _) | (with_reducible refine Kd.C_drew ?_))); (case side2 => exact HC0.out); rintro e w' ⟨rfl, ⟨nd, rfl⟩⟩; refine ⟨_, rfl, ?_⟩; (try (rw [drewN_self w78]; generalize hq_ : World.drewN w78 _ = w78; have n0_ := bE BK149 hq_.symm; have n1_ := bH HB hq_.symm; clear BK149 HB hq_; have BK149 := n0_; have HB := n1_; clear n0_ n1_))) | ((with_reducible refine gate_dst (N := 8) rfl ?_); refine box_event ?hg (N := 8) ?hd (cs := #[.int .i64 0, .float .f64 0, .string (⟨#[]⟩ : ByteArray)]) (t := 27) ?hr ?_; (case hd => rfl); (case hg => rfl); (case hr => first | (go_simp; done) | (go_simp; rfl)); intro gb153 hg w79 hbox hb; have BK153 := Aside0.mk (hbox); have GW153 := bZ HB hg; have GE153 := bZ HB hg; have NB149_153 := bL BK149 hg; have NB153_149 := bG BK149 hg; replace BK149 := bB BK149 hb; replace HB := bW HB hb; clear hb hbox hg; have hnb80 := NB153_149.out; have hnc80 := NB149_153.out; obtain ⟨hcz81_0, hcz81_1, hcz81_2, hfz81_0, hfz81_1, hfz81_2⟩ := bf3 (w := w79) BK153) | ((with_reducible refine gate_store (t := 27) (p := 8) rfl ?_); refine store_event (t := 27) (p := 8) (v := ?vo_w82) (w1 := (((w79.setCell ⟨gb153, 0, none⟩ (.int .i64 t150)).setCell ⟨gb153, 1, none⟩ (.float .f64 0)).setCell ⟨gb153, 2, none⟩ (.string (⟨#[]⟩ : ByteArray)))) ?hg ?ho ?hn ?hr ?_; (case ho => rfl); (case hg => rfl); (case hn => rfl); (case hr => first | (go_simp; done) | (go_simp; rfl)); intro w82 hw; replace BK149 := bE BK149 hw; replace BK153 : Aside0 (w82.heap[gb153]? = some (.cells #[.int .i64 t150, .float .f64 0, .string (⟨#[]⟩ : ByteArray)] 27 (0, 0))) := bP BK153 hw; replace HB := bH HB hw; clear hw; have q83 : (t151 : Int) ≤ ((l0.length : Int) : Int) := of_decide_eq_true (by first | (with_reducible assumption) | assumption); obtain ⟨i083, hi083, _, hsz83, _⟩ := info_parts info5; have hroom83 : l0.length ≤ c0 := HC0.out; have hC83 : Kd.C (Kd.int .u8) _ A0 l0.length l0 := HR0.out; have q083 : (0 : Int) ≤ (t151 : Int) := of_decide_eq_true (by first | (with_reducible assumption) | assumption); have hcut83 := cut_from (P := Try.prog) 23 5 .i64 Try.underlying23 hi083 1 hsz83 A0 l0.length c0 t151 q083 q83; have hr83 := Kd.C_drop (m := (t151 : Int).toNat) (c := c0) hC83 (by omega) hroom83; obtain ⟨A83, hA83⟩ : ∃ A1, A1 = (if c0 = (t151 : Int).toNat then A0 else (A0 : Option Addr).map (·.add ((t151 : Int).toNat * 1))) := ⟨_, rfl⟩; obtain ⟨c83, hc83⟩ : ∃ c1, c1 = c0 - (t151 : Int).toNat := ⟨_, rfl⟩; have hy83 : y162.length = l0.length - (t151 : Int).toNat := (by rw [Ny162.out, List.length_drop] <;> omega); rw [show (l0).drop (t151 : Int).toNat = y162 from Ny162.out.symm] at hr83; replace hr83 : Kd.C (Kd.int .u8) _ A83 y162.length y162 := (by rw [hA83]; exact hr83); rw [← hy83, ← hA83, ← hc83] at hcut83; have HR165 := Aside0.mk hr83; have HC165 := Aside0.mk (show y162.length ≤ c83 from by rw [hy83, hc83]; exact Nat.sub_le_sub_right hroom83 _); clear hr83 hC83 hroom83 hi083 hsz83 hc83; have KY83 := Aside0.mk hy83; have KA83 := Aside0.mk hA83; clear hy83 hA83; replace q83 := eq_true q83) | ((with_reducible refine gate_callee (f := 38) rfl ?_); refine goesL_ (some 54) rfl rfl Try.func38 (by kernel_rfl) rfl #[.slice A83 y162.length c83] rfl (by (try simp only [List.map_toArray, List.map_cons, List.map_nil]); first | done | rfl | (simp only [List.length_drop, List.length_take]; rfl)) ?_; (with_reducible refine (num_GetText.calls k _ _ y162 t166 t167 t168 _ ?side1 ?side2 A64.out).mono ?_); (case side1 => repeat (first | exact (Kd.C_below HR165.out HB.out) | (with_reducible refine Kd.C_alloc ?_ _) | (with_reducible refine Kd.C_drewN ?_ _) | (with_reducible refine Kd.C_drew ?_))); (case side2 => exact HC165.out); rintro e w' ⟨rfl, ⟨nd, rfl⟩⟩; refine ⟨_, rfl, ?_⟩; (try (rw [drewN_self w82]; generalize hq_ : World.drewN w82 _ = w82; have n0_ := bE BK149 hq_.symm; have n1_ := bE BK153 hq_.symm; have n2_ := bH HB hq_.symm; clear BK149 BK153 HB hq_; have BK149 := n0_; have BK153 := n1_; have HB := n2_; clear n0_ n1_ n2_)); obtain ⟨hcz84_0, hcz84_1, hcz84_2, hfz84_0, hfz84_1, hfz84_2⟩ := bf3 (w := w82) BK153) | ((with_reducible refine gate_callee (f := 13) rfl ?_); refine goesL_ (some 64) rfl rfl Try.func13 (by kernel_rfl) rfl #[.agg #[.int .i64 t150, .float .f64 0, .string t166]] rfl (by (try simp only [List.map_toArray, List.map_cons, List.map_nil]); first | done | rfl | (simp only [List.length_drop, List.length_take]; rfl)) ?_; (with_reducible refine (datum_May.calls t150 0 t166 false _ A66.out).mono ?_); rintro e w85 ⟨rfl, hb⟩; refine ⟨_, rfl, ?_⟩; replace BK149 := bB BK149 hb; replace BK153 := Aside0.mk (blk_below (g := gb153) (o := .cells #[.int .i64 t150, .float .f64 0, .string t166] 27 (0, 0)) (bR BK153) hb); replace HB := bW HB hb; (try clear hb); (try clear hb2); (try clear hk); (try clear hi); obtain ⟨hcz86_0, hcz86_1, hcz86_2, hfz86_0, hfz86_1, hfz86_2⟩ := bf3 (w := w85) BK149))
         refine bodyPost_ret (results_ctt rfl _ _ gb149 27 #[.int .i64 0, .float .f64 0, .string (⟨#[]⟩ : ByteArray)] (0, 0) _ rfl (bR BK149) Try.underlying27 rfl (by kernel_rfl)) rfl ?_
         exact ⟨by first | rfl | (simp [errW_none, errW_some] <;> rfl) | (simp [*, errW_none, errW_some] <;> rfl), by repeat (first | (with_reducible first | exact HB.out | apply below_alloc | apply pw_below_drewN | apply below_drew1 | refine below_set ?_ GE149.out | refine below_set ?_ GE153.out) | exact HB.out)⟩
       ·rw [if_neg c65] at H
        have c65b0 : (t168 == 0) = false := beq_eq_false_iff_ne.mpr c65
        have c65b1 : (t168 != 0) = true := bne_iff_ne.mpr c65
        simp only [Option.some.injEq, Prod.mk.injEq] at H
        obtain ⟨rfl, rfl, rfl, rfl, rfl⟩ := H
        go_enter Try.func17, Try.ntmps17
        go_wp2_with (first | ((with_reducible refine gate_dst (N := 2) rfl ?_); refine box_event ?hg (N := 2) ?hd (cs := #[.int .i64 0, .float .f64 0, .string (⟨#[]⟩ : ByteArray)]) (t := 27) ?hr ?_; (case hd => rfl); (case hg => rfl); (case hr => first | (go_simp; done) | (go_simp; rfl)); intro gb149 hg w87 hbox hb; have BK149 := Aside0.mk (hbox); have GW149 := bZ HB hg; have GE149 := bZ HB hg; replace HB := bW HB hb; clear hb hbox hg) | ((with_reducible refine gate_callee (f := 36) rfl ?_); refine goesL_ (some 13) rfl rfl Try.func36 (by kernel_rfl) rfl #[.slice A0 l0.length c0] rfl (by (try simp only [List.map_toArray, List.map_cons, List.map_nil]); first | done | rfl | (simp only [List.length_drop, List.length_take]; rfl)) ?_; (with_reducible refine (num_Get.calls k _ _ l0 t150 t151 t152 _ ?side1 ?side2 A2.out).mono ?_); (case side1 => repeat (first | exact (Kd.C_below HR0.out HB.out) | (with_reducible refine Kd.C_alloc ?_ _) | (with_reducible refine Kd.C_drewN ?_ _) | (with_reducible refine Kd.C_drew ?_))); (case side2 => exact HC0.out); rintro e w' ⟨rfl, ⟨nd, rfl⟩⟩; refine ⟨_, rfl, ?_⟩; (try (rw [drewN_self w87]; generalize hq_ : World.drewN w87 _ = w87; have n0_ := bE BK149 hq_.symm; have n1_ := bH HB hq_.symm; clear BK149 HB hq_; have BK149 := n0_; have HB := n1_; clear n0_ n1_))) | ((with_reducible refine gate_dst (N := 8) rfl ?_); refine box_event ?hg (N := 8) ?hd (cs := #[.int .i64 0, .float .f64 0, .string (⟨#[]⟩ : ByteArray)]) (t := 27) ?hr ?_; (case hd => rfl); (case hg => rfl); (case hr => first | (go_simp; done) | (go_simp; rfl)); intro gb153 hg w88 hbox hb; have BK153 := Aside0.mk (hbox); have GW153 := bZ HB hg; have GE153 := bZ HB hg; have NB149_153 := bL BK149 hg; have NB153_149 := bG BK149 hg; replace BK149 := bB BK149 hb; replace HB := bW HB hb; clear hb hbox hg; have hnb89 := NB153_149.out; have hnc89 := NB149_153.out; obtain ⟨hcz90_0, hcz90_1, hcz90_2, hfz90_0, hfz90_1, hfz90_2⟩ := bf3 (w := w88) BK153) | ((with_reducible refine gate_store (t := 27) (p := 8) rfl ?_); refine store_event (t := 27) (p := 8) (v := ?vo_w91) (w1 := (((w88.setCell ⟨gb153, 0, none⟩ (.int .i64 t150)).setCell ⟨gb153, 1, none⟩ (.float .f64 0)).setCell ⟨gb153, 2, none⟩ (.string (⟨#[]⟩ : ByteArray)))) ?hg ?ho ?hn ?hr ?_; (case ho => rfl); (case hg => rfl); (case hn => rfl); (case hr => first | (go_simp; done) | (go_simp; rfl)); intro w91 hw; replace BK149 := bE BK149 hw; replace BK153 : Aside0 (w91.heap[gb153]? = some (.cells #[.int .i64 t150, .float .f64 0, .string (⟨#[]⟩ : ByteArray)] 27 (0, 0))) := bP BK153 hw; replace HB := bH HB hw; clear hw; have q92 : (t151 : Int) ≤ ((l0.length : Int) : Int) := of_decide_eq_true (by first | (with_reducible assumption) | assumption); obtain ⟨i092, hi092, _, hsz92, _⟩ := info_parts info5; have hroom92 : l0.length ≤ c0 := HC0.out; have hC92 : Kd.C (Kd.int .u8) _ A0 l0.length l0 := HR0.out; have q092 : (0 : Int) ≤ (t151 : Int) := of_decide_eq_true (by first | (with_reducible assumption) | assumption); have hcut92 := cut_from (P := Try.prog) 23 5 .i64 Try.underlying23 hi092 1 hsz92 A0 l0.length c0 t151 q092 q92; have hr92 := Kd.C_drop (m := (t151 : Int).toNat) (c := c0) hC92 (by omega) hroom92; obtain ⟨A92, hA92⟩ : ∃ A1, A1 = (if c0 = (t151 : Int).toNat then A0 else (A0 : Option Addr).map (·.add ((t151 : Int).toNat * 1))) := ⟨_, rfl⟩; obtain ⟨c92, hc92⟩ : ∃ c1, c1 = c0 - (t151 : Int).toNat := ⟨_, rfl⟩; have hy92 : y162.length = l0.length - (t151 : Int).toNat := (by rw [Ny162.out, List.length_drop] <;> omega); rw [show (l0).drop (t151 : Int).toNat = y162 from Ny162.out.symm] at hr92; replace hr92 : Kd.C (Kd.int .u8) _ A92 y162.length y162 := (by rw [hA92]; exact hr92); rw [← hy92, ← hA92, ← hc92] at hcut92; have HR165 := Aside0.mk hr92; have HC165 := Aside0.mk (show y162.length ≤ c92 from by rw [hy92, hc92]; exact Nat.sub_le_sub_right hroom92 _); clear hr92 hC92 hroom92 hi092 hsz92 hc92; have KY92 := Aside0.mk hy92; have KA92 := Aside0.mk hA92; clear hy92 hA92; replace q92 := eq_true q92) | ((with_reducible refine gate_callee (f := 38) rfl ?_); refine goesL_ (some 54) rfl rfl Try.func38 (by kernel_rfl) rfl #[.slice A92 y162.length c92] rfl (by (try simp only [List.map_toArray, List.map_cons, List.map_nil]); first | done | rfl | (simp only [List.length_drop, List.length_take]; rfl)) ?_; (with_reducible refine (num_GetText.calls k _ _ y162 t166 t167 t168 _ ?side1 ?side2 A64.out).mono ?_); (case side1 => repeat (first | exact (Kd.C_below HR165.out HB.out) | (with_reducible refine Kd.C_alloc ?_ _) | (with_reducible refine Kd.C_drewN ?_ _) | (with_reducible refine Kd.C_drew ?_))); (case side2 => exact HC165.out); rintro e w' ⟨rfl, ⟨nd, rfl⟩⟩; refine ⟨_, rfl, ?_⟩; (try (rw [drewN_self w91]; generalize hq_ : World.drewN w91 _ = w91; have n0_ := bE BK149 hq_.symm; have n1_ := bE BK153 hq_.symm; have n2_ := bH HB hq_.symm; clear BK149 BK153 HB hq_; have BK149 := n0_; have BK153 := n1_; have HB := n2_; clear n0_ n1_ n2_)); obtain ⟨hcz93_0, hcz93_1, hcz93_2, hfz93_0, hfz93_1, hfz93_2⟩ := bf3 (w := w91) BK153; obtain ⟨hcz94_0, hcz94_1, hcz94_2, hfz94_0, hfz94_1, hfz94_2⟩ := bf3 (w := w91) BK149))
        refine bodyPost_ret (results_ctt rfl _ _ gb149 27 #[.int .i64 0, .float .f64 0, .string (⟨#[]⟩ : ByteArray)] (0, 0) _ rfl (bR BK149) Try.underlying27 rfl (by kernel_rfl)) rfl ?_
        exact ⟨by first | rfl | (simp [errW_none, errW_some] <;> rfl) | (simp [*, errW_none, errW_some] <;> rfl), by repeat (first | (with_reducible first | exact HB.out | apply below_alloc | apply pw_below_drewN | apply below_drew1 | refine below_set ?_ GE149.out | refine below_set ?_ GE153.out) | exact HB.out)⟩
      ·rw [if_neg c63] at H
       exact absurd H (by simp)
     ·rw [if_neg c62] at H
      exact absurd H (by simp)
    ·rw [if_neg c61] at H
     have c61b0 : (t150 == 2) = false := beq_eq_false_iff_ne.mpr c61
     have c61b1 : (t150 != 2) = true := bne_iff_ne.mpr c61
     simp only [Option.some.injEq, Prod.mk.injEq] at H
     obtain ⟨rfl, rfl, rfl, rfl, rfl⟩ := H
     go_enter Try.func17, Try.ntmps17
     go_wp2_with (first | ((with_reducible refine gate_dst (N := 2) rfl ?_); refine box_event ?hg (N := 2) ?hd (cs := #[.int .i64 0, .float .f64 0, .string (⟨#[]⟩ : ByteArray)]) (t := 27) ?hr ?_; (case hd => rfl); (case hg => rfl); (case hr => first | (go_simp; done) | (go_simp; rfl)); intro gb149 hg w95 hbox hb; have BK149 := Aside0.mk (hbox); have GW149 := bZ HB hg; have GE149 := bZ HB hg; replace HB := bW HB hb; clear hb hbox hg) | ((with_reducible refine gate_callee (f := 36) rfl ?_); refine goesL_ (some 13) rfl rfl Try.func36 (by kernel_rfl) rfl #[.slice A0 l0.length c0] rfl (by (try simp only [List.map_toArray, List.map_cons, List.map_nil]); first | done | rfl | (simp only [List.length_drop, List.length_take]; rfl)) ?_; (with_reducible refine (num_Get.calls k _ _ l0 t150 t151 t152 _ ?side1 ?side2 A2.out).mono ?_); (case side1 => repeat (first | exact (Kd.C_below HR0.out HB.out) | (with_reducible refine Kd.C_alloc ?_ _) | (with_reducible refine Kd.C_drewN ?_ _) | (with_reducible refine Kd.C_drew ?_))); (case side2 => exact HC0.out); rintro e w' ⟨rfl, ⟨nd, rfl⟩⟩; refine ⟨_, rfl, ?_⟩; (try (rw [drewN_self w95]; generalize hq_ : World.drewN w95 _ = w95; have n0_ := bE BK149 hq_.symm; have n1_ := bH HB hq_.symm; clear BK149 HB hq_; have BK149 := n0_; have HB := n1_; clear n0_ n1_))) | ((with_reducible refine gate_dst (N := 8) rfl ?_); refine box_event ?hg (N := 8) ?hd (cs := #[.int .i64 0, .float .f64 0, .string (⟨#[]⟩ : ByteArray)]) (t := 27) ?hr ?_; (case hd => rfl); (case hg => rfl); (case hr => first | (go_simp; done) | (go_simp; rfl)); intro gb153 hg w96 hbox hb; have BK153 := Aside0.mk (hbox); have GW153 := bZ HB hg; have GE153 := bZ HB hg; have NB149_153 := bL BK149 hg; have NB153_149 := bG BK149 hg; replace BK149 := bB BK149 hb; replace HB := bW HB hb; clear hb hbox hg; have hnb97 := NB153_149.out; have hnc97 := NB149_153.out; obtain ⟨hcz98_0, hcz98_1, hcz98_2, hfz98_0, hfz98_1, hfz98_2⟩ := bf3 (w := w96) BK153; obtain ⟨hcz99_0, hcz99_1, hcz99_2, hfz99_0, hfz99_1, hfz99_2⟩ := bf3 (w := w96) BK149))
     refine bodyPost_ret (results_ctt rfl _ _ gb149 27 #[.int .i64 0, .float .f64 0, .string (⟨#[]⟩ : ByteArray)] (0, 0) _ rfl (bR BK149) Try.underlying27 rfl (by kernel_rfl)) rfl ?_
     exact ⟨by first | rfl | (simp [errW_none, errW_some] <;> rfl) | (simp [*, errW_none, errW_some] <;> rfl), by repeat (first | (with_reducible first | exact HB.out | apply below_alloc | apply pw_below_drewN | apply below_drew1 | refine below_set ?_ GE149.out | refine below_set ?_ GE153.out) | exact HB.out)⟩
 ·rw [if_neg c3] at H
  have c3b0 : (t152 == 0) = false := beq_eq_false_iff_ne.mpr c3
  have c3b1 : (t152 != 0) = true := bne_iff_ne.mpr c3
  simp only [Option.some.injEq, Prod.mk.injEq] at H
  obtain ⟨rfl, rfl, rfl, rfl, rfl⟩ := H
  go_enter Try.func17, Try.ntmps17
  go_wp2_with (first | ((with_reducible refine gate_dst (N := 2) rfl ?_); refine box_event ?hg (N := 2) ?hd (cs := #[.int .i64 0, .float .f64 0, .string (⟨#[]⟩ : ByteArray)]) (t := 27) ?hr ?_; (case hd => rfl); (case hg => rfl); (case hr => first | (go_simp; done) | (go_simp; rfl)); intro gb149 hg w100 hbox hb; have BK149 := Aside0.mk (hbox); have GW149 := bZ HB hg; have GE149 := bZ HB hg; replace HB := bW HB hb; clear hb hbox hg) | ((with_reducible refine gate_callee (f := 36) rfl ?_); refine goesL_ (some 13) rfl rfl Try.func36 (by kernel_rfl) rfl #[.slice A0 l0.length c0] rfl (by (try simp only [List.map_toArray, List.map_cons, List.map_nil]); first | done | rfl | (simp only [List.length_drop, List.length_take]; rfl)) ?_; (with_reducible refine (num_Get.calls k _ _ l0 t150 t151 t152 _ ?side1 ?side2 A2.out).mono ?_); (case side1 => repeat (first | exact (Kd.C_below HR0.out HB.out) | (with_reducible refine Kd.C_alloc ?_ _) | (with_reducible refine Kd.C_drewN ?_ _) | (with_reducible refine Kd.C_drew ?_))); (case side2 => exact HC0.out); rintro e w' ⟨rfl, ⟨nd, rfl⟩⟩; refine ⟨_, rfl, ?_⟩; (try (rw [drewN_self w100]; generalize hq_ : World.drewN w100 _ = w100; have n0_ := bE BK149 hq_.symm; have n1_ := bH HB hq_.symm; clear BK149 HB hq_; have BK149 := n0_; have HB := n1_; clear n0_ n1_)); obtain ⟨hcz101_0, hcz101_1, hcz101_2, hfz101_0, hfz101_1, hfz101_2⟩ := bf3 (w := w100) BK149))
  refine bodyPost_ret (results_ctt rfl _ _ gb149 27 #[.int .i64 0, .float .f64 0, .string (⟨#[]⟩ : ByteArray)] (0, 0) _ rfl (bR BK149) Try.underlying27 rfl (by kernel_rfl)) rfl ?_
  exact ⟨by first | rfl | (simp [errW_none, errW_some] <;> rfl) | (simp [*, errW_none, errW_some] <;> rfl), by repeat (first | (with_reducible first | exact HB.out | apply below_alloc | apply pw_below_drewN | apply below_drew1 | refine below_set ?_ GE149.out) | exact HB.out)⟩

/-! ### float_Same: function 40 -/
def float_Same.f (a0 : Nat) (a1 : Nat) : Option (Bool) := (float_place.f a0).bind fun t170 => ((float_place.f a1).bind fun t171 => (some (t170 == t171)))
set_option maxHeartbeats 8000000 in
set_option maxRecDepth 100000 in
theorem float_Same.calls (a0 : Nat) (a1 : Nat) (r : Bool) (w : World) (h : float_Same.f a0 a1 = some r) :
  Calls Try.prog 40 #[.float .f64 a0, .float .f64 a1] w fun e w' => e = .returned (.bool r) ∧ Drawn0 w w' := by
 have H : ((float_place.f a0).bind fun t170 => ((float_place.f a1).bind fun t171 => (some (t170 == t171)))) = some r := h
 clear h
 replace H := Option.bind_eq_some_iff.mp H
 obtain ⟨t170, A30, H⟩ := H
 replace H : ((float_place.f a1).bind fun t171 => (some (t170 == t171))) = some r := H
 have A3 := Aside0.mk A30
 clear A30
 replace H := Option.bind_eq_some_iff.mp H
 obtain ⟨t171, A40, H⟩ := H
 replace H : (some (t170 == t171)) = some r := H
 have A4 := Aside0.mk A40
 clear A40
 obtain rfl := Option.some.inj H
 go_enter Try.func40, Try.ntmps40
 go_wp2_with (first | ((with_reducible refine gate_callee (f := 45) rfl ?_); refine goesL_ (some 6) rfl rfl Try.func45 (by kernel_rfl) rfl #[.float .f64 a0] rfl (by (try simp only [List.map_toArray, List.map_cons, List.map_nil]); first | done | rfl | (simp only [List.length_drop, List.length_take]; rfl)) ?_; (with_reducible refine (float_place.calls a0 t170 _ A3.out).mono ?_); rintro e w' ⟨rfl, ⟨nd, rfl⟩⟩; refine ⟨_, rfl, ?_⟩) | ((with_reducible refine gate_callee (f := 45) rfl ?_); refine goesL_ (some 8) rfl rfl Try.func45 (by kernel_rfl) rfl #[.float .f64 a1] rfl (by (try simp only [List.map_toArray, List.map_cons, List.map_nil]); first | done | rfl | (simp only [List.length_drop, List.length_take]; rfl)) ?_; (with_reducible refine (float_place.calls a1 t171 _ A4.out).mono ?_); rintro e w' ⟨rfl, ⟨nd, rfl⟩⟩; refine ⟨_, rfl, ?_⟩))
 go_ret
 exact ⟨by first | rfl | (simp; done) | (simp [*]; done), by repeat (first | exact Drawn0.refl _ | apply Drawn0.step)⟩

/-! ### datum_Eq: function 20 -/
def datum_Eq.f (a0_0 : Int) (a0_1 : Nat) (a0_2 : ByteArray) (a1_0 : Int) (a1_1 : Nat) (a1_2 : ByteArray) : Option (Bool) := if a0_0 = a1_0 then (if a0_2.toList = a1_2.toList then ((float_Same.f a0_1 a1_1).bind fun t174 => (some t174)) else (some false)) else (some false)
set_option maxHeartbeats 8000000 in
set_option maxRecDepth 100000 in
theorem datum_Eq.calls (a0_0 : Int) (a0_1 : Nat) (a0_2 : ByteArray) (a1_0 : Int) (a1_1 : Nat) (a1_2 : ByteArray) (r : Bool) (w : World) (h : datum_Eq.f a0_0 a0_1 a0_2 a1_0 a1_1 a1_2 = some r) :
  Calls Try.prog 20 #[.agg #[.int .i64 a0_0, .float .f64 a0_1, .string a0_2], .agg #[.int .i64 a1_0, .float .f64 a1_1, .string a1_2]] w fun e w' => e = .returned (.bool r) ∧ Below w.heap.size w w' := by
 have hu27 := Try.underlying27
 have HB := Aside0.mk (Below.refl w.heap.size w)
 have H : (if a0_0 = a1_0 then (if a0_2.toList = a1_2.toList then ((float_Same.f a0_1 a1_1).bind fun t174 => (some t174)) else (some false)) else (some false)) = some r := h
 clear h
 by_cases c3 : a0_0 = a1_0
 ·rw [if_pos c3] at H
  have c3b0 : (a0_0 == a1_0) = true := beq_iff_eq.mpr c3
  have c3b1 : (a0_0 != a1_0) = false := bne_eq_false_iff_eq.mpr c3
  clear c3
  by_cases c4 : a0_2.toList = a1_2.toList
  ·rw [if_pos c4] at H
   have c4b0 : (a0_2.toList == a1_2.toList) = true := beq_iff_eq.mpr c4
   have c4b1 : (a0_2.toList != a1_2.toList) = false := bne_eq_false_iff_eq.mpr c4
   clear c4
   replace H := Option.bind_eq_some_iff.mp H
   obtain ⟨t174, A50, H⟩ := H
   replace H : (some t174) = some r := H
   have A5 := Aside0.mk A50
   clear A50
   obtain rfl := Option.some.inj H
   go_enter Try.func20, Try.ntmps20
   go_wp2_with (first | ((with_reducible refine gate_dst (N := 2) rfl ?_); refine box_event ?hg (N := 2) ?hd (cs := #[.int .i64 a0_0, .float .f64 a0_1, .string a0_2]) (t := 27) ?hr ?_; (case hd => rfl); (case hg => rfl); (case hr => first | (go_simp; done) | (go_simp; rfl)); intro gb172 hg w6 hbox hb; have BK172 := Aside0.mk (hbox); have GW172 := bZ HB hg; have GE172 := bZ HB hg; replace HB := bW HB hb; clear hb hbox hg) | ((with_reducible refine gate_dst (N := 3) rfl ?_); refine box_event ?hg (N := 3) ?hd (cs := #[.int .i64 a1_0, .float .f64 a1_1, .string a1_2]) (t := 27) ?hr ?_; (case hd => rfl); (case hg => rfl); (case hr => first | (go_simp; done) | (go_simp; rfl)); intro gb173 hg w7 hbox hb; have BK173 := Aside0.mk (hbox); have GW173 := bZ HB hg; have GE173 := bZ HB hg; have NB172_173 := bL BK172 hg; have NB173_172 := bG BK172 hg; replace BK172 := bB BK172 hb; replace HB := bW HB hb; clear hb hbox hg; have hnb8 := NB172_173.out; have hnc8 := NB173_172.out; obtain ⟨hcz9_0, hcz9_1, hcz9_2, hfz9_0, hfz9_1, hfz9_2⟩ := bf3 (w := w7) BK172; obtain ⟨hcz10_0, hcz10_1, hcz10_2, hfz10_0, hfz10_1, hfz10_2⟩ := bf3 (w := w7) BK173) | (go_at_call 40; (with_reducible refine (float_Same.calls a0_1 a1_1 t174 _ A5.out).mono ?_); rintro e w' ⟨rfl, ⟨nd, rfl⟩⟩))
   go_ret
   exact ⟨by first | rfl | (simp [errW_none, errW_some] <;> rfl) | (simp [*, errW_none, errW_some] <;> rfl), by repeat (first | (with_reducible first | exact HB.out | apply below_alloc | apply pw_below_drewN | apply below_drew1 | refine below_set ?_ GE172.out | refine below_set ?_ GE173.out) | exact HB.out)⟩
  ·rw [if_neg c4] at H
   have c4b0 : (a0_2.toList == a1_2.toList) = false := beq_eq_false_iff_ne.mpr c4
   have c4b1 : (a0_2.toList != a1_2.toList) = true := bne_iff_ne.mpr c4
   obtain rfl := Option.some.inj H
   go_enter Try.func20, Try.ntmps20
   go_wp2_with (first | ((with_reducible refine gate_dst (N := 2) rfl ?_); refine box_event ?hg (N := 2) ?hd (cs := #[.int .i64 a0_0, .float .f64 a0_1, .string a0_2]) (t := 27) ?hr ?_; (case hd => rfl); (case hg => rfl); (case hr => first | (go_simp; done) | (go_simp; rfl)); intro gb172 hg w11 hbox hb; have BK172 := Aside0.mk (hbox); have GW172 := bZ HB hg; have GE172 := bZ HB hg; replace HB := bW HB hb; clear hb hbox hg) | ((with_reducible refine gate_dst (N := 3) rfl ?_); refine box_event ?hg (N := 3) ?hd (cs := #[.int .i64 a1_0, .float .f64 a1_1, .string a1_2]) (t := 27) ?hr ?_; (case hd => rfl); (case hg => rfl); (case hr => first | (go_simp; done) | (go_simp; rfl)); intro gb173 hg w12 hbox hb; have BK173 := Aside0.mk (hbox); have GW173 := bZ HB hg; have GE173 := bZ HB hg; have NB172_173 := bL BK172 hg; have NB173_172 := bG BK172 hg; replace BK172 := bB BK172 hb; replace HB := bW HB hb; clear hb hbox hg; have hnb13 := NB172_173.out; have hnc13 := NB173_172.out; obtain ⟨hcz14_0, hcz14_1, hcz14_2, hfz14_0, hfz14_1, hfz14_2⟩ := bf3 (w := w12) BK172; obtain ⟨hcz15_0, hcz15_1, hcz15_2, hfz15_0, hfz15_1, hfz15_2⟩ := bf3 (w := w12) BK173))
   go_ret
   exact ⟨by first | rfl | (simp [errW_none, errW_some] <;> rfl) | (simp [*, errW_none, errW_some] <;> rfl), by repeat (first | (with_reducible first | exact HB.out | apply below_alloc | apply pw_below_drewN | apply below_drew1 | refine below_set ?_ GE172.out | refine below_set ?_ GE173.out) | exact HB.out)⟩
 ·rw [if_neg c3] at H
  have c3b0 : (a0_0 == a1_0) = false := beq_eq_false_iff_ne.mpr c3
  have c3b1 : (a0_0 != a1_0) = true := bne_iff_ne.mpr c3
  obtain rfl := Option.some.inj H
  go_enter Try.func20, Try.ntmps20
  go_wp2_with (first | ((with_reducible refine gate_dst (N := 2) rfl ?_); refine box_event ?hg (N := 2) ?hd (cs := #[.int .i64 a0_0, .float .f64 a0_1, .string a0_2]) (t := 27) ?hr ?_; (case hd => rfl); (case hg => rfl); (case hr => first | (go_simp; done) | (go_simp; rfl)); intro gb172 hg w16 hbox hb; have BK172 := Aside0.mk (hbox); have GW172 := bZ HB hg; have GE172 := bZ HB hg; replace HB := bW HB hb; clear hb hbox hg) | ((with_reducible refine gate_dst (N := 3) rfl ?_); refine box_event ?hg (N := 3) ?hd (cs := #[.int .i64 a1_0, .float .f64 a1_1, .string a1_2]) (t := 27) ?hr ?_; (case hd => rfl); (case hg => rfl); (case hr => first | (go_simp; done) | (go_simp; rfl)); intro gb173 hg w17 hbox hb; have BK173 := Aside0.mk (hbox); have GW173 := bZ HB hg; have GE173 := bZ HB hg; have NB172_173 := bL BK172 hg; have NB173_172 := bG BK172 hg; replace BK172 := bB BK172 hb; replace HB := bW HB hb; clear hb hbox hg; have hnb18 := NB172_173.out; have hnc18 := NB173_172.out; obtain ⟨hcz19_0, hcz19_1, hcz19_2, hfz19_0, hfz19_1, hfz19_2⟩ := bf3 (w := w17) BK172; obtain ⟨hcz20_0, hcz20_1, hcz20_2, hfz20_0, hfz20_1, hfz20_2⟩ := bf3 (w := w17) BK173))
  go_ret
  exact ⟨by first | rfl | (simp [errW_none, errW_some] <;> rfl) | (simp [*, errW_none, errW_some] <;> rfl), by repeat (first | (with_reducible first | exact HB.out | apply below_alloc | apply pw_below_drewN | apply below_drew1 | refine below_set ?_ GE172.out | refine below_set ?_ GE173.out) | exact HB.out)⟩

/-! ### engrosslaw4_begun: function 10 -/
def engrosslaw4_begun.f (k : Nat)  : Option (Bool) := (datum_Put.f k ([] : List Int) 2 0 (⟨#[97]⟩ : ByteArray)).bind fun t177 => (if t177.length < 140737488355328 then ((datum_Get.f k (t177 ++ [7])).bind fun bt183 => ((datum_May.f 1 4609434218613702656 (⟨#[]⟩ : ByteArray)).bind fun t189 => (if t189 = true then ((datum_May.f 0 0 (⟨#[]⟩ : ByteArray)).bind fun t190 => (if t190 = true then ((datum_May.f 3 0 (⟨#[]⟩ : ByteArray)).bind fun t191 => (if t191 = true then (none) else ((datum_May.f 2 4607182418800017408 (⟨#[]⟩ : ByteArray)).bind fun t192 => (if t192 = true then (none) else ((datum_Eq.f 1 4609434218613702656 (⟨#[]⟩ : ByteArray) 1 4609434218613702656 (⟨#[]⟩ : ByteArray)).bind fun t193 => (if t193 = true then ((datum_Eq.f 1 4609434218613702656 (⟨#[]⟩ : ByteArray) 2 0 (⟨#[97]⟩ : ByteArray)).bind fun t194 => (if t194 = true then (none) else (if bt183.2.2.2.2 = 0 then (if bt183.2.2.1.toList = ([97] : List UInt8) then (some (bt183.2.2.2.1 == 3)) else (none)) else (none)))) else (none))))))) else (none))) else (none)))) else (none))
theorem engrosslaw4_begun.mono : ∀ k, LeO (engrosslaw4_begun.f k ) (engrosslaw4_begun.f (k + 1) ) := by
 intro  k
 unfold engrosslaw4_begun.f
 repeat' first
   | (with_reducible exact datum_Get.mono _ _)
   | (with_reducible exact datum_Put.mono _ _ _ _ _)
   | (with_reducible exact LeO.refl _)
   | (with_reducible exact LeO.none _)
   | (with_reducible refine LeO.ite ?_ ?_)
   | (with_reducible refine LeO.bind ?_ (fun _ => ?_))
   | exact datum_Get.mono _ _
   | exact datum_Put.mono _ _ _ _ _
   | exact LeO.none _
   | refine LeO.ite ?_ ?_
   | refine LeO.bind ?_ (fun _ => ?_)
set_option maxHeartbeats 8000000 in
set_option maxRecDepth 100000 in
theorem engrosslaw4_begun.calls (k : Nat)  (r : Bool) (w : World) (h : engrosslaw4_begun.f k  = some r) :
  Calls Try.prog 10 #[] w fun e w' => e = .returned (.bool r) ∧ Below w.heap.size w w' := by
 have hu27 := Try.underlying27
 have HB := Aside0.mk (Below.refl w.heap.size w)
 have H : ((datum_Put.f k ([] : List Int) 2 0 (⟨#[97]⟩ : ByteArray)).bind fun t177 => (if t177.length < 140737488355328 then ((datum_Get.f k (t177 ++ [7])).bind fun bt183 => ((datum_May.f 1 4609434218613702656 (⟨#[]⟩ : ByteArray)).bind fun t189 => (if t189 = true then ((datum_May.f 0 0 (⟨#[]⟩ : ByteArray)).bind fun t190 => (if t190 = true then ((datum_May.f 3 0 (⟨#[]⟩ : ByteArray)).bind fun t191 => (if t191 = true then (none) else ((datum_May.f 2 4607182418800017408 (⟨#[]⟩ : ByteArray)).bind fun t192 => (if t192 = true then (none) else ((datum_Eq.f 1 4609434218613702656 (⟨#[]⟩ : ByteArray) 1 4609434218613702656 (⟨#[]⟩ : ByteArray)).bind fun t193 => (if t193 = true then ((datum_Eq.f 1 4609434218613702656 (⟨#[]⟩ : ByteArray) 2 0 (⟨#[97]⟩ : ByteArray)).bind fun t194 => (if t194 = true then (none) else (if bt183.2.2.2.2 = 0 then (if bt183.2.2.1.toList = ([97] : List UInt8) then (some (bt183.2.2.2.1 == 3)) else (none)) else (none)))) else (none))))))) else (none))) else (none)))) else (none))) = some r := h
 clear h
 replace H := Option.bind_eq_some_iff.mp H
 obtain ⟨t177, A10, H⟩ := H
 replace H : (if t177.length < 140737488355328 then ((datum_Get.f k (t177 ++ [7])).bind fun bt183 => ((datum_May.f 1 4609434218613702656 (⟨#[]⟩ : ByteArray)).bind fun t189 => (if t189 = true then ((datum_May.f 0 0 (⟨#[]⟩ : ByteArray)).bind fun t190 => (if t190 = true then ((datum_May.f 3 0 (⟨#[]⟩ : ByteArray)).bind fun t191 => (if t191 = true then (none) else ((datum_May.f 2 4607182418800017408 (⟨#[]⟩ : ByteArray)).bind fun t192 => (if t192 = true then (none) else ((datum_Eq.f 1 4609434218613702656 (⟨#[]⟩ : ByteArray) 1 4609434218613702656 (⟨#[]⟩ : ByteArray)).bind fun t193 => (if t193 = true then ((datum_Eq.f 1 4609434218613702656 (⟨#[]⟩ : ByteArray) 2 0 (⟨#[97]⟩ : ByteArray)).bind fun t194 => (if t194 = true then (none) else (if bt183.2.2.2.2 = 0 then (if bt183.2.2.1.toList = ([97] : List UInt8) then (some (bt183.2.2.2.1 == 3)) else (none)) else (none)))) else (none))))))) else (none))) else (none)))) else (none)) = some r := H
 have A1 := Aside0.mk A10
 clear A10
 by_cases c2 : t177.length < 140737488355328
 ·rw [if_pos c2] at H
  have LMc2 := Aside0.mk c2
  clear c2
  obtain ⟨y180, hy180⟩ : ∃ y_ : List Int, y_ = (t177 ++ [7]) := ⟨_, rfl⟩
  replace H : ((datum_Get.f k y180).bind fun bt183 => ((datum_May.f 1 4609434218613702656 (⟨#[]⟩ : ByteArray)).bind fun t189 => (if t189 = true then ((datum_May.f 0 0 (⟨#[]⟩ : ByteArray)).bind fun t190 => (if t190 = true then ((datum_May.f 3 0 (⟨#[]⟩ : ByteArray)).bind fun t191 => (if t191 = true then (none) else ((datum_May.f 2 4607182418800017408 (⟨#[]⟩ : ByteArray)).bind fun t192 => (if t192 = true then (none) else ((datum_Eq.f 1 4609434218613702656 (⟨#[]⟩ : ByteArray) 1 4609434218613702656 (⟨#[]⟩ : ByteArray)).bind fun t193 => (if t193 = true then ((datum_Eq.f 1 4609434218613702656 (⟨#[]⟩ : ByteArray) 2 0 (⟨#[97]⟩ : ByteArray)).bind fun t194 => (if t194 = true then (none) else (if bt183.2.2.2.2 = 0 then (if bt183.2.2.1.toList = ([97] : List UInt8) then (some (bt183.2.2.2.1 == 3)) else (none)) else (none)))) else (none))))))) else (none))) else (none)))) = some r := by first | (rw [hy180]; with_reducible exact H) | (have H2_ := (Option.bind_some _ _).symm.trans H; rw [hy180]; with_reducible exact H2_) | (have H2_ := (Option.bind_some _ _).symm.trans H; with_reducible exact H2_) | with_reducible exact H | (rw [hy180]; exact H) | exact H
  have Ny180 := Aside0.mk hy180
  clear hy180
  replace H := Option.bind_eq_some_iff.mp H
  obtain ⟨⟨t183, t184, t185, t186, t187⟩, A30, H⟩ := H
  replace H : ((datum_May.f 1 4609434218613702656 (⟨#[]⟩ : ByteArray)).bind fun t189 => (if t189 = true then ((datum_May.f 0 0 (⟨#[]⟩ : ByteArray)).bind fun t190 => (if t190 = true then ((datum_May.f 3 0 (⟨#[]⟩ : ByteArray)).bind fun t191 => (if t191 = true then (none) else ((datum_May.f 2 4607182418800017408 (⟨#[]⟩ : ByteArray)).bind fun t192 => (if t192 = true then (none) else ((datum_Eq.f 1 4609434218613702656 (⟨#[]⟩ : ByteArray) 1 4609434218613702656 (⟨#[]⟩ : ByteArray)).bind fun t193 => (if t193 = true then ((datum_Eq.f 1 4609434218613702656 (⟨#[]⟩ : ByteArray) 2 0 (⟨#[97]⟩ : ByteArray)).bind fun t194 => (if t194 = true then (none) else (if t187 = 0 then (if t185.toList = ([97] : List UInt8) then (some (t186 == 3)) else (none)) else (none)))) else (none))))))) else (none))) else (none))) = some r := H
  have A3 := Aside0.mk A30
  clear A30
  replace H := Option.bind_eq_some_iff.mp H
  obtain ⟨t189, A40, H⟩ := H
  replace H : (if t189 = true then ((datum_May.f 0 0 (⟨#[]⟩ : ByteArray)).bind fun t190 => (if t190 = true then ((datum_May.f 3 0 (⟨#[]⟩ : ByteArray)).bind fun t191 => (if t191 = true then (none) else ((datum_May.f 2 4607182418800017408 (⟨#[]⟩ : ByteArray)).bind fun t192 => (if t192 = true then (none) else ((datum_Eq.f 1 4609434218613702656 (⟨#[]⟩ : ByteArray) 1 4609434218613702656 (⟨#[]⟩ : ByteArray)).bind fun t193 => (if t193 = true then ((datum_Eq.f 1 4609434218613702656 (⟨#[]⟩ : ByteArray) 2 0 (⟨#[97]⟩ : ByteArray)).bind fun t194 => (if t194 = true then (none) else (if t187 = 0 then (if t185.toList = ([97] : List UInt8) then (some (t186 == 3)) else (none)) else (none)))) else (none))))))) else (none))) else (none)) = some r := H
  have A4 := Aside0.mk A40
  clear A40
  by_cases c5 : t189 = true
  ·subst c5
   have H1 : ((datum_May.f 0 0 (⟨#[]⟩ : ByteArray)).bind fun t190 => (if t190 = true then ((datum_May.f 3 0 (⟨#[]⟩ : ByteArray)).bind fun t191 => (if t191 = true then (none) else ((datum_May.f 2 4607182418800017408 (⟨#[]⟩ : ByteArray)).bind fun t192 => (if t192 = true then (none) else ((datum_Eq.f 1 4609434218613702656 (⟨#[]⟩ : ByteArray) 1 4609434218613702656 (⟨#[]⟩ : ByteArray)).bind fun t193 => (if t193 = true then ((datum_Eq.f 1 4609434218613702656 (⟨#[]⟩ : ByteArray) 2 0 (⟨#[97]⟩ : ByteArray)).bind fun t194 => (if t194 = true then (none) else (if t187 = 0 then (if t185.toList = ([97] : List UInt8) then (some (t186 == 3)) else (none)) else (none)))) else (none))))))) else (none))) = some r := by rw [if_pos rfl] at H; exact H
   clear H
   have H := H1
   clear H1
   replace H := Option.bind_eq_some_iff.mp H
   obtain ⟨t190, A60, H⟩ := H
   replace H : (if t190 = true then ((datum_May.f 3 0 (⟨#[]⟩ : ByteArray)).bind fun t191 => (if t191 = true then (none) else ((datum_May.f 2 4607182418800017408 (⟨#[]⟩ : ByteArray)).bind fun t192 => (if t192 = true then (none) else ((datum_Eq.f 1 4609434218613702656 (⟨#[]⟩ : ByteArray) 1 4609434218613702656 (⟨#[]⟩ : ByteArray)).bind fun t193 => (if t193 = true then ((datum_Eq.f 1 4609434218613702656 (⟨#[]⟩ : ByteArray) 2 0 (⟨#[97]⟩ : ByteArray)).bind fun t194 => (if t194 = true then (none) else (if t187 = 0 then (if t185.toList = ([97] : List UInt8) then (some (t186 == 3)) else (none)) else (none)))) else (none))))))) else (none)) = some r := H
   have A6 := Aside0.mk A60
   clear A60
   by_cases c7 : t190 = true
   ·subst c7
    have H1 : ((datum_May.f 3 0 (⟨#[]⟩ : ByteArray)).bind fun t191 => (if t191 = true then (none) else ((datum_May.f 2 4607182418800017408 (⟨#[]⟩ : ByteArray)).bind fun t192 => (if t192 = true then (none) else ((datum_Eq.f 1 4609434218613702656 (⟨#[]⟩ : ByteArray) 1 4609434218613702656 (⟨#[]⟩ : ByteArray)).bind fun t193 => (if t193 = true then ((datum_Eq.f 1 4609434218613702656 (⟨#[]⟩ : ByteArray) 2 0 (⟨#[97]⟩ : ByteArray)).bind fun t194 => (if t194 = true then (none) else (if t187 = 0 then (if t185.toList = ([97] : List UInt8) then (some (t186 == 3)) else (none)) else (none)))) else (none))))))) = some r := by rw [if_pos rfl] at H; exact H
    clear H
    have H := H1
    clear H1
    replace H := Option.bind_eq_some_iff.mp H
    obtain ⟨t191, A80, H⟩ := H
    replace H : (if t191 = true then (none) else ((datum_May.f 2 4607182418800017408 (⟨#[]⟩ : ByteArray)).bind fun t192 => (if t192 = true then (none) else ((datum_Eq.f 1 4609434218613702656 (⟨#[]⟩ : ByteArray) 1 4609434218613702656 (⟨#[]⟩ : ByteArray)).bind fun t193 => (if t193 = true then ((datum_Eq.f 1 4609434218613702656 (⟨#[]⟩ : ByteArray) 2 0 (⟨#[97]⟩ : ByteArray)).bind fun t194 => (if t194 = true then (none) else (if t187 = 0 then (if t185.toList = ([97] : List UInt8) then (some (t186 == 3)) else (none)) else (none)))) else (none)))))) = some r := H
    have A8 := Aside0.mk A80
    clear A80
    by_cases c9 : t191 = true
    ·subst c9
     have H1 : (none) = some r := by rw [if_pos rfl] at H; exact H
     clear H
     have H := H1
     clear H1
     exact absurd H (by simp)
    ·replace c9 := Bool.eq_false_iff.mpr c9
     subst c9
     have H1 : ((datum_May.f 2 4607182418800017408 (⟨#[]⟩ : ByteArray)).bind fun t192 => (if t192 = true then (none) else ((datum_Eq.f 1 4609434218613702656 (⟨#[]⟩ : ByteArray) 1 4609434218613702656 (⟨#[]⟩ : ByteArray)).bind fun t193 => (if t193 = true then ((datum_Eq.f 1 4609434218613702656 (⟨#[]⟩ : ByteArray) 2 0 (⟨#[97]⟩ : ByteArray)).bind fun t194 => (if t194 = true then (none) else (if t187 = 0 then (if t185.toList = ([97] : List UInt8) then (some (t186 == 3)) else (none)) else (none)))) else (none))))) = some r := by rw [if_neg (show ¬ (false = true) by decide)] at H; exact H
     clear H
     have H := H1
     clear H1
     replace H := Option.bind_eq_some_iff.mp H
     obtain ⟨t192, A100, H⟩ := H
     replace H : (if t192 = true then (none) else ((datum_Eq.f 1 4609434218613702656 (⟨#[]⟩ : ByteArray) 1 4609434218613702656 (⟨#[]⟩ : ByteArray)).bind fun t193 => (if t193 = true then ((datum_Eq.f 1 4609434218613702656 (⟨#[]⟩ : ByteArray) 2 0 (⟨#[97]⟩ : ByteArray)).bind fun t194 => (if t194 = true then (none) else (if t187 = 0 then (if t185.toList = ([97] : List UInt8) then (some (t186 == 3)) else (none)) else (none)))) else (none)))) = some r := H
     have A10 := Aside0.mk A100
     clear A100
     by_cases c11 : t192 = true
     ·subst c11
      have H1 : (none) = some r := by rw [if_pos rfl] at H; exact H
      clear H
      have H := H1
      clear H1
      exact absurd H (by simp)
     ·replace c11 := Bool.eq_false_iff.mpr c11
      subst c11
      have H1 : ((datum_Eq.f 1 4609434218613702656 (⟨#[]⟩ : ByteArray) 1 4609434218613702656 (⟨#[]⟩ : ByteArray)).bind fun t193 => (if t193 = true then ((datum_Eq.f 1 4609434218613702656 (⟨#[]⟩ : ByteArray) 2 0 (⟨#[97]⟩ : ByteArray)).bind fun t194 => (if t194 = true then (none) else (if t187 = 0 then (if t185.toList = ([97] : List UInt8) then (some (t186 == 3)) else (none)) else (none)))) else (none))) = some r := by rw [if_neg (show ¬ (false = true) by decide)] at H; exact H
      clear H
      have H := H1
      clear H1
      replace H := Option.bind_eq_some_iff.mp H
      obtain ⟨t193, A120, H⟩ := H
      replace H : (if t193 = true then ((datum_Eq.f 1 4609434218613702656 (⟨#[]⟩ : ByteArray) 2 0 (⟨#[97]⟩ : ByteArray)).bind fun t194 => (if t194 = true then (none) else (if t187 = 0 then (if t185.toList = ([97] : List UInt8) then (some (t186 == 3)) else (none)) else (none)))) else (none)) = some r := H
      have A12 := Aside0.mk A120
      clear A120
      by_cases c13 : t193 = true
      ·subst c13
       have H1 : ((datum_Eq.f 1 4609434218613702656 (⟨#[]⟩ : ByteArray) 2 0 (⟨#[97]⟩ : ByteArray)).bind fun t194 => (if t194 = true then (none) else (if t187 = 0 then (if t185.toList = ([97] : List UInt8) then (some (t186 == 3)) else (none)) else (none)))) = some r := by rw [if_pos rfl] at H; exact H
       clear H
       have H := H1
       clear H1
       replace H := Option.bind_eq_some_iff.mp H
       obtain ⟨t194, A140, H⟩ := H
       replace H : (if t194 = true then (none) else (if t187 = 0 then (if t185.toList = ([97] : List UInt8) then (some (t186 == 3)) else (none)) else (none))) = some r := H
       have A14 := Aside0.mk A140
       clear A140
       by_cases c15 : t194 = true
       ·subst c15
        have H1 : (none) = some r := by rw [if_pos rfl] at H; exact H
        clear H
        have H := H1
        clear H1
        exact absurd H (by simp)
       ·replace c15 := Bool.eq_false_iff.mpr c15
        subst c15
        have H1 : (if t187 = 0 then (if t185.toList = ([97] : List UInt8) then (some (t186 == 3)) else (none)) else (none)) = some r := by rw [if_neg (show ¬ (false = true) by decide)] at H; exact H
        clear H
        have H := H1
        clear H1
        by_cases c16 : t187 = 0
        ·rw [if_pos c16] at H
         have c16b0 : (t187 == 0) = true := beq_iff_eq.mpr c16
         have c16b1 : (t187 != 0) = false := bne_eq_false_iff_eq.mpr c16
         clear c16
         by_cases c17 : t185.toList = ([97] : List UInt8)
         ·rw [if_pos c17] at H
          have c17b0 : (t185.toList == ([97] : List UInt8)) = true := beq_iff_eq.mpr c17
          have c17b1 : (t185.toList != ([97] : List UInt8)) = false := bne_eq_false_iff_eq.mpr c17
          clear c17
          obtain rfl := Option.some.inj H
          go_enter Try.func10, Try.ntmps10
          go_wp2_with (first | ((with_reducible refine gate_dst (N := 1) rfl ?_); refine box_event ?hg (N := 1) ?hd (cs := #[.int .i64 0, .float .f64 0, .string (⟨#[]⟩ : ByteArray)]) (t := 27) ?hr ?_; (case hd => rfl); (case hg => rfl); (case hr => first | (go_simp; done) | (go_simp; rfl)); intro gb175 hg w18 hbox hb; have BK175 := Aside0.mk (hbox); have GW175 := bZ HB hg; have GE175 := bZ HB hg; replace HB := bW HB hb; clear hb hbox hg) | ((with_reducible refine gate_dst (N := 2) rfl ?_); refine box_event ?hg (N := 2) ?hd (cs := #[.int .i64 0, .float .f64 0, .string (⟨#[]⟩ : ByteArray)]) (t := 27) ?hr ?_; (case hd => rfl); (case hg => rfl); (case hr => first | (go_simp; done) | (go_simp; rfl)); intro gb176 hg w19 hbox hb; have BK176 := Aside0.mk (hbox); have GW176 := bZ HB hg; have GE176 := bZ HB hg; have NB175_176 := bL BK175 hg; have NB176_175 := bG BK175 hg; replace BK175 := bB BK175 hb; replace HB := bW HB hb; clear hb hbox hg; have hnb20 := NB175_176.out; have hnc20 := NB176_175.out; obtain ⟨hcz21_0, hcz21_1, hcz21_2, hfz21_0, hfz21_1, hfz21_2⟩ := bf3 (w := w19) BK175) | ((with_reducible refine gate_store (t := 27) (p := 1) rfl ?_); refine store_event (t := 27) (p := 1) (v := ?vo_w22) (w1 := (((w19.setCell ⟨gb175, 0, none⟩ (.int .i64 1)).setCell ⟨gb175, 1, none⟩ (.float .f64 4609434218613702656)).setCell ⟨gb175, 2, none⟩ (.string (⟨#[]⟩ : ByteArray)))) ?hg ?ho ?hn ?hr ?_; (case ho => rfl); (case hg => rfl); (case hn => rfl); (case hr => first | (go_simp; done) | (go_simp; rfl)); intro w22 hw; replace BK175 : Aside0 (w22.heap[gb175]? = some (.cells #[.int .i64 1, .float .f64 4609434218613702656, .string (⟨#[]⟩ : ByteArray)] 27 (0, 0))) := bP BK175 hw; replace BK176 := bE BK176 hw; replace HB := bH HB hw; clear hw; obtain ⟨hcz23_0, hcz23_1, hcz23_2, hfz23_0, hfz23_1, hfz23_2⟩ := bf3 (w := w22) BK176) | ((with_reducible refine gate_store (t := 27) (p := 2) rfl ?_); refine store_event (t := 27) (p := 2) (v := ?vo_w24) (w1 := (((w22.setCell ⟨gb176, 0, none⟩ (.int .i64 2)).setCell ⟨gb176, 1, none⟩ (.float .f64 0)).setCell ⟨gb176, 2, none⟩ (.string (⟨#[97]⟩ : ByteArray)))) ?hg ?ho ?hn ?hr ?_; (case ho => rfl); (case hg => rfl); (case hn => rfl); (case hr => first | (go_simp; done) | (go_simp; rfl)); intro w24 hw; replace BK175 := bE BK175 hw; replace BK176 : Aside0 (w24.heap[gb176]? = some (.cells #[.int .i64 2, .float .f64 0, .string (⟨#[97]⟩ : ByteArray)] 27 (0, 0))) := bP BK176 hw; replace HB := bH HB hw; clear hw; obtain ⟨hcz25_0, hcz25_1, hcz25_2, hfz25_0, hfz25_1, hfz25_2⟩ := bf3 (w := w24) BK176) | ((with_reducible refine gate_callee (f := 15) rfl ?_); refine goesL_ (some 10) rfl rfl Try.func15 (by kernel_rfl) rfl #[.slice none 0 0, .agg #[.int .i64 2, .float .f64 0, .string (⟨#[97]⟩ : ByteArray)]] rfl (by (try simp only [List.map_toArray, List.map_cons, List.map_nil]); first | done | rfl | (simp only [List.length_drop, List.length_take]; rfl)) ?_; (with_reducible refine (datum_Put.calls k (fun k_ => some k_ = (.slice none 0 0 : Value).ownBlock) (.slice none 0 0) ([] : List Int) 2 0 (⟨#[97]⟩ : ByteArray) t177 w _ ?side1 ?side2 A1.out).mono ?_); (case side1 => repeat (first | (with_reducible first | exact HB.out | apply below_alloc | apply pw_below_drewN | apply below_drew1 | refine below_set ?_ GE175.out | refine below_set ?_ GE176.out) | exact HB.out)); (case side2 => exact Kd.R_nil _ _ _ _ _); rintro e w26 ⟨v178, rfl, ho0, hb, hkp⟩; refine ⟨_, rfl, ?_⟩; have HO179 := Aside0.mk (Kd.R_mono (ok' := fun k_ => True) ho0 (fun k_ hk_ => trivial)); replace BK175 := Aside0.mk (blk_kept (bQ BK175) hkp (fun hs_ => (fun e_ => by simp [Value.ownBlock] at e_) hs_)); replace BK176 := Aside0.mk (blk_kept (bQ BK176) hkp (fun hs_ => (fun e_ => by simp [Value.ownBlock] at e_) hs_)); replace HB := Aside0.mk (hb); (try clear hb); (try clear hkp); (try clear ho0)) | ((with_reducible refine gate_builtin (b := .append) (xs := #[.tmp 10, .tmp 11]) rfl ?_); at_builtin; refine Kd.R_append (Kd.int .u8) (w0 := w) w.heap.size rfl (.tmp 10) (.tmp 11) 23 5 (.int .u8 0) 1 rfl Try.underlying23 info5 rfl (by decide) (by omega) v178 t177 7 [.int .u8 7] (fun _ => True) (fun _ => False) rfl rfl ?aP (fun _ hk => hk.elim) ?aF ?aO ?aB ?aS ?aL ?_; (case aP => exact rfl); (case aB => exact (bC HB)); (case aF => exact (fun _ _ => trivial)); (case aO => exact (by (with_reducible repeat (first | apply Kd.R_alloc | apply Kd.R_drewN | apply Kd.R_drew)); exact HO179.out)); (case aS => exact (below_size (bC HB))); (case aL => have := LMc2.out; omega); intro v181 w27 ho hb hg hat; rw [← Ny180.out] at ho; have HO182 := Aside0.mk (ho); replace BK175 := Aside0.mk (blk_grown (bQ BK175) hg (Kd.R_ne HO179.out BK175.out (by decide))); replace BK176 := Aside0.mk (blk_grown (bQ BK176) hg (Kd.R_ne HO179.out BK176.out (by decide))); replace HB := Aside0.mk (hb); clear HO179; clear ho hb hg hat; obtain ⟨Ao28, co28, eo28⟩ := Kd.R_slice HO182.out; subst eo28) | ((with_reducible refine gate_callee (f := 17) rfl ?_); refine goesL_ (some 13) rfl rfl Try.func17 (by kernel_rfl) rfl #[.slice Ao28 y180.length co28] rfl (by (try simp only [List.map_toArray, List.map_cons, List.map_nil]); first | done | rfl | (simp only [List.length_drop, List.length_take]; rfl)) ?_; (with_reducible refine (datum_Get.calls k _ _ y180 t183 t184 t185 t186 t187 _ ?side1 ?side2 A3.out).mono ?_); (case side1 => repeat (first | exact (Kd.R_reads' HO182.out).2.2 | (with_reducible refine Kd.C_alloc ?_ _) | (with_reducible refine Kd.C_drewN ?_ _) | (with_reducible refine Kd.C_drew ?_))); (case side2 => exact (Kd.R_reads' HO182.out).2.1); rintro e w29 ⟨rfl, hb⟩; refine ⟨_, rfl, ?_⟩; replace HO182 := Aside0.mk (Kd.R_below (by (with_reducible repeat (first | apply Kd.R_alloc | apply Kd.R_drewN | apply Kd.R_drew)); exact HO182.out) hb); replace BK175 := bB BK175 hb; replace BK176 := bB BK176 hb; replace HB := bW HB hb; (try clear hb); (try clear hb2); (try clear hk); (try clear hi)) | ((with_reducible refine gate_dst (N := 3) rfl ?_); refine box_event ?hg (N := 3) ?hd (cs := #[.int .i64 0, .float .f64 0, .string (⟨#[]⟩ : ByteArray)]) (t := 27) ?hr ?_; (case hd => rfl); (case hg => rfl); (case hr => first | (go_simp; done) | (go_simp; rfl)); intro gb188 hg w30 hbox hb; have BK188 := Aside0.mk (hbox); have GW188 := bZ HB hg; have GE188 := bZ HB hg; have NB175_188 := bL BK175 hg; have NB188_175 := bG BK175 hg; have NB176_188 := bL BK176 hg; have NB188_176 := bG BK176 hg; replace HO182 := Aside0.mk (Kd.R_below (by (with_reducible repeat (first | apply Kd.R_alloc | apply Kd.R_drewN | apply Kd.R_drew)); exact HO182.out) hb); replace BK175 := bB BK175 hb; replace BK176 := bB BK176 hb; replace HB := bW HB hb; clear hb hbox hg; have hnb31 := NB188_175.out; have hnc31 := NB175_188.out; have hnb32 := NB188_176.out; have hnc32 := NB176_188.out; obtain ⟨hcz33_0, hcz33_1, hcz33_2, hfz33_0, hfz33_1, hfz33_2⟩ := bf3 (w := w30) BK188; obtain ⟨hcz34_0, hcz34_1, hcz34_2, hfz34_0, hfz34_1, hfz34_2⟩ := bf3 (w := w30) BK175) | ((with_reducible refine gate_callee (f := 13) rfl ?_); refine goesL_ (some 18) rfl rfl Try.func13 (by kernel_rfl) rfl #[.agg #[.int .i64 1, .float .f64 4609434218613702656, .string (⟨#[]⟩ : ByteArray)]] rfl (by (try simp only [List.map_toArray, List.map_cons, List.map_nil]); first | done | rfl | (simp only [List.length_drop, List.length_take]; rfl)) ?_; (with_reducible refine (datum_May.calls 1 4609434218613702656 (⟨#[]⟩ : ByteArray) true _ A4.out).mono ?_); rintro e w35 ⟨rfl, hb⟩; refine ⟨_, rfl, ?_⟩; replace HO182 := Aside0.mk (Kd.R_below (by (with_reducible repeat (first | apply Kd.R_alloc | apply Kd.R_drewN | apply Kd.R_drew)); exact (Kd.R_mono (Kd.R_far (p := ⟨gb188, 2, none⟩) (Kd.R_far (p := ⟨gb188, 1, none⟩) (Kd.R_far (p := ⟨gb188, 0, none⟩) (Kd.R_types HO182.out BK188.out (by decide)) (fun _ hk => hk.2) (.int .i64 t183)) (fun _ hk => hk.2) (.float .f64 t184)) (fun _ hk => hk.2) (.string t185)) (fun _ h_ => h_.1))) hb); replace BK175 := bB BK175 hb; replace BK176 := bB BK176 hb; replace BK188 := Aside0.mk (blk_below (g := gb188) (o := .cells #[.int .i64 t183, .float .f64 t184, .string t185] 27 (0, 0)) (bR BK188) hb); replace HB := bW HB hb; (try clear hb); (try clear hb2); (try clear hk); (try clear hi)) | (go_at_call 13; (with_reducible refine (datum_May.calls 0 0 (⟨#[]⟩ : ByteArray) true _ A6.out).mono ?_); rintro e w36 ⟨rfl, hb⟩; replace HO182 := Aside0.mk (Kd.R_below (by (with_reducible repeat (first | apply Kd.R_alloc | apply Kd.R_drewN | apply Kd.R_drew)); exact HO182.out) hb); replace BK175 := bB BK175 hb; replace BK176 := bB BK176 hb; replace BK188 := bB BK188 hb; replace HB := bW HB hb; (try clear hb); (try clear hb2); (try clear hk); (try clear hi)) | (go_at_call 13; (with_reducible refine (datum_May.calls 3 0 (⟨#[]⟩ : ByteArray) false _ A8.out).mono ?_); rintro e w37 ⟨rfl, hb⟩; replace HO182 := Aside0.mk (Kd.R_below (by (with_reducible repeat (first | apply Kd.R_alloc | apply Kd.R_drewN | apply Kd.R_drew)); exact HO182.out) hb); replace BK175 := bB BK175 hb; replace BK176 := bB BK176 hb; replace BK188 := bB BK188 hb; replace HB := bW HB hb; (try clear hb); (try clear hb2); (try clear hk); (try clear hi)) | (go_at_call 13; (with_reducible refine (datum_May.calls 2 4607182418800017408 (⟨#[]⟩ : ByteArray) false _ A10.out).mono ?_); rintro e w38 ⟨rfl, hb⟩; replace HO182 := Aside0.mk (Kd.R_below (by (with_reducible repeat (first | apply Kd.R_alloc | apply Kd.R_drewN | apply Kd.R_drew)); exact HO182.out) hb); replace BK175 := bB BK175 hb; replace BK176 := bB BK176 hb; replace BK188 := bB BK188 hb; replace HB := bW HB hb; (try clear hb); (try clear hb2); (try clear hk); (try clear hi); obtain ⟨hcz39_0, hcz39_1, hcz39_2, hfz39_0, hfz39_1, hfz39_2⟩ := bf3 (w := w38) BK175) | (go_at_call 20; (with_reducible refine (datum_Eq.calls 1 4609434218613702656 (⟨#[]⟩ : ByteArray) 1 4609434218613702656 (⟨#[]⟩ : ByteArray) true _ A12.out).mono ?_); rintro e w40 ⟨rfl, hb⟩; replace HO182 := Aside0.mk (Kd.R_below (by (with_reducible repeat (first | apply Kd.R_alloc | apply Kd.R_drewN | apply Kd.R_drew)); exact HO182.out) hb); replace BK175 := bB BK175 hb; replace BK176 := bB BK176 hb; replace BK188 := bB BK188 hb; replace HB := bW HB hb; (try clear hb); (try clear hb2); (try clear hk); (try clear hi); obtain ⟨hcz41_0, hcz41_1, hcz41_2, hfz41_0, hfz41_1, hfz41_2⟩ := bf3 (w := w40) BK175; obtain ⟨hcz42_0, hcz42_1, hcz42_2, hfz42_0, hfz42_1, hfz42_2⟩ := bf3 (w := w40) BK176) | (go_at_call 20; (with_reducible refine (datum_Eq.calls 1 4609434218613702656 (⟨#[]⟩ : ByteArray) 2 0 (⟨#[97]⟩ : ByteArray) false _ A14.out).mono ?_); rintro e w43 ⟨rfl, hb⟩; replace HO182 := Aside0.mk (Kd.R_below (by (with_reducible repeat (first | apply Kd.R_alloc | apply Kd.R_drewN | apply Kd.R_drew)); exact HO182.out) hb); replace BK175 := bB BK175 hb; replace BK176 := bB BK176 hb; replace BK188 := bB BK188 hb; replace HB := bW HB hb; (try clear hb); (try clear hb2); (try clear hk); (try clear hi); obtain ⟨hcz44_0, hcz44_1, hcz44_2, hfz44_0, hfz44_1, hfz44_2⟩ := bf3 (w := w43) BK188))
          go_ret
          exact ⟨by first | rfl | (simp [errW_none, errW_some] <;> rfl) | (simp [*, errW_none, errW_some] <;> rfl), by repeat (first | (with_reducible first | exact HB.out | apply below_alloc | apply pw_below_drewN | apply below_drew1 | refine below_set ?_ GE175.out | refine below_set ?_ GE176.out | refine below_set ?_ GE188.out) | exact HB.out)⟩
         ·rw [if_neg c17] at H
          exact absurd H (by simp)
        ·rw [if_neg c16] at H
         exact absurd H (by simp)
      ·replace c13 := Bool.eq_false_iff.mpr c13
       subst c13
       have H1 : (none) = some r := by rw [if_neg (show ¬ (false = true) by decide)] at H; exact H
       clear H
       have H := H1
       clear H1
       exact absurd H (by simp)
   ·replace c7 := Bool.eq_false_iff.mpr c7
    subst c7
    have H1 : (none) = some r := by rw [if_neg (show ¬ (false = true) by decide)] at H; exact H
    clear H
    have H := H1
    clear H1
    exact absurd H (by simp)
  ·replace c5 := Bool.eq_false_iff.mpr c5
   subst c5
   have H1 : (none) = some r := by rw [if_neg (show ¬ (false = true) by decide)] at H; exact H
   clear H
   have H := H1
   clear H1
   exact absurd H (by simp)
 ·rw [if_neg c2] at H
  exact absurd H (by simp)

/-! ### engrosslaw1_Cut: function 24 -/
def engrosslaw1_Cut.f (a0 : ByteArray) (a1 : Int) : Option (ByteArray) := if (a0.size : Int) > a1 then (if 0 ≤ a1 then (if a1 ≤ (a0.size : Int) then (some (a0.extract 0 (a1 : Int).toNat)) else (none)) else (none)) else (some a0)
set_option maxHeartbeats 8000000 in
set_option maxRecDepth 100000 in
theorem engrosslaw1_Cut.calls (a0 : ByteArray) (a1 : Int) (r : ByteArray) (w : World) (h : engrosslaw1_Cut.f a0 a1 = some r) :
  Calls Try.prog 24 #[.string a0, .int .i64 a1] w fun e w' => e = .returned (.string r) ∧ Drawn0 w w' := by
 have H : (if (a0.size : Int) > a1 then (if 0 ≤ a1 then (if a1 ≤ (a0.size : Int) then (some (a0.extract 0 (a1 : Int).toNat)) else (none)) else (none)) else (some a0)) = some r := h
 clear h
 by_cases c3 : (a0.size : Int) > a1
 ·rw [if_pos c3] at H
  have c3b0 : decide (a1 < (a0.size : Int)) = true := decide_eq_true c3
  clear c3
  by_cases c4 : 0 ≤ a1
  ·rw [if_pos c4] at H
   have c4b0 := eq_true c4
   have c4b1 : decide (0 ≤ a1) = true := decide_eq_true c4
   clear c4
   by_cases c5 : a1 ≤ (a0.size : Int)
   ·rw [if_pos c5] at H
    have c5b0 := eq_true c5
    have c5b1 : decide (a1 ≤ (a0.size : Int)) = true := decide_eq_true c5
    clear c5
    obtain rfl := Option.some.inj H
    go_enter Try.func24, Try.ntmps24
    go_wp2
    go_ret
    exact ⟨by first | rfl | (simp; done) | (simp [*]; done), by repeat (first | exact Drawn0.refl _ | apply Drawn0.step)⟩
   ·rw [if_neg c5] at H
    exact absurd H (by simp)
  ·rw [if_neg c4] at H
   exact absurd H (by simp)
 ·rw [if_neg c3] at H
  have c3b0 : decide (a1 < (a0.size : Int)) = false := decide_eq_false c3
  clear c3
  obtain rfl := Option.some.inj H
  go_enter Try.func24, Try.ntmps24
  go_wp2
  go_ret
  exact ⟨by first | rfl | (simp; done) | (simp [*]; done), by repeat (first | exact Drawn0.refl _ | apply Drawn0.step)⟩

/-! ### engrosslaw4_Val: function 11 -/
def engrosslaw4_Val.f (a0 : Int) (a1 : Int) (a2 : ByteArray) : Option (Int × Nat × ByteArray) := (engrosslaw1_Cut.f a2 25).bind fun t196 => (some (a0, Int.toNat a1, t196))
set_option maxHeartbeats 8000000 in
set_option maxRecDepth 100000 in
theorem engrosslaw4_Val.calls (a0 : Int) (a1 : Int) (a2 : ByteArray) (r1 : Int) (r2 : Nat) (r3 : ByteArray) (w : World) (h : engrosslaw4_Val.f a0 a1 a2 = some (r1, r2, r3)) :
  Calls Try.prog 11 #[.int .i64 a0, .int .u64 a1, .string a2] w fun e w' => e = .returned (.agg #[.int .i64 r1, .float .f64 r2, .string r3]) ∧ Below w.heap.size w w' := by
 have hu27 := Try.underlying27
 have HB := Aside0.mk (Below.refl w.heap.size w)
 have H : ((engrosslaw1_Cut.f a2 25).bind fun t196 => (some (a0, Int.toNat a1, t196))) = some (r1, r2, r3) := h
 clear h
 replace H := Option.bind_eq_some_iff.mp H
 obtain ⟨t196, A40, H⟩ := H
 replace H : (some (a0, Int.toNat a1, t196)) = some (r1, r2, r3) := H
 have A4 := Aside0.mk A40
 clear A40
 simp only [Option.some.injEq, Prod.mk.injEq] at H
 obtain ⟨rfl, rfl, rfl⟩ := H
 go_enter Try.func11, Try.ntmps11
 go_wp2_with (first | ((with_reducible refine gate_dst (N := 6) rfl ?_); refine box_event ?hg (N := 6) ?hd (cs := #[.int .i64 0, .float .f64 0, .string (⟨#[]⟩ : ByteArray)]) (t := 27) ?hr ?_; (case hd => rfl); (case hg => rfl); (case hr => first | (go_simp; done) | (go_simp; rfl)); intro gb195 hg w5 hbox hb; have BK195 := Aside0.mk (hbox); have GW195 := bZ HB hg; have GE195 := bZ HB hg; replace HB := bW HB hb; clear hb hbox hg) | ((with_reducible refine gate_callee (f := 24) rfl ?_); refine goesL_ (some 11) rfl rfl Try.func24 (by kernel_rfl) rfl #[.string a2, .int .i64 25] rfl (by (try simp only [List.map_toArray, List.map_cons, List.map_nil]); first | done | rfl | (simp only [List.length_drop, List.length_take]; rfl)) ?_; (with_reducible refine (engrosslaw1_Cut.calls a2 25 t196 _ A4.out).mono ?_); rintro e w' ⟨rfl, ⟨nd, rfl⟩⟩; refine ⟨_, rfl, ?_⟩; (try (rw [drewN_self w5]; generalize hq_ : World.drewN w5 _ = w5; have n0_ := bE BK195 hq_.symm; have n1_ := bH HB hq_.symm; clear BK195 HB hq_; have BK195 := n0_; have HB := n1_; clear n0_ n1_)); obtain ⟨hcz6_0, hcz6_1, hcz6_2, hfz6_0, hfz6_1, hfz6_2⟩ := bf3 (w := w5) BK195))
 refine bodyPost_ret (results_cell_row rfl _ _ gb195 27 #[.int .i64 a0, .float .f64 (Int.toNat a1), .string t196] (0, 0) _ rfl (bR BK195) Try.underlying27 rfl (by kernel_rfl)) rfl ?_
 exact ⟨by first | rfl | (simp [errW_none, errW_some] <;> rfl) | (simp [*, errW_none, errW_some] <;> rfl), by repeat (first | (with_reducible first | exact HB.out | apply below_alloc | apply pw_below_drewN | apply below_drew1 | refine below_set ?_ GE195.out) | exact HB.out)⟩

/-! ### engrosslaw1_Short: function 12 -/
def engrosslaw1_Short.f (l0 : List Int) (a1 : Int) : Option (List Int) := if (l0.length : Int) > a1 then (if 0 ≤ a1 then (if a1 ≤ (l0.length : Int) then (some (l0.take (a1 : Int).toNat)) else (none)) else (none)) else (some l0)
set_option maxHeartbeats 8000000 in
set_option maxRecDepth 100000 in
theorem engrosslaw1_Short.calls (P0_ : Nat → Prop) (A0 : Option Addr) (c0 : Nat) (l0 : List Int) (a1 : Int) (r : List Int) (w : World) (hs0 : Kd.V (Kd.int .u8) 5 w w.heap.size (fun k_ => P0_ k_) (.slice A0 l0.length c0) l0) (h : engrosslaw1_Short.f l0 a1 = some r) :
  Calls Try.prog 12 #[.slice A0 l0.length c0, .int .i64 a1] w fun e w' => ∃ v0_ : Value, e = .returned (v0_) ∧ Kd.V (Kd.int .u8) 5 w' w.heap.size (fun k_ => (P0_ k_ ∨ w.heap.size ≤ k_)) v0_ r ∧ Below w.heap.size w w' := by
 have HO0 := Aside0.mk (show Kd.V (Kd.int .u8) 5 w w.heap.size (fun k_ => (P0_ k_ ∨ w.heap.size ≤ k_)) (.slice A0 l0.length c0) l0 from Kd.V_mono hs0 (fun k_ hk => .inl hk))
 have HB := Aside0.mk (Below.refl w.heap.size w)
 have H : (if (l0.length : Int) > a1 then (if 0 ≤ a1 then (if a1 ≤ (l0.length : Int) then (some (l0.take (a1 : Int).toNat)) else (none)) else (none)) else (some l0)) = some r := h
 clear h
 by_cases c3 : (l0.length : Int) > a1
 ·rw [if_pos c3] at H
  have c3b0 : decide (a1 < (l0.length : Int)) = true := decide_eq_true c3
  clear c3
  by_cases c4 : 0 ≤ a1
  ·rw [if_pos c4] at H
   have c4b0 := eq_true c4
   have c4b1 : decide (0 ≤ a1) = true := decide_eq_true c4
   clear c4
   by_cases c5 : a1 ≤ (l0.length : Int)
   ·rw [if_pos c5] at H
    have c5b0 := eq_true c5
    have c5b1 : decide (a1 ≤ (l0.length : Int)) = true := decide_eq_true c5
    clear c5
    obtain ⟨y197, hy197⟩ : ∃ y_ : List Int, y_ = (l0.take (a1 : Int).toNat) := ⟨_, rfl⟩
    replace H : (some y197) = some r := by first | (rw [hy197]; with_reducible exact H) | (have H2_ := (Option.bind_some _ _).symm.trans H; rw [hy197]; with_reducible exact H2_) | (have H2_ := (Option.bind_some _ _).symm.trans H; with_reducible exact H2_) | with_reducible exact H | (rw [hy197]; exact H) | exact H
    have Ny197 := Aside0.mk hy197
    clear hy197
    obtain rfl := Option.some.inj H
    have q6 : (a1 : Int) ≤ ((l0.length : Int) : Int) := of_decide_eq_true (by first | (with_reducible assumption) | assumption)
    obtain ⟨i06, hi06, _, hsz6, _⟩ := info_parts info5
    have hroom6 : l0.length ≤ c0 := (Kd.V_reads' HO0.out).2.1
    have hC6 : Kd.F (Kd.int .u8) _ _ A0 l0.length l0 := (Kd.V_at (base := w.heap.size) HO0.out).2.2
    have hcut6 := cut_to (P := Try.prog) 23 5 .i64 Try.underlying23 hi06 A0 l0.length c0 a1 (of_decide_eq_true (by first | (with_reducible assumption) | assumption)) q6 hroom6
    have hr6 := Kd.F_take (m := (a1 : Int).toNat) hC6 (by omega)
    have hy6 : y197.length = (a1 : Int).toNat := (by rw [Ny197.out, List.length_take]; omega)
    rw [← Ny197.out] at hr6
    rw [← hy6] at hcut6
    have HO201 := Aside0.mk (show Kd.V (Kd.int .u8) 5 _ w.heap.size _ (.slice A0 y197.length c0) y197 from Kd.V_mk (by omega) hr6)
    have HC201 := Aside0.mk (show y197.length ≤ c0 from by omega)
    clear hr6 hC6 hroom6 hi06 hsz6
    have KY6 := Aside0.mk hy6
    clear hy6
    replace q6 := eq_true q6
    go_enter Try.func12, Try.ntmps12
    go_wp2
    go_ret
    exact ⟨_, by first | rfl | (simp [errW_none, errW_some] <;> rfl) | (simp [*, errW_none, errW_some] <;> rfl), by (with_reducible repeat (first | apply Kd.V_alloc | apply Kd.V_drewN | apply Kd.V_drew)); exact HO201.out, by repeat (first | (with_reducible first | exact HB.out | apply below_alloc | apply pw_below_drewN | apply below_drew1) | exact HB.out)⟩
   ·rw [if_neg c5] at H
    exact absurd H (by simp)
  ·rw [if_neg c4] at H
   exact absurd H (by simp)
 ·rw [if_neg c3] at H
  have c3b0 : decide (a1 < (l0.length : Int)) = false := decide_eq_false c3
  clear c3
  obtain rfl := Option.some.inj H
  go_enter Try.func12, Try.ntmps12
  go_wp2
  go_ret
  exact ⟨_, by first | rfl | (simp [errW_none, errW_some] <;> rfl) | (simp [*, errW_none, errW_some] <;> rfl), by (with_reducible repeat (first | apply Kd.V_alloc | apply Kd.V_drewN | apply Kd.V_drew)); exact HO0.out, by repeat (first | (with_reducible first | exact HB.out | apply below_alloc | apply pw_below_drewN | apply below_drew1) | exact HB.out)⟩

/-! ### engrossref1_bits: function 28 -/
def engrossref1_bits.f (a0 : Nat) : Option (Int) := some ((a0 : Nat) : Int)
set_option maxHeartbeats 8000000 in
set_option maxRecDepth 100000 in
theorem engrossref1_bits.calls (a0 : Nat) (r : Int) (w : World) (h : engrossref1_bits.f a0 = some r) :
  Calls Try.prog 28 #[.float .f64 a0] w fun e w' => e = .returned (.int .u64 r) ∧ Drawn0 w w' := by
 have H : (some ((a0 : Nat) : Int)) = some r := h
 clear h
 obtain rfl := Option.some.inj H
 go_enter Try.func28, Try.ntmps28
 go_wp2
 go_ret
 exact ⟨by first | rfl | (simp; done) | (simp [*]; done), by repeat (first | exact Drawn0.refl _ | apply Drawn0.step)⟩

/-! ### engrossref1_Bits: function 19 -/
def engrossref1_Bits.f (a0 : Nat) (a1 : Nat) : Option (Bool) := (engrossref1_bits.f a0).bind fun t202 => ((engrossref1_bits.f a1).bind fun t203 => (some (t202 == t203)))
set_option maxHeartbeats 8000000 in
set_option maxRecDepth 100000 in
theorem engrossref1_Bits.calls (a0 : Nat) (a1 : Nat) (r : Bool) (w : World) (h : engrossref1_Bits.f a0 a1 = some r) :
  Calls Try.prog 19 #[.float .f64 a0, .float .f64 a1] w fun e w' => e = .returned (.bool r) ∧ Drawn0 w w' := by
 have H : ((engrossref1_bits.f a0).bind fun t202 => ((engrossref1_bits.f a1).bind fun t203 => (some (t202 == t203)))) = some r := h
 clear h
 replace H := Option.bind_eq_some_iff.mp H
 obtain ⟨t202, A30, H⟩ := H
 replace H : ((engrossref1_bits.f a1).bind fun t203 => (some (t202 == t203))) = some r := H
 have A3 := Aside0.mk A30
 clear A30
 replace H := Option.bind_eq_some_iff.mp H
 obtain ⟨t203, A40, H⟩ := H
 replace H : (some (t202 == t203)) = some r := H
 have A4 := Aside0.mk A40
 clear A40
 obtain rfl := Option.some.inj H
 go_enter Try.func19, Try.ntmps19
 go_wp2_with (first | ((with_reducible refine gate_callee (f := 28) rfl ?_); refine goesL_ (some 6) rfl rfl Try.func28 (by kernel_rfl) rfl #[.float .f64 a0] rfl (by (try simp only [List.map_toArray, List.map_cons, List.map_nil]); first | done | rfl | (simp only [List.length_drop, List.length_take]; rfl)) ?_; (with_reducible refine (engrossref1_bits.calls a0 t202 _ A3.out).mono ?_); rintro e w' ⟨rfl, ⟨nd, rfl⟩⟩; refine ⟨_, rfl, ?_⟩) | ((with_reducible refine gate_callee (f := 28) rfl ?_); refine goesL_ (some 8) rfl rfl Try.func28 (by kernel_rfl) rfl #[.float .f64 a1] rfl (by (try simp only [List.map_toArray, List.map_cons, List.map_nil]); first | done | rfl | (simp only [List.length_drop, List.length_take]; rfl)) ?_; (with_reducible refine (engrossref1_bits.calls a1 t203 _ A4.out).mono ?_); rintro e w' ⟨rfl, ⟨nd, rfl⟩⟩; refine ⟨_, rfl, ?_⟩))
 go_ret
 exact ⟨by first | rfl | (simp; done) | (simp [*]; done), by repeat (first | exact Drawn0.refl _ | apply Drawn0.step)⟩

/-! ### engrossref1_NaN: function 23 -/
def engrossref1_NaN.f (a0 : Nat) : Option (Bool) := if (Go.bits .and .u64 ((a0 : Nat) : Int) 9218868437227405312) = 9218868437227405312 then (some ((Go.bits .and .u64 ((a0 : Nat) : Int) 4503599627370495) != 0)) else (some false)
set_option maxHeartbeats 8000000 in
set_option maxRecDepth 100000 in
theorem engrossref1_NaN.calls (a0 : Nat) (r : Bool) (w : World) (h : engrossref1_NaN.f a0 = some r) :
  Calls Try.prog 23 #[.float .f64 a0] w fun e w' => e = .returned (.bool r) ∧ Drawn0 w w' := by
 have H : (if (Go.bits .and .u64 ((a0 : Nat) : Int) 9218868437227405312) = 9218868437227405312 then (some ((Go.bits .and .u64 ((a0 : Nat) : Int) 4503599627370495) != 0)) else (some false)) = some r := h
 clear h
 by_cases c2 : (Go.bits .and .u64 ((a0 : Nat) : Int) 9218868437227405312) = 9218868437227405312
 ·rw [if_pos c2] at H
  have c2b0 : ((Go.bits .and .u64 ((a0 : Nat) : Int) 9218868437227405312) == 9218868437227405312) = true := beq_iff_eq.mpr c2
  have c2b1 : ((Go.bits .and .u64 ((a0 : Nat) : Int) 9218868437227405312) != 9218868437227405312) = false := bne_eq_false_iff_eq.mpr c2
  clear c2
  obtain rfl := Option.some.inj H
  go_enter Try.func23, Try.ntmps23
  go_wp2
  go_ret
  exact ⟨by first | rfl | (simp; done) | (simp [*]; done), by repeat (first | exact Drawn0.refl _ | apply Drawn0.step)⟩
 ·rw [if_neg c2] at H
  have c2b0 : ((Go.bits .and .u64 ((a0 : Nat) : Int) 9218868437227405312) == 9218868437227405312) = false := beq_eq_false_iff_ne.mpr c2
  have c2b1 : ((Go.bits .and .u64 ((a0 : Nat) : Int) 9218868437227405312) != 9218868437227405312) = true := bne_iff_ne.mpr c2
  obtain rfl := Option.some.inj H
  go_enter Try.func23, Try.ntmps23
  go_wp2
  go_ret
  exact ⟨by first | rfl | (simp; done) | (simp [*]; done), by repeat (first | exact Drawn0.refl _ | apply Drawn0.step)⟩

/-! ### engrossref1_Clean: function 29 -/
def engrossref1_Clean.f (a0 : Nat) : Option (Nat) := (engrossref1_NaN.f a0).bind fun t204 => (if t204 = true then (some 9221120237041090560) else (some a0))
set_option maxHeartbeats 8000000 in
set_option maxRecDepth 100000 in
theorem engrossref1_Clean.calls (a0 : Nat) (r : Nat) (w : World) (h : engrossref1_Clean.f a0 = some r) :
  Calls Try.prog 29 #[.float .f64 a0] w fun e w' => e = .returned (.float .f64 r) ∧ Drawn0 w w' := by
 have H : ((engrossref1_NaN.f a0).bind fun t204 => (if t204 = true then (some 9221120237041090560) else (some a0))) = some r := h
 clear h
 replace H := Option.bind_eq_some_iff.mp H
 obtain ⟨t204, A20, H⟩ := H
 replace H : (if t204 = true then (some 9221120237041090560) else (some a0)) = some r := H
 have A2 := Aside0.mk A20
 clear A20
 by_cases c3 : t204 = true
 ·subst c3
  have H1 : (some 9221120237041090560) = some r := by rw [if_pos rfl] at H; exact H
  clear H
  have H := H1
  clear H1
  obtain rfl := Option.some.inj H
  go_enter Try.func29, Try.ntmps29
  go_wp2_with (first | ((with_reducible refine gate_callee (f := 23) rfl ?_); refine goesL_ (some 4) rfl rfl Try.func23 (by kernel_rfl) rfl #[.float .f64 a0] rfl (by (try simp only [List.map_toArray, List.map_cons, List.map_nil]); first | done | rfl | (simp only [List.length_drop, List.length_take]; rfl)) ?_; (with_reducible refine (engrossref1_NaN.calls a0 true _ A2.out).mono ?_); rintro e w' ⟨rfl, ⟨nd, rfl⟩⟩; refine ⟨_, rfl, ?_⟩))
  go_ret
  exact ⟨by first | rfl | (simp; done) | (simp [*]; done), by repeat (first | exact Drawn0.refl _ | apply Drawn0.step)⟩
 ·replace c3 := Bool.eq_false_iff.mpr c3
  subst c3
  have H1 : (some a0) = some r := by rw [if_neg (show ¬ (false = true) by decide)] at H; exact H
  clear H
  have H := H1
  clear H1
  obtain rfl := Option.some.inj H
  go_enter Try.func29, Try.ntmps29
  go_wp2_with (first | ((with_reducible refine gate_callee (f := 23) rfl ?_); refine goesL_ (some 4) rfl rfl Try.func23 (by kernel_rfl) rfl #[.float .f64 a0] rfl (by (try simp only [List.map_toArray, List.map_cons, List.map_nil]); first | done | rfl | (simp only [List.length_drop, List.length_take]; rfl)) ?_; (with_reducible refine (engrossref1_NaN.calls a0 false _ A2.out).mono ?_); rintro e w' ⟨rfl, ⟨nd, rfl⟩⟩; refine ⟨_, rfl, ?_⟩))
  go_ret
  exact ⟨by first | rfl | (simp; done) | (simp [*]; done), by repeat (first | exact Drawn0.refl _ | apply Drawn0.step)⟩

/-! ### engrossref1_MayVal: function 14 -/
def engrossref1_MayVal.f (a0_0 : Int) (a0_1 : Nat) (a0_2 : ByteArray) : Option (Bool) := if a0_0 = 0 then ((engrossref1_bits.f a0_1).bind fun t206 => (if t206 = 0 then (some (a0_2.toList == ([] : List UInt8))) else (some false))) else (if a0_0 = 1 then (if a0_2.toList = ([] : List UInt8) then ((engrossref1_Clean.f a0_1).bind fun t207 => ((engrossref1_Bits.f t207 a0_1).bind fun t208 => (some t208))) else (some false)) else (if a0_0 = 2 then ((engrossref1_bits.f a0_1).bind fun t209 => (if t209 = 0 then (some (decide ((a0_2.size : Int) ≤ 20))) else (some false))) else (some false)))
set_option maxHeartbeats 8000000 in
set_option maxRecDepth 100000 in
theorem engrossref1_MayVal.calls (a0_0 : Int) (a0_1 : Nat) (a0_2 : ByteArray) (r : Bool) (w : World) (h : engrossref1_MayVal.f a0_0 a0_1 a0_2 = some r) :
  Calls Try.prog 14 #[.agg #[.int .i64 a0_0, .float .f64 a0_1, .string a0_2]] w fun e w' => e = .returned (.bool r) ∧ Below w.heap.size w w' := by
 have hu27 := Try.underlying27
 have HB := Aside0.mk (Below.refl w.heap.size w)
 have H : (if a0_0 = 0 then ((engrossref1_bits.f a0_1).bind fun t206 => (if t206 = 0 then (some (a0_2.toList == ([] : List UInt8))) else (some false))) else (if a0_0 = 1 then (if a0_2.toList = ([] : List UInt8) then ((engrossref1_Clean.f a0_1).bind fun t207 => ((engrossref1_Bits.f t207 a0_1).bind fun t208 => (some t208))) else (some false)) else (if a0_0 = 2 then ((engrossref1_bits.f a0_1).bind fun t209 => (if t209 = 0 then (some (decide ((a0_2.size : Int) ≤ 20))) else (some false))) else (some false)))) = some r := h
 clear h
 by_cases c2 : a0_0 = 0
 ·rw [if_pos c2] at H
  have c2b0 : (a0_0 == 0) = true := beq_iff_eq.mpr c2
  have c2b1 : (a0_0 != 0) = false := bne_eq_false_iff_eq.mpr c2
  clear c2
  replace H := Option.bind_eq_some_iff.mp H
  obtain ⟨t206, A30, H⟩ := H
  replace H : (if t206 = 0 then (some (a0_2.toList == ([] : List UInt8))) else (some false)) = some r := H
  have A3 := Aside0.mk A30
  clear A30
  by_cases c4 : t206 = 0
  ·rw [if_pos c4] at H
   have c4b0 : (t206 == 0) = true := beq_iff_eq.mpr c4
   have c4b1 : (t206 != 0) = false := bne_eq_false_iff_eq.mpr c4
   clear c4
   obtain rfl := Option.some.inj H
   go_enter Try.func14, Try.ntmps14
   go_wp2_with (first | ((with_reducible refine gate_dst (N := 1) rfl ?_); (try (refine gate_guard (by rfl) ?_; dsimp only)); refine box_event ?hg (N := 1) ?hd (cs := #[.int .i64 a0_0, .float .f64 a0_1, .string a0_2]) (t := 27) ?hr ?_; (case hd => rfl); (case hg => rfl); (case hr => first | (go_simp; done) | (go_simp; rfl)); intro gb205 hg w5 hbox hb; have BK205 := Aside0.mk (hbox); have GW205 := bZ HB hg; have GE205 := bZ HB hg; replace HB := bW HB hb; clear hb hbox hg; obtain ⟨hcz6_0, hcz6_1, hcz6_2, hfz6_0, hfz6_1, hfz6_2⟩ := bf3 (w := w5) BK205) | (go_at_call 28; (with_reducible refine (engrossref1_bits.calls a0_1 t206 _ A3.out).mono ?_); rintro e w' ⟨rfl, ⟨nd, rfl⟩⟩; (try first | exact ⟨rfl, _, World.drewN_drewN _ _ _⟩ | exact ⟨rfl, _, Eq.trans (World.drewN_drewN _ _ _) (congrArg (World.drewN _) (Nat.add_assoc _ _ _))⟩)))
   repeat (go_quiet (first | ((with_reducible refine gate_dst (N := 1) rfl ?_); (try (refine gate_guard (by rfl) ?_; dsimp only)); refine box_event ?hg (N := 1) ?hd (cs := #[.int .i64 a0_0, .float .f64 a0_1, .string a0_2]) (t := 27) ?hr ?_; (case hd => rfl); (case hg => rfl); (case hr => first | (go_simp; done) | (go_simp; rfl)); intro gb205 hg w5 hbox hb; have BK205 := Aside0.mk (hbox); have GW205 := bZ HB hg; have GE205 := bZ HB hg; replace HB := bW HB hb; clear hb hbox hg; obtain ⟨hcz6_0, hcz6_1, hcz6_2, hfz6_0, hfz6_1, hfz6_2⟩ := bf3 (w := w5) BK205) | (go_at_call 28; (with_reducible refine (engrossref1_bits.calls a0_1 t206 _ A3.out).mono ?_); rintro e w' ⟨rfl, ⟨nd, rfl⟩⟩; (try first | exact ⟨rfl, _, World.drewN_drewN _ _ _⟩ | exact ⟨rfl, _, Eq.trans (World.drewN_drewN _ _ _) (congrArg (World.drewN _) (Nat.add_assoc _ _ _))⟩))); try go_wp2_with (first | ((with_reducible refine gate_dst (N := 1) rfl ?_); (try (refine gate_guard (by rfl) ?_; dsimp only)); refine box_event ?hg (N := 1) ?hd (cs := #[.int .i64 a0_0, .float .f64 a0_1, .string a0_2]) (t := 27) ?hr ?_; (case hd => rfl); (case hg => rfl); (case hr => first | (go_simp; done) | (go_simp; rfl)); intro gb205 hg w5 hbox hb; have BK205 := Aside0.mk (hbox); have GW205 := bZ HB hg; have GE205 := bZ HB hg; replace HB := bW HB hb; clear hb hbox hg; obtain ⟨hcz6_0, hcz6_1, hcz6_2, hfz6_0, hfz6_1, hfz6_2⟩ := bf3 (w := w5) BK205) | (go_at_call 28; (with_reducible refine (engrossref1_bits.calls a0_1 t206 _ A3.out).mono ?_); rintro e w' ⟨rfl, ⟨nd, rfl⟩⟩; (try first | exact ⟨rfl, _, World.drewN_drewN _ _ _⟩ | exact ⟨rfl, _, Eq.trans (World.drewN_drewN _ _ _) (congrArg (World.drewN _) (Nat.add_assoc _ _ _))⟩))))
   go_ret
   exact ⟨by first | rfl | (simp [errW_none, errW_some] <;> rfl) | (simp [*, errW_none, errW_some] <;> rfl), by repeat (first | (with_reducible first | exact HB.out | apply below_alloc | apply pw_below_drewN | apply below_drew1 | refine below_set ?_ GE205.out) | exact HB.out)⟩
  ·rw [if_neg c4] at H
   have c4b0 : (t206 == 0) = false := beq_eq_false_iff_ne.mpr c4
   have c4b1 : (t206 != 0) = true := bne_iff_ne.mpr c4
   obtain rfl := Option.some.inj H
   go_enter Try.func14, Try.ntmps14
   go_wp2_with (first | ((with_reducible refine gate_dst (N := 1) rfl ?_); (try (refine gate_guard (by rfl) ?_; dsimp only)); refine box_event ?hg (N := 1) ?hd (cs := #[.int .i64 a0_0, .float .f64 a0_1, .string a0_2]) (t := 27) ?hr ?_; (case hd => rfl); (case hg => rfl); (case hr => first | (go_simp; done) | (go_simp; rfl)); intro gb205 hg w7 hbox hb; have BK205 := Aside0.mk (hbox); have GW205 := bZ HB hg; have GE205 := bZ HB hg; replace HB := bW HB hb; clear hb hbox hg; obtain ⟨hcz8_0, hcz8_1, hcz8_2, hfz8_0, hfz8_1, hfz8_2⟩ := bf3 (w := w7) BK205) | (go_at_call 28; (with_reducible refine (engrossref1_bits.calls a0_1 t206 _ A3.out).mono ?_); rintro e w' ⟨rfl, ⟨nd, rfl⟩⟩; (try first | exact ⟨rfl, _, World.drewN_drewN _ _ _⟩ | exact ⟨rfl, _, Eq.trans (World.drewN_drewN _ _ _) (congrArg (World.drewN _) (Nat.add_assoc _ _ _))⟩)))
   repeat (go_quiet (first | ((with_reducible refine gate_dst (N := 1) rfl ?_); (try (refine gate_guard (by rfl) ?_; dsimp only)); refine box_event ?hg (N := 1) ?hd (cs := #[.int .i64 a0_0, .float .f64 a0_1, .string a0_2]) (t := 27) ?hr ?_; (case hd => rfl); (case hg => rfl); (case hr => first | (go_simp; done) | (go_simp; rfl)); intro gb205 hg w7 hbox hb; have BK205 := Aside0.mk (hbox); have GW205 := bZ HB hg; have GE205 := bZ HB hg; replace HB := bW HB hb; clear hb hbox hg; obtain ⟨hcz8_0, hcz8_1, hcz8_2, hfz8_0, hfz8_1, hfz8_2⟩ := bf3 (w := w7) BK205) | (go_at_call 28; (with_reducible refine (engrossref1_bits.calls a0_1 t206 _ A3.out).mono ?_); rintro e w' ⟨rfl, ⟨nd, rfl⟩⟩; (try first | exact ⟨rfl, _, World.drewN_drewN _ _ _⟩ | exact ⟨rfl, _, Eq.trans (World.drewN_drewN _ _ _) (congrArg (World.drewN _) (Nat.add_assoc _ _ _))⟩))); try go_wp2_with (first | ((with_reducible refine gate_dst (N := 1) rfl ?_); (try (refine gate_guard (by rfl) ?_; dsimp only)); refine box_event ?hg (N := 1) ?hd (cs := #[.int .i64 a0_0, .float .f64 a0_1, .string a0_2]) (t := 27) ?hr ?_; (case hd => rfl); (case hg => rfl); (case hr => first | (go_simp; done) | (go_simp; rfl)); intro gb205 hg w7 hbox hb; have BK205 := Aside0.mk (hbox); have GW205 := bZ HB hg; have GE205 := bZ HB hg; replace HB := bW HB hb; clear hb hbox hg; obtain ⟨hcz8_0, hcz8_1, hcz8_2, hfz8_0, hfz8_1, hfz8_2⟩ := bf3 (w := w7) BK205) | (go_at_call 28; (with_reducible refine (engrossref1_bits.calls a0_1 t206 _ A3.out).mono ?_); rintro e w' ⟨rfl, ⟨nd, rfl⟩⟩; (try first | exact ⟨rfl, _, World.drewN_drewN _ _ _⟩ | exact ⟨rfl, _, Eq.trans (World.drewN_drewN _ _ _) (congrArg (World.drewN _) (Nat.add_assoc _ _ _))⟩))))
   go_ret
   exact ⟨by first | rfl | (simp [errW_none, errW_some] <;> rfl) | (simp [*, errW_none, errW_some] <;> rfl), by repeat (first | (with_reducible first | exact HB.out | apply below_alloc | apply pw_below_drewN | apply below_drew1 | refine below_set ?_ GE205.out) | exact HB.out)⟩
 ·rw [if_neg c2] at H
  have c2b0 : (a0_0 == 0) = false := beq_eq_false_iff_ne.mpr c2
  have c2b1 : (a0_0 != 0) = true := bne_iff_ne.mpr c2
  by_cases c9 : a0_0 = 1
  ·rw [if_pos c9] at H
   have c9b0 : (a0_0 == 1) = true := beq_iff_eq.mpr c9
   have c9b1 : (a0_0 != 1) = false := bne_eq_false_iff_eq.mpr c9
   clear c9
   by_cases c10 : a0_2.toList = ([] : List UInt8)
   ·rw [if_pos c10] at H
    have c10b0 : (a0_2.toList == ([] : List UInt8)) = true := beq_iff_eq.mpr c10
    have c10b1 : (a0_2.toList != ([] : List UInt8)) = false := bne_eq_false_iff_eq.mpr c10
    clear c10
    replace H := Option.bind_eq_some_iff.mp H
    obtain ⟨t207, A110, H⟩ := H
    replace H : ((engrossref1_Bits.f t207 a0_1).bind fun t208 => (some t208)) = some r := H
    have A11 := Aside0.mk A110
    clear A110
    replace H := Option.bind_eq_some_iff.mp H
    obtain ⟨t208, A120, H⟩ := H
    replace H : (some t208) = some r := H
    have A12 := Aside0.mk A120
    clear A120
    obtain rfl := Option.some.inj H
    go_enter Try.func14, Try.ntmps14
    go_wp2_with (first | ((with_reducible refine gate_dst (N := 1) rfl ?_); (try (refine gate_guard (by rfl) ?_; dsimp only)); refine box_event ?hg (N := 1) ?hd (cs := #[.int .i64 a0_0, .float .f64 a0_1, .string a0_2]) (t := 27) ?hr ?_; (case hd => rfl); (case hg => rfl); (case hr => first | (go_simp; done) | (go_simp; rfl)); intro gb205 hg w13 hbox hb; have BK205 := Aside0.mk (hbox); have GW205 := bZ HB hg; have GE205 := bZ HB hg; replace HB := bW HB hb; clear hb hbox hg; obtain ⟨hcz14_0, hcz14_1, hcz14_2, hfz14_0, hfz14_1, hfz14_2⟩ := bf3 (w := w13) BK205) | (go_at_call 29; (with_reducible refine (engrossref1_Clean.calls a0_1 t207 _ A11.out).mono ?_); rintro e w' ⟨rfl, ⟨nd, rfl⟩⟩; (try first | exact ⟨rfl, _, World.drewN_drewN _ _ _⟩ | exact ⟨rfl, _, Eq.trans (World.drewN_drewN _ _ _) (congrArg (World.drewN _) (Nat.add_assoc _ _ _))⟩)) | (go_at_call 19; (with_reducible refine (engrossref1_Bits.calls t207 a0_1 t208 _ A12.out).mono ?_); rintro e w' ⟨rfl, ⟨nd, rfl⟩⟩; (try first | exact ⟨rfl, _, World.drewN_drewN _ _ _⟩ | exact ⟨rfl, _, Eq.trans (World.drewN_drewN _ _ _) (congrArg (World.drewN _) (Nat.add_assoc _ _ _))⟩)))
    repeat (go_quiet (first | ((with_reducible refine gate_dst (N := 1) rfl ?_); (try (refine gate_guard (by rfl) ?_; dsimp only)); refine box_event ?hg (N := 1) ?hd (cs := #[.int .i64 a0_0, .float .f64 a0_1, .string a0_2]) (t := 27) ?hr ?_; (case hd => rfl); (case hg => rfl); (case hr => first | (go_simp; done) | (go_simp; rfl)); intro gb205 hg w13 hbox hb; have BK205 := Aside0.mk (hbox); have GW205 := bZ HB hg; have GE205 := bZ HB hg; replace HB := bW HB hb; clear hb hbox hg; obtain ⟨hcz14_0, hcz14_1, hcz14_2, hfz14_0, hfz14_1, hfz14_2⟩ := bf3 (w := w13) BK205) | (go_at_call 29; (with_reducible refine (engrossref1_Clean.calls a0_1 t207 _ A11.out).mono ?_); rintro e w' ⟨rfl, ⟨nd, rfl⟩⟩; (try first | exact ⟨rfl, _, World.drewN_drewN _ _ _⟩ | exact ⟨rfl, _, Eq.trans (World.drewN_drewN _ _ _) (congrArg (World.drewN _) (Nat.add_assoc _ _ _))⟩)) | (go_at_call 19; (with_reducible refine (engrossref1_Bits.calls t207 a0_1 t208 _ A12.out).mono ?_); rintro e w' ⟨rfl, ⟨nd, rfl⟩⟩; (try first | exact ⟨rfl, _, World.drewN_drewN _ _ _⟩ | exact ⟨rfl, _, Eq.trans (World.drewN_drewN _ _ _) (congrArg (World.drewN _) (Nat.add_assoc _ _ _))⟩))); try go_wp2_with (first | ((with_reducible refine gate_dst (N := 1) rfl ?_); (try (refine gate_guard (by rfl) ?_; dsimp only)); refine box_event ?hg (N := 1) ?hd (cs := #[.int .i64 a0_0, .float .f64 a0_1, .string a0_2]) (t := 27) ?hr ?_; (case hd => rfl); (case hg => rfl); (case hr => first | (go_simp; done) | (go_simp; rfl)); intro gb205 hg w13 hbox hb; have BK205 := Aside0.mk (hbox); have GW205 := bZ HB hg; have GE205 := bZ HB hg; replace HB := bW HB hb; clear hb hbox hg; obtain ⟨hcz14_0, hcz14_1, hcz14_2, hfz14_0, hfz14_1, hfz14_2⟩ := bf3 (w := w13) BK205) | (go_at_call 29; (with_reducible refine (engrossref1_Clean.calls a0_1 t207 _ A11.out).mono ?_); rintro e w' ⟨rfl, ⟨nd, rfl⟩⟩; (try first | exact ⟨rfl, _, World.drewN_drewN _ _ _⟩ | exact ⟨rfl, _, Eq.trans (World.drewN_drewN _ _ _) (congrArg (World.drewN _) (Nat.add_assoc _ _ _))⟩)) | (go_at_call 19; (with_reducible refine (engrossref1_Bits.calls t207 a0_1 t208 _ A12.out).mono ?_); rintro e w' ⟨rfl, ⟨nd, rfl⟩⟩; (try first | exact ⟨rfl, _, World.drewN_drewN _ _ _⟩ | exact ⟨rfl, _, Eq.trans (World.drewN_drewN _ _ _) (congrArg (World.drewN _) (Nat.add_assoc _ _ _))⟩))))
    go_ret
    exact ⟨by first | rfl | (simp [errW_none, errW_some] <;> rfl) | (simp [*, errW_none, errW_some] <;> rfl), by repeat (first | (with_reducible first | exact HB.out | apply below_alloc | apply pw_below_drewN | apply below_drew1 | refine below_set ?_ GE205.out) | exact HB.out)⟩
   ·rw [if_neg c10] at H
    have c10b0 : (a0_2.toList == ([] : List UInt8)) = false := beq_eq_false_iff_ne.mpr c10
    have c10b1 : (a0_2.toList != ([] : List UInt8)) = true := bne_iff_ne.mpr c10
    obtain rfl := Option.some.inj H
    go_enter Try.func14, Try.ntmps14
    go_wp2_with (first | ((with_reducible refine gate_dst (N := 1) rfl ?_); (try (refine gate_guard (by rfl) ?_; dsimp only)); refine box_event ?hg (N := 1) ?hd (cs := #[.int .i64 a0_0, .float .f64 a0_1, .string a0_2]) (t := 27) ?hr ?_; (case hd => rfl); (case hg => rfl); (case hr => first | (go_simp; done) | (go_simp; rfl)); intro gb205 hg w15 hbox hb; have BK205 := Aside0.mk (hbox); have GW205 := bZ HB hg; have GE205 := bZ HB hg; replace HB := bW HB hb; clear hb hbox hg; obtain ⟨hcz16_0, hcz16_1, hcz16_2, hfz16_0, hfz16_1, hfz16_2⟩ := bf3 (w := w15) BK205))
    repeat (go_quiet (first | ((with_reducible refine gate_dst (N := 1) rfl ?_); (try (refine gate_guard (by rfl) ?_; dsimp only)); refine box_event ?hg (N := 1) ?hd (cs := #[.int .i64 a0_0, .float .f64 a0_1, .string a0_2]) (t := 27) ?hr ?_; (case hd => rfl); (case hg => rfl); (case hr => first | (go_simp; done) | (go_simp; rfl)); intro gb205 hg w15 hbox hb; have BK205 := Aside0.mk (hbox); have GW205 := bZ HB hg; have GE205 := bZ HB hg; replace HB := bW HB hb; clear hb hbox hg; obtain ⟨hcz16_0, hcz16_1, hcz16_2, hfz16_0, hfz16_1, hfz16_2⟩ := bf3 (w := w15) BK205)); try go_wp2_with (first | ((with_reducible refine gate_dst (N := 1) rfl ?_); (try (refine gate_guard (by rfl) ?_; dsimp only)); refine box_event ?hg (N := 1) ?hd (cs := #[.int .i64 a0_0, .float .f64 a0_1, .string a0_2]) (t := 27) ?hr ?_; (case hd => rfl); (case hg => rfl); (case hr => first | (go_simp; done) | (go_simp; rfl)); intro gb205 hg w15 hbox hb; have BK205 := Aside0.mk (hbox); have GW205 := bZ HB hg; have GE205 := bZ HB hg; replace HB := bW HB hb; clear hb hbox hg; obtain ⟨hcz16_0, hcz16_1, hcz16_2, hfz16_0, hfz16_1, hfz16_2⟩ := bf3 (w := w15) BK205)))
    go_ret
    exact ⟨by first | rfl | (simp [errW_none, errW_some] <;> rfl) | (simp [*, errW_none, errW_some] <;> rfl), by repeat (first | (with_reducible first | exact HB.out | apply below_alloc | apply pw_below_drewN | apply below_drew1 | refine below_set ?_ GE205.out) | exact HB.out)⟩
  ·rw [if_neg c9] at H
   have c9b0 : (a0_0 == 1) = false := beq_eq_false_iff_ne.mpr c9
   have c9b1 : (a0_0 != 1) = true := bne_iff_ne.mpr c9
   by_cases c17 : a0_0 = 2
   ·rw [if_pos c17] at H
    have c17b0 : (a0_0 == 2) = true := beq_iff_eq.mpr c17
    have c17b1 : (a0_0 != 2) = false := bne_eq_false_iff_eq.mpr c17
    clear c17
    replace H := Option.bind_eq_some_iff.mp H
    obtain ⟨t209, A180, H⟩ := H
    replace H : (if t209 = 0 then (some (decide ((a0_2.size : Int) ≤ 20))) else (some false)) = some r := H
    have A18 := Aside0.mk A180
    clear A180
    by_cases c19 : t209 = 0
    ·rw [if_pos c19] at H
     have c19b0 : (t209 == 0) = true := beq_iff_eq.mpr c19
     have c19b1 : (t209 != 0) = false := bne_eq_false_iff_eq.mpr c19
     clear c19
     obtain rfl := Option.some.inj H
     go_enter Try.func14, Try.ntmps14
     go_wp2_with (first | ((with_reducible refine gate_dst (N := 1) rfl ?_); (try (refine gate_guard (by rfl) ?_; dsimp only)); refine box_event ?hg (N := 1) ?hd (cs := #[.int .i64 a0_0, .float .f64 a0_1, .string a0_2]) (t := 27) ?hr ?_; (case hd => rfl); (case hg => rfl); (case hr => first | (go_simp; done) | (go_simp; rfl)); intro gb205 hg w20 hbox hb; have BK205 := Aside0.mk (hbox); have GW205 := bZ HB hg; have GE205 := bZ HB hg; replace HB := bW HB hb; clear hb hbox hg; obtain ⟨hcz21_0, hcz21_1, hcz21_2, hfz21_0, hfz21_1, hfz21_2⟩ := bf3 (w := w20) BK205) | (go_at_call 28; (with_reducible refine (engrossref1_bits.calls a0_1 t209 _ A18.out).mono ?_); rintro e w' ⟨rfl, ⟨nd, rfl⟩⟩; (try first | exact ⟨rfl, _, World.drewN_drewN _ _ _⟩ | exact ⟨rfl, _, Eq.trans (World.drewN_drewN _ _ _) (congrArg (World.drewN _) (Nat.add_assoc _ _ _))⟩)))
     repeat (go_quiet (first | ((with_reducible refine gate_dst (N := 1) rfl ?_); (try (refine gate_guard (by rfl) ?_; dsimp only)); refine box_event ?hg (N := 1) ?hd (cs := #[.int .i64 a0_0, .float .f64 a0_1, .string a0_2]) (t := 27) ?hr ?_; (case hd => rfl); (case hg => rfl); (case hr => first | (go_simp; done) | (go_simp; rfl)); intro gb205 hg w20 hbox hb; have BK205 := Aside0.mk (hbox); have GW205 := bZ HB hg; have GE205 := bZ HB hg; replace HB := bW HB hb; clear hb hbox hg; obtain ⟨hcz21_0, hcz21_1, hcz21_2, hfz21_0, hfz21_1, hfz21_2⟩ := bf3 (w := w20) BK205) | (go_at_call 28; (with_reducible refine (engrossref1_bits.calls a0_1 t209 _ A18.out).mono ?_); rintro e w' ⟨rfl, ⟨nd, rfl⟩⟩; (try first | exact ⟨rfl, _, World.drewN_drewN _ _ _⟩ | exact ⟨rfl, _, Eq.trans (World.drewN_drewN _ _ _) (congrArg (World.drewN _) (Nat.add_assoc _ _ _))⟩))); try go_wp2_with (first | ((with_reducible refine gate_dst (N := 1) rfl ?_); (try (refine gate_guard (by rfl) ?_; dsimp only)); refine box_event ?hg (N := 1) ?hd (cs := #[.int .i64 a0_0, .float .f64 a0_1, .string a0_2]) (t := 27) ?hr ?_; (case hd => rfl); (case hg => rfl); (case hr => first | (go_simp; done) | (go_simp; rfl)); intro gb205 hg w20 hbox hb; have BK205 := Aside0.mk (hbox); have GW205 := bZ HB hg; have GE205 := bZ HB hg; replace HB := bW HB hb; clear hb hbox hg; obtain ⟨hcz21_0, hcz21_1, hcz21_2, hfz21_0, hfz21_1, hfz21_2⟩ := bf3 (w := w20) BK205) | (go_at_call 28; (with_reducible refine (engrossref1_bits.calls a0_1 t209 _ A18.out).mono ?_); rintro e w' ⟨rfl, ⟨nd, rfl⟩⟩; (try first | exact ⟨rfl, _, World.drewN_drewN _ _ _⟩ | exact ⟨rfl, _, Eq.trans (World.drewN_drewN _ _ _) (congrArg (World.drewN _) (Nat.add_assoc _ _ _))⟩))))
     go_ret
     exact ⟨by first | rfl | (simp [errW_none, errW_some] <;> rfl) | (simp [*, errW_none, errW_some] <;> rfl), by repeat (first | (with_reducible first | exact HB.out | apply below_alloc | apply pw_below_drewN | apply below_drew1 | refine below_set ?_ GE205.out) | exact HB.out)⟩
    ·rw [if_neg c19] at H
     have c19b0 : (t209 == 0) = false := beq_eq_false_iff_ne.mpr c19
     have c19b1 : (t209 != 0) = true := bne_iff_ne.mpr c19
     obtain rfl := Option.some.inj H
     go_enter Try.func14, Try.ntmps14
     go_wp2_with (first | ((with_reducible refine gate_dst (N := 1) rfl ?_); (try (refine gate_guard (by rfl) ?_; dsimp only)); refine box_event ?hg (N := 1) ?hd (cs := #[.int .i64 a0_0, .float .f64 a0_1, .string a0_2]) (t := 27) ?hr ?_; (case hd => rfl); (case hg => rfl); (case hr => first | (go_simp; done) | (go_simp; rfl)); intro gb205 hg w22 hbox hb; have BK205 := Aside0.mk (hbox); have GW205 := bZ HB hg; have GE205 := bZ HB hg; replace HB := bW HB hb; clear hb hbox hg; obtain ⟨hcz23_0, hcz23_1, hcz23_2, hfz23_0, hfz23_1, hfz23_2⟩ := bf3 (w := w22) BK205) | (go_at_call 28; (with_reducible refine (engrossref1_bits.calls a0_1 t209 _ A18.out).mono ?_); rintro e w' ⟨rfl, ⟨nd, rfl⟩⟩; (try first | exact ⟨rfl, _, World.drewN_drewN _ _ _⟩ | exact ⟨rfl, _, Eq.trans (World.drewN_drewN _ _ _) (congrArg (World.drewN _) (Nat.add_assoc _ _ _))⟩)))
     repeat (go_quiet (first | ((with_reducible refine gate_dst (N := 1) rfl ?_); (try (refine gate_guard (by rfl) ?_; dsimp only)); refine box_event ?hg (N := 1) ?hd (cs := #[.int .i64 a0_0, .float .f64 a0_1, .string a0_2]) (t := 27) ?hr ?_; (case hd => rfl); (case hg => rfl); (case hr => first | (go_simp; done) | (go_simp; rfl)); intro gb205 hg w22 hbox hb; have BK205 := Aside0.mk (hbox); have GW205 := bZ HB hg; have GE205 := bZ HB hg; replace HB := bW HB hb; clear hb hbox hg; obtain ⟨hcz23_0, hcz23_1, hcz23_2, hfz23_0, hfz23_1, hfz23_2⟩ := bf3 (w := w22) BK205) | (go_at_call 28; (with_reducible refine (engrossref1_bits.calls a0_1 t209 _ A18.out).mono ?_); rintro e w' ⟨rfl, ⟨nd, rfl⟩⟩; (try first | exact ⟨rfl, _, World.drewN_drewN _ _ _⟩ | exact ⟨rfl, _, Eq.trans (World.drewN_drewN _ _ _) (congrArg (World.drewN _) (Nat.add_assoc _ _ _))⟩))); try go_wp2_with (first | ((with_reducible refine gate_dst (N := 1) rfl ?_); (try (refine gate_guard (by rfl) ?_; dsimp only)); refine box_event ?hg (N := 1) ?hd (cs := #[.int .i64 a0_0, .float .f64 a0_1, .string a0_2]) (t := 27) ?hr ?_; (case hd => rfl); (case hg => rfl); (case hr => first | (go_simp; done) | (go_simp; rfl)); intro gb205 hg w22 hbox hb; have BK205 := Aside0.mk (hbox); have GW205 := bZ HB hg; have GE205 := bZ HB hg; replace HB := bW HB hb; clear hb hbox hg; obtain ⟨hcz23_0, hcz23_1, hcz23_2, hfz23_0, hfz23_1, hfz23_2⟩ := bf3 (w := w22) BK205) | (go_at_call 28; (with_reducible refine (engrossref1_bits.calls a0_1 t209 _ A18.out).mono ?_); rintro e w' ⟨rfl, ⟨nd, rfl⟩⟩; (try first | exact ⟨rfl, _, World.drewN_drewN _ _ _⟩ | exact ⟨rfl, _, Eq.trans (World.drewN_drewN _ _ _) (congrArg (World.drewN _) (Nat.add_assoc _ _ _))⟩))))
     go_ret
     exact ⟨by first | rfl | (simp [errW_none, errW_some] <;> rfl) | (simp [*, errW_none, errW_some] <;> rfl), by repeat (first | (with_reducible first | exact HB.out | apply below_alloc | apply pw_below_drewN | apply below_drew1 | refine below_set ?_ GE205.out) | exact HB.out)⟩
   ·rw [if_neg c17] at H
    have c17b0 : (a0_0 == 2) = false := beq_eq_false_iff_ne.mpr c17
    have c17b1 : (a0_0 != 2) = true := bne_iff_ne.mpr c17
    obtain rfl := Option.some.inj H
    go_enter Try.func14, Try.ntmps14
    go_wp2_with (first | ((with_reducible refine gate_dst (N := 1) rfl ?_); (try (refine gate_guard (by rfl) ?_; dsimp only)); refine box_event ?hg (N := 1) ?hd (cs := #[.int .i64 a0_0, .float .f64 a0_1, .string a0_2]) (t := 27) ?hr ?_; (case hd => rfl); (case hg => rfl); (case hr => first | (go_simp; done) | (go_simp; rfl)); intro gb205 hg w24 hbox hb; have BK205 := Aside0.mk (hbox); have GW205 := bZ HB hg; have GE205 := bZ HB hg; replace HB := bW HB hb; clear hb hbox hg; obtain ⟨hcz25_0, hcz25_1, hcz25_2, hfz25_0, hfz25_1, hfz25_2⟩ := bf3 (w := w24) BK205))
    repeat (go_quiet (first | ((with_reducible refine gate_dst (N := 1) rfl ?_); (try (refine gate_guard (by rfl) ?_; dsimp only)); refine box_event ?hg (N := 1) ?hd (cs := #[.int .i64 a0_0, .float .f64 a0_1, .string a0_2]) (t := 27) ?hr ?_; (case hd => rfl); (case hg => rfl); (case hr => first | (go_simp; done) | (go_simp; rfl)); intro gb205 hg w24 hbox hb; have BK205 := Aside0.mk (hbox); have GW205 := bZ HB hg; have GE205 := bZ HB hg; replace HB := bW HB hb; clear hb hbox hg; obtain ⟨hcz25_0, hcz25_1, hcz25_2, hfz25_0, hfz25_1, hfz25_2⟩ := bf3 (w := w24) BK205)); try go_wp2_with (first | ((with_reducible refine gate_dst (N := 1) rfl ?_); (try (refine gate_guard (by rfl) ?_; dsimp only)); refine box_event ?hg (N := 1) ?hd (cs := #[.int .i64 a0_0, .float .f64 a0_1, .string a0_2]) (t := 27) ?hr ?_; (case hd => rfl); (case hg => rfl); (case hr => first | (go_simp; done) | (go_simp; rfl)); intro gb205 hg w24 hbox hb; have BK205 := Aside0.mk (hbox); have GW205 := bZ HB hg; have GE205 := bZ HB hg; replace HB := bW HB hb; clear hb hbox hg; obtain ⟨hcz25_0, hcz25_1, hcz25_2, hfz25_0, hfz25_1, hfz25_2⟩ := bf3 (w := w24) BK205)))
    go_ret
    exact ⟨by first | rfl | (simp [errW_none, errW_some] <;> rfl) | (simp [*, errW_none, errW_some] <;> rfl), by repeat (first | (with_reducible first | exact HB.out | apply below_alloc | apply pw_below_drewN | apply below_drew1 | refine below_set ?_ GE205.out) | exact HB.out)⟩

end Go.Proofs.Ythfpmpnedaliaaa.P
