/- Functions of the program as Lean functions, and that each call answers as its function does. No condition. (Lines written by a generator of this session.) -/
import Derived.Test.YtijnfnlahhgpgaaDoorPx0
import Derived.Test.YtijnfnlahhgpgaaDoorPx2
import Derived.Test.YtijnfnlahhgpgaaDoorPx4
import Derived.Test.YtijnfnlahhgpgaaDoorPx5
import Derived.Test.YtijnfnlahhgpgaaDoorXM
namespace Go.Proofs.YtijnfnlahhgpgaaDoor.P
open Go.RowKit Go.Proofs.YtijnfnlahhgpgaaDoorW.PrintWords Go.Proofs.YtijnfnlahhgpgaaDoorW.PrintLast Go.Proofs.YtijnfnlahhgpgaaDoorW.PrintMore
attribute [local go_sem] max2_int min2_int max_two min_two max_three min_three max_four min_four   -- for this text's walks alone
attribute [local go_sem] x_str_gtr x_str_leq x_str_geq  Instr.field asAgg
set_option linter.unusedVariables false
set_option linter.unusedSimpArgs false

/-! ### engrosslaw16_ChangeOwn: function 8 -/
def engrosslaw16_ChangeOwn.l0 : Nat → Int → List Int → List (S38) → Int → Int → Option (Bool)
 | 0, _, _, _, _, _ => none
 | k + 1, x0, x4, x5, x23, x24 => if x24 < x23 then (if 0 ≤ x24 then (if x24 < (x4.length : Int) then (engrosslaw16_ChangeOwn.l0 k x0 (x4.set (x24 : Int).toNat (((rd x4 x24) + 1) % 256)) x5 x23 (wrap64 (x24 + 1))) else (none)) else (none)) else (if (x5.length : Int) = 1 then (if 0 < (x5.length : Int) then (if 0 < (((rd_T38 x5 0).f1).length : Int) then (if (rd ((rd_T38 x5 0).f1) 0) = x0 then (if 1 < (((rd_T38 x5 0).f1).length : Int) then (if (rd ((rd_T38 x5 0).f1) 1) = 1 then (some ((((rd_T38 x5 0).f1).length : Int) == 256)) else (none)) else (none)) else (none)) else (none)) else (none)) else (none))
def engrosslaw16_ChangeOwn.f (k : Nat) (a0 : Int) : Option (Bool) := (engrosslaw16_begun.f k).bind fun t331 => (if t331 = true then ((engrosslaw9_Of.f (([a0, 1] : List Int))).bind fun t335 => ((change_Encode.f k (([(⟨3, t335⟩ : S38)] : List (S38)))).bind fun t341 => ((change_Decode.f k t341).bind fun bt344 => (engrosslaw16_ChangeOwn.l0 k a0 t341 bt344.1 (t341.length : Int) 0)))) else (none))
theorem engrosslaw16_ChangeOwn.mono_l : ∀ k, (∀ y0 y1 y2 y3 y4, LeO (engrosslaw16_ChangeOwn.l0 k y0 y1 y2 y3 y4) (engrosslaw16_ChangeOwn.l0 (k + 1) y0 y1 y2 y3 y4))
 | 0 => fun _ _ _ _ _ r h => by simp [engrosslaw16_ChangeOwn.l0] at h
 | k + 1 => by
  have ih0 := engrosslaw16_ChangeOwn.mono_l k
  ·intro y0 y1 y2 y3 y4
   unfold engrosslaw16_ChangeOwn.l0
   repeat' first
   | (with_reducible exact ih0 _ _ _ _ _)
   | (with_reducible exact change_Decode.mono _ _)
   | (with_reducible exact change_Encode.mono _ _)
   | (with_reducible exact engrosslaw16_begun.mono _)
   | (with_reducible exact LeO.refl _)
   | (with_reducible exact LeO.none _)
   | (with_reducible refine LeO.ite ?_ ?_)
   | (with_reducible refine LeO.bind ?_ (fun _ => ?_))
   | exact ih0 _ _ _ _ _
   | exact change_Decode.mono _ _
   | exact change_Encode.mono _ _
   | exact engrosslaw16_begun.mono _
   | exact LeO.none _
   | refine LeO.ite ?_ ?_
   | refine LeO.bind ?_ (fun _ => ?_)
theorem engrosslaw16_ChangeOwn.mono : ∀ a0 k, LeO (engrosslaw16_ChangeOwn.f k a0) (engrosslaw16_ChangeOwn.f (k + 1) a0) := by
 intro a0 k
 have ih0 := engrosslaw16_ChangeOwn.mono_l k
 unfold engrosslaw16_ChangeOwn.f
 repeat' first
   | (with_reducible exact ih0 _ _ _ _ _)
   | (with_reducible exact change_Decode.mono _ _)
   | (with_reducible exact change_Encode.mono _ _)
   | (with_reducible exact engrosslaw16_begun.mono _)
   | (with_reducible exact LeO.refl _)
   | (with_reducible exact LeO.none _)
   | (with_reducible refine LeO.ite ?_ ?_)
   | (with_reducible refine LeO.bind ?_ (fun _ => ?_))
   | exact ih0 _ _ _ _ _
   | exact change_Decode.mono _ _
   | exact change_Encode.mono _ _
   | exact engrosslaw16_begun.mono _
   | exact LeO.none _
   | refine LeO.ite ?_ ?_
   | refine LeO.bind ?_ (fun _ => ?_)
set_option maxHeartbeats 8000000 in
set_option maxRecDepth 100000 in
theorem engrosslaw16_ChangeOwn.calls (k : Nat) (a0 : Int) (r : Bool) (w : World) (h : engrosslaw16_ChangeOwn.f k a0 = some r) :
  Calls Tryd.prog 8 #[.int .u8 a0] w fun e w' => e = .returned (.bool r) ∧ Below w.heap.size w w' := by
 have hu38 := Tryd.underlying38
 have HB := Aside0.mk (Below.refl w.heap.size w)
 have H : ((engrosslaw16_begun.f k).bind fun t331 => (if t331 = true then ((engrosslaw9_Of.f (([a0, 1] : List Int))).bind fun t335 => ((change_Encode.f k (([(⟨3, t335⟩ : S38)] : List (S38)))).bind fun t341 => ((change_Decode.f k t341).bind fun bt344 => (engrosslaw16_ChangeOwn.l0 k a0 t341 bt344.1 (t341.length : Int) 0)))) else (none))) = some r := h
 clear h
 replace H := Option.bind_eq_some_iff.mp H
 obtain ⟨t331, A20, H⟩ := H
 replace H : (if t331 = true then ((engrosslaw9_Of.f (([a0, 1] : List Int))).bind fun t335 => ((change_Encode.f k (([(⟨3, t335⟩ : S38)] : List (S38)))).bind fun t341 => ((change_Decode.f k t341).bind fun bt344 => (engrosslaw16_ChangeOwn.l0 k a0 t341 bt344.1 (t341.length : Int) 0)))) else (none)) = some r := H
 have A2 := Aside0.mk A20
 clear A20
 by_cases c3 : t331 = true
 ·subst c3
  have H1 : ((engrosslaw9_Of.f (([a0, 1] : List Int))).bind fun t335 => ((change_Encode.f k (([(⟨3, t335⟩ : S38)] : List (S38)))).bind fun t341 => ((change_Decode.f k t341).bind fun bt344 => (engrosslaw16_ChangeOwn.l0 k a0 t341 bt344.1 (t341.length : Int) 0)))) = some r := by rw [if_pos rfl] at H; exact H
  clear H
  have H := H1
  clear H1
  obtain ⟨y332, hy332⟩ : ∃ y_ : List Int, y_ = (([a0, 1] : List Int)) := ⟨_, rfl⟩
  replace H : ((engrosslaw9_Of.f y332).bind fun t335 => ((change_Encode.f k (([(⟨3, t335⟩ : S38)] : List (S38)))).bind fun t341 => ((change_Decode.f k t341).bind fun bt344 => (engrosslaw16_ChangeOwn.l0 k a0 t341 bt344.1 (t341.length : Int) 0)))) = some r := by first | (rw [hy332]; with_reducible exact H) | (have H2_ := (Option.bind_some _ _).symm.trans H; rw [hy332]; with_reducible exact H2_) | (have H2_ := (Option.bind_some _ _).symm.trans H; with_reducible exact H2_) | with_reducible exact H | (rw [hy332]; exact H) | exact H
  have Ny332 := Aside0.mk hy332
  clear hy332
  replace H := Option.bind_eq_some_iff.mp H
  obtain ⟨t335, A40, H⟩ := H
  replace H : ((change_Encode.f k (([(⟨3, t335⟩ : S38)] : List (S38)))).bind fun t341 => ((change_Decode.f k t341).bind fun bt344 => (engrosslaw16_ChangeOwn.l0 k a0 t341 bt344.1 (t341.length : Int) 0))) = some r := H
  have A4 := Aside0.mk A40
  clear A40
  obtain ⟨y338, hy338⟩ : ∃ y_ : List (S38), y_ = (([(⟨3, t335⟩ : S38)] : List (S38))) := ⟨_, rfl⟩
  replace H : ((change_Encode.f k y338).bind fun t341 => ((change_Decode.f k t341).bind fun bt344 => (engrosslaw16_ChangeOwn.l0 k a0 t341 bt344.1 (t341.length : Int) 0))) = some r := by first | (rw [hy338]; with_reducible exact H) | (have H2_ := (Option.bind_some _ _).symm.trans H; rw [hy338]; with_reducible exact H2_) | (have H2_ := (Option.bind_some _ _).symm.trans H; with_reducible exact H2_) | with_reducible exact H | (rw [hy338]; exact H) | exact H
  have Ny338 := Aside0.mk hy338
  clear hy338
  replace H := Option.bind_eq_some_iff.mp H
  obtain ⟨t341, A50, H⟩ := H
  replace H : ((change_Decode.f k t341).bind fun bt344 => (engrosslaw16_ChangeOwn.l0 k a0 t341 bt344.1 (t341.length : Int) 0)) = some r := H
  have A5 := Aside0.mk A50
  clear A50
  replace H := Option.bind_eq_some_iff.mp H
  obtain ⟨⟨t344, t345⟩, A60, H⟩ := H
  replace H : (engrosslaw16_ChangeOwn.l0 k a0 t341 t344 (t341.length : Int) 0) = some r := H
  have A6 := Aside0.mk A60
  clear A60
  have H' := Aside0.mk H
  clear H
  go_enter Tryd.func8, Tryd.ntmps8
  go_wp2_with (first | ((with_reducible refine gate_callee (f := 9) rfl ?_); refine goesL_ (some 8) rfl rfl Tryd.func9 (by kernel_rfl) rfl #[] rfl (by (try simp only [List.map_toArray, List.map_cons, List.map_nil]); first | done | rfl | (simp only [List.length_drop, List.length_take]; rfl)) ?_; (with_reducible refine (engrosslaw16_begun.calls k  true _ A2.out).mono ?_); rintro e w7 ⟨rfl, hb⟩; refine ⟨_, rfl, ?_⟩; replace HB := bW HB hb; (try clear hb); (try clear hb2); (try clear hk); (try clear hi)) | ((with_reducible refine gate_dst (N := 12) rfl ?_); (try (refine gate_guard (by rfl) ?_; dsimp only)); refine Kd.R_lit (Kd.int .u8) _ 5 ?hg (N := 12) ?hd (xs := ([a0, 1] : List Int)) (inner := [.int .u8 a0, .int .u8 1]) (ok := fun _ => True) (okp := fun _ => True) ?hr ?hp (fun _ hk => hk) trivial (Below.refl _ _) (Nat.le_refl _) (by simp) ?_; (case hd => rfl); (case hg => rfl); (case hr => first | (go_simp; done) | (go_simp; rfl)); (case hp => exact (Reps.one (show Kd.M (Kd.int .u8) _ _ _ a0 [.int .u8 a0] from rfl) (Reps.one (show Kd.M (Kd.int .u8) _ _ _ 1 [.int .u8 1] from rfl) (Reps.none _ _)))); intro v333 w8 ho9 hb hg_ hnew_; clear hg_ hnew_; (first | rw [← Ny332.out] at ho9 | (simp only [Int.reduceToNat] at ho9; rw [← Ny332.out] at ho9)); have HO334 := Aside0.mk (Kd.R_lower ho9 (below_size (bC HB))); replace HB := bW HB hb; clear hb ho9; obtain ⟨Ao10, co10, eo10⟩ := Kd.R_slice HO334.out; subst eo10) | ((with_reducible refine gate_callee (f := 20) rfl ?_); refine goesL_ (some 13) rfl rfl Tryd.func20 (by kernel_rfl) rfl #[.slice Ao10 y332.length co10] rfl (by (try simp only [List.map_toArray, List.map_cons, List.map_nil]); first | done | rfl | (simp only [List.length_drop, List.length_take]; rfl)) ?_; (with_reducible refine (engrosslaw9_Of.calls _ _ y332 t335 _ ?side1 ?side2 A4.out).mono ?_); (case side1 => repeat (first | exact (Kd.R_reads' HO334.out).2.2 | (with_reducible refine Kd.C_alloc ?_ _) | (with_reducible refine Kd.C_drewN ?_ _) | (with_reducible refine Kd.C_drew ?_))); (case side2 => exact (Kd.R_reads' HO334.out).2.1); rintro e w11 ⟨v336, rfl, ho0, hb⟩; refine ⟨_, rfl, ?_⟩; have HO337 := Aside0.mk (Kd.R_lower (Kd.R_new' ho0 (Kd.R_lt (by (with_reducible repeat (first | apply Kd.R_alloc | apply Kd.R_drewN | apply Kd.R_drew)); exact HO334.out))) (below_size (bC HB))); replace HO334 := Aside0.mk (Kd.R_elder' (by (with_reducible repeat (first | apply Kd.R_alloc | apply Kd.R_drewN | apply Kd.R_drew)); exact HO334.out) (Kd.R_base ho0) hb); replace HB := bW HB hb; (try clear hb); (try clear hb2); (try clear hk); (try clear hi); (try clear ho0); obtain ⟨Ao12, co12, eo12⟩ := Kd.R_slice HO337.out; subst eo12) | ((with_reducible refine gate_dst (N := 15) rfl ?_); (try (refine gate_guard (by rfl) ?_; dsimp only)); refine Kd.N_lit k38 _ 38 ?hg (N' := 15) ?hd (xs := ([(⟨3, t335⟩ : S38)] : List (S38))) (inner := [.int .i64 3, .slice Ao12 t335.length co12]) (ok := (fun k_ => some k_ ≠ (.slice Ao10 y332.length co10 : Value).ownBlock)) (okp := (fun k_ => some k_ ≠ (.slice Ao10 y332.length co10 : Value).ownBlock)) ?hr ?hp (fun _ hk => hk) ((show ∀ k_, w11.heap.size ≤ k_ → (fun k_ => some k_ ≠ (.slice Ao10 y332.length co10 : Value).ownBlock) k_ from fun k_ hk => Kd.fresh' (Kd.R_lt (by (with_reducible repeat (first | apply Kd.R_alloc | apply Kd.R_drewN | apply Kd.R_drew)); exact HO334.out)) k_ hk) _ (Nat.le_refl _)) (Below.refl _ _) (Nat.le_refl _) (by simp) ?_; (case hd => rfl); (case hg => rfl); (case hr => first | (go_simp; done) | (go_simp; rfl)); (case hp => exact (Reps.c2 (show Kd.FK k38 _ _ (⟨3, t335⟩ : S38) [.int .i64 3, .slice Ao12 t335.length co12] from (k38_mkF _ _ (⟨3, t335⟩ : S38) (Kd.R_reads' (Kd.R_mono (ok' := (fun k_ => some k_ ≠ (.slice Ao10 y332.length co10 : Value).ownBlock)) (HO337.out) (fun k_ hk => hk.2))).2.1 (Kd.R_F (Kd.R_mono (ok' := (fun k_ => some k_ ≠ (.slice Ao10 y332.length co10 : Value).ownBlock)) (HO337.out) (fun k_ hk => hk.2))))) (Reps.none _ _))); intro v339 w13 ho14 hb hg_ hnew_; clear hg_ hnew_; (first | rw [← Ny338.out] at ho14 | (simp only [Int.reduceToNat] at ho14; rw [← Ny338.out] at ho14)); have HO340 := Aside0.mk (Kd.N_lower ho14 (below_size (bC HB))); replace HO334 := Aside0.mk (Kd.R_below (by (with_reducible repeat (first | apply Kd.R_alloc | apply Kd.R_drewN | apply Kd.R_drew)); exact HO334.out) hb); replace HB := bW HB hb; clear HO337; clear hb ho14; obtain ⟨Ao15, co15, eo15⟩ := Kd.N_slice HO340.out; subst eo15) | ((with_reducible refine gate_callee (f := 11) rfl ?_); refine goesL_ (some 16) rfl rfl Tryd.func11 (by kernel_rfl) rfl #[.slice Ao15 y338.length co15] rfl (by (try simp only [List.map_toArray, List.map_cons, List.map_nil]); first | done | rfl | (simp only [List.length_drop, List.length_take]; rfl)) ?_; (with_reducible refine (change_Encode.calls k _ _ y338 t341 _ ?side1 ?side2 A5.out).mono ?_); (case side1 => repeat (first | exact (Kd.N_reads' HO340.out).2.2 | (with_reducible refine Kd.C_alloc ?_ _) | (with_reducible refine Kd.C_drewN ?_ _) | (with_reducible refine Kd.C_drew ?_))); (case side2 => exact (Kd.N_reads' HO340.out).2.1); rintro e w16 ⟨v342, rfl, ho0, hb⟩; refine ⟨_, rfl, ?_⟩; have HO343 := Aside0.mk (Kd.R_lower (Kd.R_new' ho0 (Kd.R_lt (by (with_reducible repeat (first | apply Kd.R_alloc | apply Kd.R_drewN | apply Kd.R_drew)); exact HO334.out))) (below_size (bC HB))); replace HO334 := Aside0.mk (Kd.R_elder' (by (with_reducible repeat (first | apply Kd.R_alloc | apply Kd.R_drewN | apply Kd.R_drew)); exact HO334.out) (Kd.R_base ho0) hb); replace HO340 := Aside0.mk (Kd.N_elder' (by (with_reducible repeat (first | apply Kd.N_alloc | apply Kd.N_drewN | apply Kd.N_drew)); exact HO340.out) (Kd.R_base ho0) hb); replace HB := bW HB hb; (try clear hb); (try clear hb2); (try clear hk); (try clear hi); (try clear ho0); obtain ⟨Ao17, co17, eo17⟩ := Kd.R_slice HO343.out; subst eo17) | ((with_reducible refine gate_callee (f := 17) rfl ?_); refine goesL_ (some 19) rfl rfl Tryd.func17 (by kernel_rfl) rfl #[.slice Ao17 t341.length co17] rfl (by (try simp only [List.map_toArray, List.map_cons, List.map_nil]); first | done | rfl | (simp only [List.length_drop, List.length_take]; rfl)) ?_; (with_reducible refine (change_Decode.calls k _ _ t341 t344 t345 _ ?side1 ?side2 A6.out).mono ?_); (case side1 => repeat (first | exact (Kd.R_reads' HO343.out).2.2 | (with_reducible refine Kd.C_alloc ?_ _) | (with_reducible refine Kd.C_drewN ?_ _) | (with_reducible refine Kd.C_drew ?_))); (case side2 => exact (Kd.R_reads' HO343.out).2.1); rintro e w18 ⟨v346, rfl, ho0, hb⟩; refine ⟨_, rfl, ?_⟩; have HO347 := Aside0.mk (Kd.N_lower (Kd.N_mono (ok' := fun k_ => some k_ ≠ (.slice Ao10 y332.length co10 : Value).ownBlock ∧ some k_ ≠ (.slice Ao15 y338.length co15 : Value).ownBlock ∧ some k_ ≠ (.slice Ao17 t341.length co17 : Value).ownBlock) (Kd.S_N (Kd.S_bound ho0)) (fun k_ hk_ => ⟨(Kd.fresh' (Kd.R_lt (by (with_reducible repeat (first | apply Kd.R_alloc | apply Kd.R_drewN | apply Kd.R_drew)); exact HO334.out)) k_ hk_.2.1), (Kd.fresh' (Kd.N_lt (by (with_reducible repeat (first | apply Kd.N_alloc | apply Kd.N_drewN | apply Kd.N_drew)); exact HO340.out)) k_ hk_.2.1), (Kd.fresh' (Kd.R_lt (by (with_reducible repeat (first | apply Kd.R_alloc | apply Kd.R_drewN | apply Kd.R_drew)); exact HO343.out)) k_ hk_.2.1)⟩)) (below_size (bC HB))); replace HO334 := Aside0.mk (Kd.R_below (by (with_reducible repeat (first | apply Kd.R_alloc | apply Kd.R_drewN | apply Kd.R_drew)); exact HO334.out) hb); replace HO340 := Aside0.mk (Kd.N_elder' (by (with_reducible repeat (first | apply Kd.N_alloc | apply Kd.N_drewN | apply Kd.N_drew)); exact HO340.out) (Kd.N_base (Kd.S_N ho0)) hb); replace HO343 := Aside0.mk (Kd.R_below (by (with_reducible repeat (first | apply Kd.R_alloc | apply Kd.R_drewN | apply Kd.R_drew)); exact HO343.out) hb); replace HB := bW HB hb; (try clear hb); (try clear hb2); (try clear hk); (try clear hi); (try clear ho0)))
  go_loopg [24] k (fun kq v24 w' => ∃ (x4_1 : List Int) (x24_1 : Int), v24 = .int .i64 x24_1 ∧ Aside0 (engrosslaw16_ChangeOwn.l0 kq a0 x4_1 t344 (t341.length : Int) x24_1 = some r) ∧ Aside0 (kq ≤ k) ∧ Aside0 (Kd.R (Kd.int .u8) 5 w' w.heap.size (fun _ => True) (.slice Ao17 t341.length co17) x4_1) ∧ Aside0 (Kd.N k38 38 w' w.heap.size (fun k_ => some k_ ≠ ((.slice Ao17 t341.length co17) : Value).ownBlock) v346 t344) ∧ Aside0 (Below w.heap.size w w'))
  case atStart => exact ⟨(t341), (0), (by first | rfl | (simp; done) | (simp [*]; done)), H', ⟨Nat.le_refl _⟩, ⟨by (with_reducible repeat (first | apply Kd.R_alloc | apply Kd.R_drewN | apply Kd.R_drew)); exact Kd.R_mono HO343.out (fun _ hk => trivial)⟩, ⟨by (with_reducible repeat (first | apply Kd.N_alloc | apply Kd.N_drewN | apply Kd.N_drew)); exact Kd.N_mono HO347.out (fun _ hk => hk.2.2)⟩, ⟨by repeat (first | (with_reducible first | exact HB.out | apply below_alloc | apply pw_below_drewN | apply below_drew1) | exact HB.out)⟩⟩
  case round =>
   clear H'
   try clear c1
   try clear c2
   try clear p2
   try clear c3
   try clear c8
   try clear c9
   try clear c11
   try clear c17
   obtain ⟨x4_1, x24_1, rfl, HA, HK1, HO_4, HO_5, HB⟩ := hrel
   have hl4_1 := (Kd.R_reads' HO_4.out).1
   rw [hl4_1] at HO_4
   (try simp only [hl4_1])
   (try simp only [hl4_1] at HO_5)
   cases gk with
   | zero => exact absurd HA.out (by simp [engrosslaw16_ChangeOwn.l0])
   | succ k1 =>
    have H := HA.out
    clear HA
    simp only [engrosslaw16_ChangeOwn.l0] at H
    by_cases c19 : x24_1 < (t341.length : Int)
    ·rw [if_pos c19] at H
     have c19b0 : decide (x24_1 < (t341.length : Int)) = true := decide_eq_true c19
     clear c19
     (try (have c19x0 := c19b0; simp only [hl4_1] at c19x0))
     by_cases c20 : 0 ≤ x24_1
     ·rw [if_pos c20] at H
      have c20b0 : decide (0 ≤ x24_1) = true := decide_eq_true c20
      clear c20
      by_cases c21 : x24_1 < (x4_1.length : Int)
      ·rw [if_pos c21] at H
       have c21b0 : decide (x24_1 < (x4_1.length : Int)) = true := decide_eq_true c21
       clear c21
       (try (have c21x0 := c21b0; simp only [hl4_1] at c21x0))
       obtain ⟨y349, hy349⟩ : ∃ y_ : List Int, y_ = (x4_1.set (x24_1 : Int).toNat (((rd x4_1 x24_1) + 1) % 256)) := ⟨_, rfl⟩
       replace H : (engrosslaw16_ChangeOwn.l0 k1 a0 y349 t344 (t341.length : Int) (wrap64 (x24_1 + 1))) = some r := by first | (rw [hy349]; with_reducible exact H) | (have H2_ := (Option.bind_some _ _).symm.trans H; rw [hy349]; with_reducible exact H2_) | (have H2_ := (Option.bind_some _ _).symm.trans H; with_reducible exact H2_) | with_reducible exact H | (rw [hy349]; exact H) | exact H
       have Ny349 := Aside0.mk hy349
       clear hy349
       have H' := Aside0.mk H
       clear H
       have p348 : 0 ≤ (x24_1 : Int) := of_decide_eq_true (by first | (with_reducible assumption) | assumption)
       have q348 : x24_1 < (x4_1.length : Int) := of_decide_eq_true (by first | (with_reducible assumption) | assumption)
       obtain ⟨ad348, e348, hx348_0⟩ := Kd.at_int (Kd.R_reads' HO_4.out).2.2 x24_1 p348 q348
       cases e348
       replace p348 := eq_true p348
       replace q348 := eq_true q348
       have p22 : 0 ≤ (x24_1 : Int) := of_decide_eq_true (by first | (with_reducible assumption) | assumption)
       have q22 : (x24_1 : Int) < ((x4_1.length : Int) : Int) := of_decide_eq_true (by first | (with_reducible assumption) | assumption)
       obtain ⟨go22, co22, eo22, gb22, gl22, cl22, HG22⟩ := Kd.R_form HO_4.out (by omega)
       (first | cases eo22 | (injection eo22 with ea_ en_ ec_; (first | subst ea_ | (injection ea_ with ea_; subst ea_)); subst ec_; clear en_))
       have GB22 := Aside0.mk gb22
       have GG22 := Aside0.mk HG22
       clear gb22 gl22 HG22
       (first | simp only [add_plain] at hx348_0 | skip)
       obtain ⟨hx22_0, hf22_0⟩ := Kd.R_celln 0 HO_4.out (x24_1 : Int) p22 q22
       replace p22 := eq_true p22
       replace q22 := eq_true q22
       have HP23 := Kd.R_putg HO_4.out (x24_1 : Int) (((rd x4_1 x24_1) + 1) % 256)
       go_wp2_with (first | ((with_reducible refine gate_store (t := 5) (p := 32) rfl ?_); refine store_event (t := 5) (p := 32) (v := ?vo_w24) (w1 := (wr.setCell ⟨go22, (x24_1 : Int).toNat, none⟩ (.int .u8 (((rd x4_1 x24_1) + 1) % 256)))) ?hg ?ho ?hn ?hr ?_; (case ho => rfl); (case hg => rfl); (case hn => rfl); (case hr => first | (go_simp; done) | (go_simp; rfl)); intro w24 hw; have hg : wr.grownBy w24 (some go22) := (by rw [hw]; exact HP23.2); have hp_ : Kd.R (Kd.int .u8) 5 w24 w.heap.size (fun _ => True) (.slice (some ⟨go22, 0, none⟩) x4_1.length co17) y349 := (by rw [hw, Ny349.out]; exact HP23.1); clear HP23; replace HO_4 := Aside0.mk (hp_); replace HO_5 := Aside0.mk (Kd.N_afterv (v := (.slice (some ⟨go22, 0, none⟩) x4_1.length co17)) (v1 := (.slice (some ⟨go22, 0, none⟩) x4_1.length co17)) (ok := (fun _ => True)) (by (with_reducible repeat (first | apply Kd.N_alloc | apply Kd.N_drewN | apply Kd.N_drew)); exact Kd.N_mono HO_5.out (fun _ hk => ⟨trivial, hk⟩)) hg (.inl rfl)); replace HB := Aside0.mk ((by rw [hw]; exact below_set (HB.out) GB22.out : Below w.heap.size w w24)); clear hg hw hp_))
       (try simp only [← hl4_1])
       go_roundg k1
       case measure => have := HK1.out; omega
       case rel => exact ⟨(y349), (wrap64 (x24_1 + 1)), (by first | rfl | (simp; done) | (simp [*]; done)), H', ⟨by have := HK1.out; omega⟩, ⟨by (try simp only [hl4_1]); (with_reducible repeat (first | apply Kd.R_alloc | apply Kd.R_drewN | apply Kd.R_drew)); exact HO_4.out⟩, ⟨by (try simp only [hl4_1]); (with_reducible repeat (first | apply Kd.N_alloc | apply Kd.N_drewN | apply Kd.N_drew)); exact Kd.N_mono HO_5.out (fun _ hk => hk.2)⟩, ⟨by repeat (first | (with_reducible first | exact HB.out | apply below_alloc | apply pw_below_drewN | apply below_drew1) | exact HB.out)⟩⟩
      ·rw [if_neg c21] at H
       exact absurd H (by simp)
     ·rw [if_neg c20] at H
      exact absurd H (by simp)
    ·rw [if_neg c19] at H
     have c19b0 : decide (x24_1 < (t341.length : Int)) = false := decide_eq_false c19
     clear c19
     (try (have c19x0 := c19b0; simp only [hl4_1] at c19x0))
     by_cases c25 : (t344.length : Int) = 1
     ·rw [if_pos c25] at H
      have c25b0 : ((t344.length : Int) == 1) = true := beq_iff_eq.mpr c25
      have c25b1 : ((t344.length : Int) != 1) = false := bne_eq_false_iff_eq.mpr c25
      clear c25
      (try (have c25x0 := c25b0; simp only [hl4_1] at c25x0))
      by_cases c26 : 0 < (t344.length : Int)
      ·rw [if_pos c26] at H
       have c26b0 : decide (0 < (t344.length : Int)) = true := decide_eq_true c26
       have c26b1 : decide (0 < t344.length) = true := decide_eq_true (by omega)
       clear c26
       (try (have c26x0 := c26b0; simp only [hl4_1] at c26x0))
       by_cases c27 : 0 < (((rd_T38 t344 0).f1).length : Int)
       ·rw [if_pos c27] at H
        have c27b0 : decide (0 < (((rd_T38 t344 0).f1).length : Int)) = true := decide_eq_true c27
        have c27b1 : decide (0 < ((rd_T38 t344 0).f1).length) = true := decide_eq_true (by omega)
        clear c27
        (try (have c27x0 := c27b0; simp only [hl4_1] at c27x0))
        by_cases c28 : (rd ((rd_T38 t344 0).f1) 0) = a0
        ·rw [if_pos c28] at H
         have c28b0 : ((rd ((rd_T38 t344 0).f1) 0) == a0) = true := beq_iff_eq.mpr c28
         have c28b1 : ((rd ((rd_T38 t344 0).f1) 0) != a0) = false := bne_eq_false_iff_eq.mpr c28
         clear c28
         by_cases c29 : 1 < (((rd_T38 t344 0).f1).length : Int)
         ·rw [if_pos c29] at H
          have c29b0 : decide (1 < (((rd_T38 t344 0).f1).length : Int)) = true := decide_eq_true c29
          have c29b1 : decide (1 < ((rd_T38 t344 0).f1).length) = true := decide_eq_true (by omega)
          clear c29
          (try (have c29x0 := c29b0; simp only [hl4_1] at c29x0))
          by_cases c30 : (rd ((rd_T38 t344 0).f1) 1) = 1
          ·rw [if_pos c30] at H
           have c30b0 : ((rd ((rd_T38 t344 0).f1) 1) == 1) = true := beq_iff_eq.mpr c30
           have c30b1 : ((rd ((rd_T38 t344 0).f1) 1) != 1) = false := bne_eq_false_iff_eq.mpr c30
           clear c30
           obtain rfl := Option.some.inj H
           obtain ⟨Ao31, co31, eo31⟩ := Kd.N_slice HO_5.out
           subst eo31
           have p350 : 0 ≤ (0 : Int) := (by omega)
           have q350 : 0 < (t344.length : Int) := of_decide_eq_true (by first | (with_reducible assumption) | assumption)
           obtain ⟨ad350, A350_1, c350_1, e350, hx350_0, hx350_1, hl350_1, hi350_1⟩ := at_T38 (Kd.N_reads' HO_5.out).2.2 0 p350 q350
           cases e350
           obtain ⟨ce350, hce350, hMe350, hcc350⟩ := Kd.N_get HO_5.out z38 0 p350 (by first | exact q350 | exact of_decide_eq_true (by first | (with_reducible assumption) | assumption) | (have e_ := (Kd.N_reads' HO_5.out).1; omega))
           obtain ⟨ua350_1, uc350_1, rfl, ul350_1, ge350_1⟩ := k38_openF hMe350
           have hv350_1 := hcc350 1 _ rfl
           rw [add_field _ _ 1 (by omega)] at hv350_1
           replace hv350_1 := Option.some.inj (hv350_1.symm.trans hx350_1)
           injection hv350_1 with hva_ hvn_ hvc_
           rw [hva_] at ge350_1
           rw [hvc_] at ul350_1
           have HL350_1 := Aside0.mk (show Kd.V (Kd.int .u8) 5 _ w.heap.size _ _ ((rd_T38 t344 0).f1) from Kd.V_mk ul350_1 ge350_1)
           clear hva_ hvn_ hvc_ ge350_1 ul350_1
           clear hcc350 hce350
           have qi350 : (0 < t344.length) = True := eq_true (by omega)
           (try rw [show ((0 : Int)).toNat = 0 from rfl] at hx350_0)
           (try rw [show 0 * 2 = 0 from rfl] at hx350_0)
           (try rw [Addr.add_zero'] at hx350_0)
           (try rw [show ((0 : Int)).toNat = 0 from rfl] at hx350_1)
           (try rw [show 0 * 2 = 0 from rfl] at hx350_1)
           (try rw [Addr.add_zero'] at hx350_1)
           have HR350_1 := Aside0.mk hi350_1
           have HC350_1 := Aside0.mk hl350_1
           clear hi350_1 hl350_1
           replace p350 := eq_true p350
           replace q350 := eq_true q350
           have p351 : 0 ≤ (0 : Int) := (by omega)
           have q351 : 0 < (((rd_T38 t344 0).f1).length : Int) := of_decide_eq_true (by first | (with_reducible assumption) | assumption)
           obtain ⟨ad351, e351, hx351_0⟩ := Kd.at_int (by repeat (first | (with_reducible exact HR350_1.out) | (with_reducible refine Kd.C_alloc ?_ _) | (with_reducible refine Kd.C_drewN ?_ _) | (with_reducible refine Kd.C_drew ?_) | exact HR350_1.out)) 0 p351 q351
           cases e351
           have qi351 : (0 < ((rd_T38 t344 0).f1).length) = True := eq_true (by omega)
           (try rw [show ((0 : Int)).toNat = 0 from rfl] at hx351_0)
           (try rw [Addr.add_zero'] at hx351_0)
           replace p351 := eq_true p351
           replace q351 := eq_true q351
           have p352 : 0 ≤ (0 : Int) := (by omega)
           have q352 : 0 < (t344.length : Int) := of_decide_eq_true (by first | (with_reducible assumption) | assumption)
           obtain ⟨ad352, A352_1, c352_1, e352, hx352_0, hx352_1, hl352_1, hi352_1⟩ := at_T38 (Kd.N_reads' HO_5.out).2.2 0 p352 q352
           obtain rfl : ad350 = ad352 := (by injection e352)
           obtain ⟨ce352, hce352, hMe352, hcc352⟩ := Kd.N_get HO_5.out z38 0 p352 (by first | exact q352 | exact of_decide_eq_true (by first | (with_reducible assumption) | assumption) | (have e_ := (Kd.N_reads' HO_5.out).1; omega))
           obtain ⟨ua352_1, uc352_1, rfl, ul352_1, ge352_1⟩ := k38_openF hMe352
           have hv352_1 := hcc352 1 _ rfl
           rw [add_field _ _ 1 (by omega)] at hv352_1
           replace hv352_1 := Option.some.inj (hv352_1.symm.trans hx352_1)
           injection hv352_1 with hva_ hvn_ hvc_
           rw [hva_] at ge352_1
           rw [hvc_] at ul352_1
           have HL352_1 := Aside0.mk (show Kd.V (Kd.int .u8) 5 _ w.heap.size _ _ ((rd_T38 t344 0).f1) from Kd.V_mk ul352_1 ge352_1)
           clear hva_ hvn_ hvc_ ge352_1 ul352_1
           clear hcc352 hce352
           have qi352 : (0 < t344.length) = True := eq_true (by omega)
           (try rw [show ((0 : Int)).toNat = 0 from rfl] at hx352_0)
           (try rw [show 0 * 2 = 0 from rfl] at hx352_0)
           (try rw [Addr.add_zero'] at hx352_0)
           (try rw [show ((0 : Int)).toNat = 0 from rfl] at hx352_1)
           (try rw [show 0 * 2 = 0 from rfl] at hx352_1)
           (try rw [Addr.add_zero'] at hx352_1)
           have HR352_1 := Aside0.mk hi352_1
           have HC352_1 := Aside0.mk hl352_1
           clear hi352_1 hl352_1
           replace p352 := eq_true p352
           replace q352 := eq_true q352
           have ea_ := Option.some.inj (hx350_1.symm.trans hx352_1)
           injection ea_ with ea_ en_ ec_
           subst ea_
           subst ec_
           clear en_
           have p353 : 0 ≤ (1 : Int) := (by omega)
           have q353 : 1 < (((rd_T38 t344 0).f1).length : Int) := of_decide_eq_true (by first | (with_reducible assumption) | assumption)
           obtain ⟨ad353, e353, hx353_0⟩ := Kd.at_int (by repeat (first | (with_reducible exact HR352_1.out) | (with_reducible refine Kd.C_alloc ?_ _) | (with_reducible refine Kd.C_drewN ?_ _) | (with_reducible refine Kd.C_drew ?_) | exact HR352_1.out)) 1 p353 q353
           cases e353
           (try simp only [show (1 : Int).toNat = 1 from rfl, Nat.reduceMul, Nat.reduceEqDiff, Go.Addr.add, ↓reduceIte] at hx353_0)
           have qi353 : (1 < ((rd_T38 t344 0).f1).length) = True := eq_true (by omega)
           (try rw [show ((1 : Int)).toNat = 1 from rfl] at hx353_0)
           replace p353 := eq_true p353
           replace q353 := eq_true q353
           have p354 : 0 ≤ (0 : Int) := (by omega)
           have q354 : 0 < (t344.length : Int) := of_decide_eq_true (by first | (with_reducible assumption) | assumption)
           obtain ⟨ad354, A354_1, c354_1, e354, hx354_0, hx354_1, hl354_1, hi354_1⟩ := at_T38 (Kd.N_reads' HO_5.out).2.2 0 p354 q354
           obtain rfl : ad350 = ad354 := (by injection e354)
           obtain ⟨ce354, hce354, hMe354, hcc354⟩ := Kd.N_get HO_5.out z38 0 p354 (by first | exact q354 | exact of_decide_eq_true (by first | (with_reducible assumption) | assumption) | (have e_ := (Kd.N_reads' HO_5.out).1; omega))
           obtain ⟨ua354_1, uc354_1, rfl, ul354_1, ge354_1⟩ := k38_openF hMe354
           have hv354_1 := hcc354 1 _ rfl
           rw [add_field _ _ 1 (by omega)] at hv354_1
           replace hv354_1 := Option.some.inj (hv354_1.symm.trans hx354_1)
           injection hv354_1 with hva_ hvn_ hvc_
           rw [hva_] at ge354_1
           rw [hvc_] at ul354_1
           have HL354_1 := Aside0.mk (show Kd.V (Kd.int .u8) 5 _ w.heap.size _ _ ((rd_T38 t344 0).f1) from Kd.V_mk ul354_1 ge354_1)
           clear hva_ hvn_ hvc_ ge354_1 ul354_1
           clear hcc354 hce354
           have qi354 : (0 < t344.length) = True := eq_true (by omega)
           (try rw [show ((0 : Int)).toNat = 0 from rfl] at hx354_0)
           (try rw [show 0 * 2 = 0 from rfl] at hx354_0)
           (try rw [Addr.add_zero'] at hx354_0)
           (try rw [show ((0 : Int)).toNat = 0 from rfl] at hx354_1)
           (try rw [show 0 * 2 = 0 from rfl] at hx354_1)
           (try rw [Addr.add_zero'] at hx354_1)
           have HR354_1 := Aside0.mk hi354_1
           have HC354_1 := Aside0.mk hl354_1
           clear hi354_1 hl354_1
           replace p354 := eq_true p354
           replace q354 := eq_true q354
           have ea_ := Option.some.inj (hx350_1.symm.trans hx354_1)
           injection ea_ with ea_ en_ ec_
           subst ea_
           subst ec_
           clear en_
           go_wp2
           go_ret
           exact ⟨by first | rfl | (simp [errW_none, errW_some] <;> rfl) | (simp [*, errW_none, errW_some] <;> rfl), by repeat (first | (with_reducible first | exact HB.out | apply below_alloc | apply pw_below_drewN | apply below_drew1) | exact HB.out)⟩
          ·rw [if_neg c30] at H
           exact absurd H (by simp)
         ·rw [if_neg c29] at H
          exact absurd H (by simp)
        ·rw [if_neg c28] at H
         exact absurd H (by simp)
       ·rw [if_neg c27] at H
        exact absurd H (by simp)
      ·rw [if_neg c26] at H
       exact absurd H (by simp)
     ·rw [if_neg c25] at H
      exact absurd H (by simp)
 ·replace c3 := Bool.eq_false_iff.mpr c3
  subst c3
  have H1 : (none) = some r := by rw [if_neg (show ¬ (false = true) by decide)] at H; exact H
  clear H
  have H := H1
  clear H1
  exact absurd H (by simp)

/-- THE ONE PURE STATEMENT of engrosslaw16_ChangeOwn: yours. -/
def engrosslaw16_ChangeOwn.Pure : Prop := ∀ (a0 : Int), (Lit.int .u8 a0).wf = true → ∃ k, engrosslaw16_ChangeOwn.f k a0 = some true
theorem engrosslaw16_ChangeOwn.walk (P : engrosslaw16_ChangeOwn.Pure) (a0 : Int) (w : World) (w0 : (Lit.int .u8 a0).wf = true) :
  Calls Tryd.prog 8 #[.int .u8 a0] w fun e w' => e = .returned (.bool true) ∧ Below w.heap.size w w' := by
 obtain ⟨k, h⟩ := P a0 w0
 refine (engrosslaw16_ChangeOwn.calls k a0 true w h).mono ?_
 rintro e w' ⟨rfl, hd⟩
 exact ⟨rfl, hd⟩

end Go.Proofs.YtijnfnlahhgpgaaDoor.P
